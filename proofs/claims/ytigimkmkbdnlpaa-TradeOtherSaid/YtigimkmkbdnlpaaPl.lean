/- What Place and Take compute. -/
import Derived.Test.YtigimkmkbdnlpaaOwn
namespace Go.Proofs.Ytigimkmkbdnlpaa
open Go.RowKit

noncomputable def placeR (t : Trade) (m : Msg) : Trade × Msg × Int :=
  if chk t m.frm = 480 then (Trade.zero, Msg.zero, 480)
  else if t.next = 4096 then (Trade.zero, Msg.zero, 2)
  else if ok { m with no := t.next } = true ∧ begins { m with no := t.next } = true then ({ t with next := t.next + 1, placed := t.placed ++ [{ m with no := t.next }] }, { m with no := t.next }, 0)
  else (Trade.zero, Msg.zero, 480)
theorem chk_ne {t : Trade} {id : Int} (k : (chk t id != 0) = true) : chk t id = 480 := by
  rcases chk_two t id with h | h
  · rw [h] at k; cases k
  · exact h
theorem chk_eq {t : Trade} {id : Int} (k : (chk t id != 0) = false) : chk t id = 0 := by simpa using k
theorem place_1 {t : Trade} {m : Msg} (k : (chk t m.frm != 0) = true) : placeR t m = (Trade.zero, Msg.zero, chk t m.frm) := by
  simp [placeR, chk_ne k]
theorem place_2 {t : Trade} {T : TV} {m : Msg} (hn : T.next = t.next) (k : (chk t m.frm != 0) = false) (k2 : ((T.next : Int) == (4096 : Int)) = true) : placeR t m = (Trade.zero, Msg.zero, 2) := by
  rw [hn] at k2
  have : t.next = 4096 := by simpa using k2
  simp [placeR, chk_eq k, this]
theorem place_3 {t : Trade} {T : TV} {m : Msg} (hn : T.next = t.next) (k : (chk t m.frm != 0) = false) (k2 : ((T.next : Int) == (4096 : Int)) = false) (k3 : ((!ok { m with no := T.next }) || (!begins { m with no := T.next })) = true) : placeR t m = (Trade.zero, Msg.zero, 480) := by
  rw [hn] at k2 k3
  have : ¬ t.next = 4096 := by simpa using k2
  simp only [placeR, chk_eq k]
  rw [if_neg (by decide), if_neg this, if_neg]
  rintro ⟨h1, h2⟩
  simp [h1, h2] at k3
theorem place_4 {t : Trade} {T : TV} {m : Msg} (hn : T.next = t.next) (k : (chk t m.frm != 0) = false) (k2 : ((T.next : Int) == (4096 : Int)) = false) (k3 : ((!ok { m with no := T.next }) || (!begins { m with no := T.next })) = false) :
    placeR t m = ({ t with next := t.next + 1, placed := t.placed ++ [{ m with no := T.next }] }, { m with no := T.next }, 0) := by
  rw [hn] at k2 k3 ⊢
  have : ¬ t.next = 4096 := by simpa using k2
  simp only [placeR, chk_eq k]
  rw [if_neg (by decide), if_neg this, if_pos (by simpa using k3)]
/-- The next number is small: the trade is in order. -/
theorem next_small {t : Trade} {T : TV} {id : Int} (hn : T.next = t.next) (k : (chk t id != 0) = false) : -9223372036854775808 ≤ T.next + 1 ∧ T.next + 1 ≤ 9223372036854775807 := by
  have h := chk_iff.1 (chk_eq k)
  have h1 := h.next
  have h2 := (h.fine 0 (by omega)).1
  simp only [l3] at h2
  omega
theorem placed_len {t : Trade} {id : Int} (k : (chk t id != 0) = false) : t.placed.length + 1 ≤ 100000 := by
  have := ((chk_iff.1 (chk_eq k)).fine 0 (by omega)).1
  simp only [l3] at this
  omega
theorem received_len {t : Trade} {id : Int} (k : (chk t id != 0) = false) : t.received.length + 1 ≤ 100000 := by
  have := ((chk_iff.1 (chk_eq k)).fine 1 (by omega)).1
  simp only [l3] at this
  omega
theorem done_len {t : Trade} {id : Int} (k : (chk t id != 0) = false) : t.done.length + 1 ≤ 100000 := by
  have := ((chk_iff.1 (chk_eq k)).fine 2 (by omega)).1
  simp only [l3] at this
  omega
/-! ### append onto the empty slice -/
theorem run_append_none' (w : World) (ty : TypeId) (A B : Option Addr) (n c c' : Nat) (h : n ≤ c) : (Builtin.append_ #[22, 22] ty #[.slice A n c, .slice B 0 c']).run Try.prog w = .ok (.slice A n c) w := by
  obtain ⟨i0, hi, _⟩ := info_parts info30
  cases A <;> cases B <;> simp [Builtin.append_, run_underlying Try.underlying22, Builtin.lenOf, sizeOf, typeInfo, hi, h, Builtin.firstCells, storeCells, loadCells, loadCellsFrom]
section
variable {bs : List Nat} {w0 w : World} {v : Value} {ns : List Msg} {N : Nat} {ρ : Ro} {dst : Option Tmp} {ty : TypeId} {pos : String} {aft : Array Edge} {g : Option (Nat × Bool)}
theorem Y.own0c (hl : LtAll bs w) : ∃ u w', (execOp (mk N ρ).eval ⟨dst, .buildSlice 22 0 #[], ty, pos, aft, g⟩).run Try.prog w = .ok (.value u) w' ∧ (∃ v, u = v ∧ Grow w w' ∧ Own bs w w' v 0 [] ∧ ∀ a c, v = .slice a 0 c → c = 0) := by
  refine ⟨_, _, X.slice0, _, rfl, Grow.alloc _ _, ⟨⟨rfl, .inr ⟨w.heap.size, 0, #[], rfl, Nat.le_refl _, heap_alloc_new w _, Nat.le_refl _, by decide, rfl, rfl⟩⟩, ?_⟩, fun a c h => by cases h; rfl⟩
  intro b hb hm
  simp only [Value.ownBlock, Option.some.injEq] at hb
  have := hl b hm
  omega
theorem Y.append0 {x y : Operand} {u : SV} (hx : (mk N ρ).eval x = v) (hy : (mk N ρ).eval y = u.val) (hs : Own bs w0 w v 0 []) (hc : ∀ a c, v = .slice a 0 c → c = 0) (hu : Sl bs w u ns) (hlen : ns.length ≤ 100000) (r : Grow w0 w) (hl0 : LtAll bs w0) (hl : LtAll bs w) :
    ∃ q w', (execOp (mk N ρ).eval ⟨dst, .call { callee := .builtin .append, args := #[x, y], argTypes := #[22, 22] }, ty, pos, aft, g⟩).run Try.prog w = .ok (.value q) w' ∧ (∃ v' k, q = v' ∧ Grow w w' ∧ Own bs w0 w' v' k ns) := by
  by_cases hn : ns = []
  · subst hn
    have hun : u.n = 0 := hu.len
    have hv : ∃ a c, v = .slice a 0 c := by
      rcases hs.own.2 with ⟨h, _⟩ | ⟨g, cap, _, h, _⟩
      · exact ⟨_, _, h⟩
      · exact ⟨_, _, h⟩
    obtain ⟨a, c, hv⟩ := hv
    refine ⟨v, w, exec_append hx hy ?_, v, 0, rfl, Chg.refl _, hs⟩
    have eu : u.val = .slice u.a 0 u.c := by rw [SV.val, hun]
    rw [hv, eu]
    exact run_append_none' w ty a u.a 0 c u.c (Nat.zero_le _)
  · obtain ⟨_, w', h1, v', k, rfl, _, h5⟩ := Y.appendOwn (dst := dst) (ty := ty) (pos := pos) (aft := aft) (g := g) hx hy hs hu hn (by simpa using hlen) r hl0
    obtain ⟨s, hsv, hsl⟩ := Own.sl hs hl0
    subst hsv
    have hn0 : s.n = 0 := hsl.len
    have hsc : s.c = s.n := by rw [hn0]; exact hc s.a s.c (by rw [SV.val, hn0])
    obtain ⟨_, w2, g1, _, _, g2, _⟩ := Y.append (dst := dst) (ty := ty) (pos := pos) (aft := aft) (g := g) hx hy hsl hu hsc hn (by simpa using hlen) hl
    rw [h1] at g1
    injection g1 with _ e2
    exact ⟨_, _, h1, _, _, rfl, e2 ▸ g2, by simpa using h5⟩
theorem Y.appendOwnS {cs : List Nat} {n : Nat} {ms : List Msg} {x y : Operand} {u : SV} (hx : (mk N ρ).eval x = v) (hy : (mk N ρ).eval y = u.val) (hs : Own cs w0 w v n ms) (hu : Sl cs w u ns) (hne : ns ≠ []) (hlen : ms.length + ns.length ≤ 100000) (r : Grow w0 w) (hl : LtAll bs w0) :
    ∃ q w', (execOp (mk N ρ).eval ⟨dst, .call { callee := .builtin .append, args := #[x, y], argTypes := #[22, 22] }, ty, pos, aft, g⟩).run Try.prog w = .ok (.value q) w' ∧ (∃ s : SV, q = s.val ∧ Grow w0 w' ∧ Sl bs w' s (ms ++ ns)) := by
  obtain ⟨_, w', h1, _, _, rfl, h4, h5⟩ := Y.appendOwn (dst := dst) (ty := ty) (pos := pos) (aft := aft) (g := g) hx hy hs hu hne hlen r hl
  obtain ⟨s, hsv, hsl⟩ := Own.sl h5 hl
  exact ⟨_, w', h1, s, hsv, h4, hsl⟩
theorem X.build30z : (execOp (mk N ρ).eval ⟨dst, .build 30 #[], ty, pos, aft, g⟩).run Try.prog w = .ok (.value (.agg Msg.zero.arr)) w :=
  X.build30 (qs := #[]) (by simp) (fun w => run_build30 w)
end
end Go.Proofs.Ytigimkmkbdnlpaa
