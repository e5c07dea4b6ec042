/- Slices that grow by append in a loop. -/
import Derived.Test.YtigimkmkbdnlpaaChk
namespace Go.Proofs.Ytigimkmkbdnlpaa
open Go.RowKit

structure Own (bs : List Nat) (w0 w : World) (v : Value) (n : Nat) (ms : List Msg) : Prop where
  own : w.ownsRow w0.heap.size 30 43 v n (flat ms)
  ne : ∀ b, v.ownBlock = some b → b ∉ bs
section
variable {bs cs : List Nat} {w0 w w' : World} {v : Value} {n b : Nat} {ms ns : List Msg}
theorem ownsRow_lt (h : w.ownsRow w0.heap.size 30 43 v n (flat ms)) (hb : v.ownBlock = some b) : w0.heap.size ≤ b ∧ b < w.heap.size := by
  rcases h.2 with ⟨hv, _⟩ | ⟨g, cap, cur, hv, hg, hh, _⟩
  · subst hv; simp [Value.ownBlock] at hb
  · subst hv
    simp only [Value.ownBlock, Option.some.injEq] at hb
    subst hb
    refine ⟨hg, ?_⟩
    rcases Nat.lt_or_ge g w.heap.size with h1 | h1
    · exact h1
    · rw [Array.getElem?_eq_none h1] at hh; cases hh
theorem Own.chg (h : Own bs w0 w v n ms) (r : Chg cs w w') (hn : ∀ c ∈ cs, c ∈ bs ∨ w.heap.size ≤ c) : Own bs w0 w' v n ms := by
  refine ⟨⟨h.own.1, ?_⟩, h.ne⟩
  rcases h.own.2 with hv | ⟨g, cap, cur, hv, hg, hh, h1⟩
  · exact .inl hv
  · have hb : v.ownBlock = some g := by rw [hv]; rfl
    have hlt := (ownsRow_lt h.own hb).2
    refine .inr ⟨g, cap, cur, hv, hg, ?_, h1⟩
    rw [r.block g hlt fun hc => by
      rcases hn g hc with h2 | h2
      · exact h.ne g hb h2
      · omega]
    exact hh
theorem Own.gr (h : Own bs w0 w v n ms) (r : Grow w w') : Own bs w0 w' v n ms := h.chg r (by simp)
theorem Own.st (h : Own bs w0 w v n ms) (r : Chg [b] w w') (hm : b ∈ bs) : Own bs w0 w' v n ms := h.chg r (by simp [hm])
theorem Own.ext (h : Own bs w0 w v n ms) (hb : w.heap.size ≤ b) : Own (b :: bs) w0 w v n ms :=
  ⟨h.own, fun c hc => by
    have := (ownsRow_lt h.own hc).2
    simp only [List.mem_cons, not_or]
    exact ⟨by omega, h.ne c hc⟩⟩
theorem Own.tl (h : Own (b :: bs) w0 w v n ms) : Own bs w0 w v n ms := ⟨h.own, fun c hc hm => h.ne c hc (by simp [hm])⟩
theorem Own.none_ (bs : List Nat) (w0 w : World) : Own bs w0 w (.slice none 0 0) 0 [] := ⟨World.ownsRow_nil w _ 30 43, fun b hb => by simp [Value.ownBlock] at hb⟩
theorem Own.sl (h : Own bs w0 w v n ms) (hl : LtAll bs w0) : ∃ s : SV, v = s.val ∧ Sl bs w s ms := Sl.of_own h.own hl
variable {N : Nat} {ρ : Ro} {dst : Option Tmp} {ty : TypeId} {pos : String} {aft : Array Edge} {g : Option (Nat × Bool)}
theorem Y.own0 (hl : LtAll bs w) : ∃ u w', (execOp (mk N ρ).eval ⟨dst, .buildSlice 22 0 #[], ty, pos, aft, g⟩).run Try.prog w = .ok (.value u) w' ∧ (∃ v, u = v ∧ Grow w w' ∧ Own bs w w' v 0 []) := by
  refine ⟨_, _, X.slice0, _, rfl, Grow.alloc _ _, ⟨rfl, .inr ⟨w.heap.size, 0, #[], rfl, Nat.le_refl _, heap_alloc_new w _, Nat.le_refl _, by decide, rfl, rfl⟩⟩, ?_⟩
  intro b hb hm
  simp only [Value.ownBlock, Option.some.injEq] at hb
  have := hl b hm
  omega
theorem Y.appendOwn {x y : Operand} {u : SV} (hx : (mk N ρ).eval x = v) (hy : (mk N ρ).eval y = u.val) (hs : Own cs w0 w v n ms) (hu : Sl cs w u ns) (hne : ns ≠ []) (hlen : ms.length + ns.length ≤ 100000) (r : Grow w0 w) (hl : LtAll bs w0) :
    ∃ q w', (execOp (mk N ρ).eval ⟨dst, .call { callee := .builtin .append, args := #[x, y], argTypes := #[22, 22] }, ty, pos, aft, g⟩).run Try.prog w = .ok (.value q) w' ∧ (∃ v' k, q = v' ∧ Grow w0 w' ∧ Own bs w0 w' v' k (ms ++ ns)) := by
  obtain ⟨q, w', h1, h2, h3⟩ := X.appendOwn (dst := dst) (ty := ty) (pos := pos) (aft := aft) (g := g) hx hy hs.own hu hne hlen r.size
  refine ⟨q, w', h1, q, _, rfl, ?_, h2, fun b hb hm => ?_⟩
  · refine ⟨h3.os.trans r.os, h3.tape.trans r.tape, h3.output.trans r.output, Nat.le_trans r.size h3.size, fun k hk _ => ?_⟩
    rw [h3.block k (Nat.lt_of_lt_of_le hk r.size) fun e => ?_]
    · exact r.block k hk (by simp)
    · have := (ownsRow_lt hs.own e.symm).1
      omega
  · have := (ownsRow_lt h2 hb).1
    have := hl b hm
    omega
end
/-- The keys of a map that took them one after the other. -/
def nosOf (l : List Msg) : List Int := l.foldl (fun ks m => ins m.no ks) []
theorem nosOf_step {l : List Msg} {i : Nat} {m : Msg} (hm : l[i]? = some m) : ins m.no (nosOf (l.take i)) = nosOf (l.take (i + 1)) := by
  rw [take_next hm, nosOf, nosOf, List.foldl_append]; rfl
theorem mem_nosOf (l : List Msg) (n : Int) : n ∈ nosOf l ↔ n ∈ l.map Msg.no := by
  have key : ∀ (l : List Msg) (ks : List Int), n ∈ l.foldl (fun ks m => ins m.no ks) ks ↔ n ∈ ks ∨ n ∈ l.map Msg.no := by
    intro l
    induction l with
    | nil => intro ks; simp
    | cons m l ih =>
      intro ks
      rw [List.foldl_cons, ih]
      simp only [ins, List.map_cons, List.mem_cons]
      split
      · constructor
        · rintro (h | h)
          · exact .inl h
          · exact .inr (.inr h)
        · rintro (h | h | h)
          · exact .inl h
          · subst h; exact .inl ‹_›
          · exact .inr h
      · simp only [List.mem_append, List.mem_cons, List.not_mem_nil, or_false]
        grind
  rw [nosOf, key]; simp
theorem isIn_nosOf (l : List Msg) (n : Int) : isIn n (nosOf l) = hasNo n l := by
  rw [Bool.eq_iff_iff, hasNo_map, isIn, decide_eq_true_eq, mem_nosOf]
def waits (t : Trade) (id : Int) (m : Msg) : Bool := m.frm == id && !hasNo m.no t.done
def waitL (t : Trade) (id : Int) : List Msg := t.placed.filter (waits t id)
theorem filt_yes {p : Msg → Bool} {l : List Msg} {i : Nat} {m : Msg} (hm : l[i]? = some m) (hp : p m = true) : (l.take i).filter p ++ [m] = (l.take (i + 1)).filter p := by
  rw [take_next hm, List.filter_append]; simp [hp]
theorem filt_no {p : Msg → Bool} {l : List Msg} {i : Nat} {m : Msg} (hm : l[i]? = some m) (hp : p m = false) : (l.take i).filter p = (l.take (i + 1)).filter p := by
  rw [take_next hm, List.filter_append]; simp [hp]
theorem filt_all {p : Msg → Bool} {l : List Msg} {i n : Nat} (hn : n = l.length) (hi : i = n) : (l.take i).filter p = l.filter p := by
  subst hi; subst hn; simp
theorem filt_len {p : Msg → Bool} {l : List Msg} {i : Nat} (h : l.length ≤ 5000) : ((l.take i).filter p).length + 1 ≤ 100000 := by
  have h1 := List.length_filter_le p (l.take i)
  have h2 : (l.take i).length ≤ l.length := by simp; omega
  omega
theorem waits_map {t : Trade} {id : Int} {m : Msg} {ds : List Msg} (h : ds = t.done) : (((m.frm : Int) == id) && (!isIn m.no (nosOf ds))) = waits t id m := by
  subst h; rw [isIn_nosOf]; rfl
theorem take_full {l : List Msg} {i n : Nat} (hn : n = l.length) (hi : i = n) : l.take i = l := by
  subst hi; subst hn; simp
theorem filt0 (l : List Msg) (p : Msg → Bool) : ([] : List Msg) = (l.take 0).filter p := by simp
theorem waitL_of {t : Trade} {id : Int} {i n : Nat} (hn : n = t.placed.length) (hi : i = n) : (t.placed.take i).filter (waits t id) = waitL t id := filt_all hn hi
end Go.Proofs.Ytigimkmkbdnlpaa
