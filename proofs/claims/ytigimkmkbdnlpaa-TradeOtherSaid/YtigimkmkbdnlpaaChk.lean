/- When a trade is in order: what both programs' Check compute. -/
import Derived.Test.YtigimkmkbdnlpaaMore
namespace Go.Proofs.Ytigimkmkbdnlpaa
open Go.RowKit

def key (m : Msg) : Int × Int := (m.frm, m.no)
def sv3 (T : TV) : Nat → SV
  | 0 => T.p | 1 => T.r | _ => T.d
def l3 (t : Trade) : Nat → List Msg
  | 0 => t.placed | 1 => t.received | _ => t.done
def Fine (l : List Msg) : Prop := l.length ≤ 4096 ∧ ∀ x ∈ l, ok x = true
structure Fit (t : Trade) (id : Int) : Prop where
  firm : 0 ≤ id ∧ id ≤ 11
  next : t.next = (t.placed.length : Int)
  fine : ∀ j, j < 3 → Fine (l3 t j)
  pl : ∀ (i : Nat) m, t.placed[i]? = some m → begins m = true ∧ m.frm = id ∧ m.no = (i : Int)
  rc : ∀ m ∈ t.received, begins m = true ∧ m.to = id
  rn : (t.received.map key).Nodup
  dn : ∀ m ∈ t.done, answ m t.placed = true
  dd : (t.done.map Msg.no).Nodup
open Classical in
noncomputable def chk (t : Trade) (id : Int) : Int := if Fit t id then 0 else 480
theorem chk_no {t : Trade} {id : Int} (h : ¬ Fit t id) : 480 = chk t id := by simp [chk, h]
theorem chk_yes {t : Trade} {id : Int} (h : Fit t id) : 0 = chk t id := by simp [chk, h]
theorem chk_iff {t : Trade} {id : Int} : chk t id = 0 ↔ Fit t id := by
  by_cases h : Fit t id <;> simp [chk, h]
theorem chk_two (t : Trade) (id : Int) : chk t id = 0 ∨ chk t id = 480 := by
  by_cases h : Fit t id <;> simp [chk, h]

theorem Tr.at3 {bs : List Nat} {w : World} {T : TV} {t : Trade} (h : Tr bs w T t) (i : Nat) : Sl bs w (sv3 T i) (l3 t i) := by
  match i with
  | 0 => exact h.p
  | 1 => exact h.r
  | _ + 2 => exact h.d
theorem lc3 {w : World} {b i : Nat} {T : TV} (h : Blk w b 22 #[T.p.val, T.r.val, T.d.val]) (hi : i < 3) : w.cell? ⟨b, 0 + i * 1, none⟩ = some (sv3 T i).val := by
  match i, hi with
  | 0, _ => exact Blk.lc (i := 0) h rfl
  | 1, _ => exact Blk.lc (i := 1) h rfl
  | 2, _ => exact Blk.lc (i := 2) h rfl
theorem notFine {l : List Msg} {n : Nat} (hn : n = l.length) (h : Fine l) : (decide ((4096 : Int) < (n : Int)) || decide ((0 : Int) ≤ fnd (fun x => !ok x) l)) = false := by
  obtain ⟨h1, h2⟩ := h
  simp only [Bool.or_eq_false_iff, decide_eq_false_iff_not]
  refine ⟨by omega, fun h3 => ?_⟩
  obtain ⟨m, hm, hp, _⟩ := fnd_pos h3
  simp [h2 m (mem_of hm)] at hp
theorem isFine {l : List Msg} {n : Nat} (hn : n = l.length) (h : (decide ((4096 : Int) < (n : Int)) || decide ((0 : Int) ≤ fnd (fun x => !ok x) l)) = false) : Fine l := by
  simp only [Bool.or_eq_false_iff, decide_eq_false_iff_not] at h
  exact ⟨by omega, fun x hx => by simpa using fnd_neg (p := fun x => !ok x) (by omega) x hx⟩
def UpF (t : Trade) (i : Nat) : Prop := ∀ j, j < i → Fine (l3 t j)
theorem UpF.zero (t : Trade) : UpF t 0 := fun _ h => absurd h (Nat.not_lt_zero _)
theorem UpF.step {t : Trade} {i : Nat} (h : UpF t i) (hi : Fine (l3 t i)) : UpF t (i + 1) := by
  intro j hj
  rcases Nat.lt_or_eq_of_le (Nat.le_of_lt_succ hj) with h1 | rfl
  · exact h j h1
  · exact hi
theorem nodup_no {α : Type} [DecidableEq α] {f : Msg → α} {l : List Msg} {i : Nat} {m : Msg} (h : (l.map f).Nodup) (hm : l[i]? = some m) : f m ∉ (l.take i).map f := by
  intro hc
  have e : l = l.take i ++ l.drop i := (List.take_append_drop i l).symm
  rw [e, List.map_append, List.nodup_append] at h
  have hd : f m ∈ (l.drop i).map f := List.mem_map.2 ⟨m, by
    refine List.mem_of_getElem? (i := 0) ?_
    simpa using hm, rfl⟩
  exact h.2.2 _ hc _ hd rfl
theorem nodup_step {α : Type} {f : Msg → α} {l : List Msg} {i : Nat} {m : Msg} (h : ((l.take i).map f).Nodup) (hm : l[i]? = some m) (hn : f m ∉ (l.take i).map f) : ((l.take (i + 1)).map f).Nodup := by
  rw [take_next hm, List.map_append, List.nodup_append]
  refine ⟨h, by simp, ?_⟩
  intro a ha b hb hab
  simp only [List.map_cons, List.map_nil, List.mem_cons, List.not_mem_nil, or_false] at hb
  exact hn (by rw [← hb, ← hab]; exact ha)
theorem map_step {α : Type} [DecidableEq α] {f : Msg → α} {l : List Msg} {i : Nat} {m : Msg} (hm : l[i]? = some m) (hn : f m ∉ (l.take i).map f) :
    ins (f m) ((l.take i).map f) = (l.take (i + 1)).map f := by
  rw [ins, if_neg hn, take_next hm, List.map_append]; rfl
theorem all_take {α : Type} {f : Msg → α} {l : List Msg} {i n : Nat} (hn : n = l.length) (hi : i = n) (h : ((l.take i).map f).Nodup) : (l.map f).Nodup := by
  subst hi; subst hn; simpa using h

theorem first_no {t : Trade} {T : TV} {id : Int} (h : Fit t id) (h1 : T.next = t.next) (h2 : T.p.n = t.placed.length) : ((!decide (0 ≤ id ∧ id ≤ 11)) || ((T.next : Int) != ((T.p.n : Nat) : Int))) = false := by
  have := h.firm; have := h.next
  simp; omega
theorem first_yes {t : Trade} {T : TV} {id : Int} (h1 : T.next = t.next) (h2 : T.p.n = t.placed.length) (k : ((!decide (0 ≤ id ∧ id ≤ 11)) || ((T.next : Int) != ((T.p.n : Nat) : Int))) = false) : (0 ≤ id ∧ id ≤ 11) ∧ t.next = (t.placed.length : Int) := by
  simp at k; omega
theorem pl_iff {m : Msg} {id : Int} {i : Nat} : (((!((m.kind : Int) == 1 || (m.kind : Int) == 3)) || ((m.frm : Int) != id)) || ((m.no : Int) != ((i : Nat) : Int))) = false ↔ begins m = true ∧ m.frm = id ∧ m.no = (i : Int) := by
  simp [begins, and_assoc]
  grind
theorem rc_iff {m : Msg} {id : Int} {ks : List (Int × Int)} : (((!((m.kind : Int) == 1 || (m.kind : Int) == 3)) || ((m.to : Int) != id)) || isIn (m.frm, m.no) ks) = false ↔ (begins m = true ∧ m.to = id) ∧ key m ∉ ks := by
  simp [begins, key, isIn, and_assoc]
  grind
theorem dn_iff {b : Bool} {n : Int} {ks : List Int} : ((!b) || isIn n ks) = false ↔ b = true ∧ n ∉ ks := by simp [isIn]
theorem ff {b : Bool} (h : b = false) (k : b = true) : False := by rw [h] at k; cases k
/-! ### The reference's words for the same -/
theorem begins_pos {m : Msg} (hb : begins m = true) : m.kind = 1 ∨ m.kind = 3 := by simpa [begins] using hb
theorem wrap_small {k : Int} (h1 : 1 ≤ k) (h2 : k ≤ 4) : IntKind.i64.wrap (k + 1) = k + 1 := by
  have : k = 1 ∨ k = 2 ∨ k = 3 ∨ k = 4 := by omega
  rcases this with rfl | rfl | rfl | rfl <;> rfl
theorem ok_iff {m : Msg} : ok m = true ↔ OkMsg m := by simp [ok]
theorem same_iff {a b : Msg} : same a b = true ↔ (a.kind = b.kind ∧ a.frm = b.frm ∧ a.to = b.to ∧ a.no = b.no ∧ a.item = b.item ∧ a.amount = b.amount ∧ a.day = b.day ∧ a.label = b.label) ∧ (a.ln = b.ln ∧ a.vn = b.vn ∧ a.rn = b.rn ∧ a.sl = b.sl) := by
  simp [same, and_assoc, Int.ofNat_inj]
theorem nums_iff {a b : Msg} : nums a b = true ↔ (a.kind = b.kind ∧ a.frm = b.frm ∧ a.to = b.to ∧ a.no = b.no ∧ a.item = b.item ∧ a.amount = b.amount ∧ a.day = b.day ∧ a.label = b.label) := by
  simp [nums, and_assoc]
/-- Of two messages of trade the numbers say all. -/
theorem same_nums {a b : Msg} (ha : OkMsg a) (hb : OkMsg b) : same a b = nums a b := by
  rw [Bool.eq_iff_iff, same_iff, nums_iff]
  obtain ⟨_, _, _, _, _, _, _, _, _, _, h1, h2, h3, h4⟩ := ha
  obtain ⟨_, _, _, _, _, _, _, _, _, _, g1, g2, g3, g4⟩ := hb
  simp [h1, h2, h3, h4, g1, g2, g3, g4]
theorem ans_eq {m : Msg} (hb : begins m = true) : ansW m = ansR m := by
  rcases begins_pos hb with e | e
  · simp [ansW, ansR, e]; rfl
  · simp [ansW, ansR, e]; rfl
theorem ans_ok {m : Msg} (h : OkMsg m) (hb : begins m = true) : OkMsg (ansR m) := by
  have hk := begins_pos hb
  unfold OkMsg at h ⊢
  simp only [ansR]
  grind
/-- The reference's test of an answer, among orders that are in order. -/
theorem answ_ref {m : Msg} {ms : List Msg} (hm : ok m = true) (hl : ∀ x ∈ ms, ok x = true) (hb : ∀ x ∈ ms, begins x = true) :
    answ m ms = (decide (m.no < (ms.length : Int)) && same m (ansR (nth ms m.no.toNat))) := by
  have hm := ok_iff.1 hm
  have h0 : 0 ≤ m.no := hm.2.2.2.2.1.1
  by_cases hlt : m.no < (ms.length : Int)
  · obtain ⟨x, hx⟩ := some_of_lt (show m.no.toNat < ms.length by omega)
    have hxo := ok_iff.1 (hl x (mem_of hx))
    have hxb := hb x (mem_of hx)
    rw [answ, nth_of hx, hxb, ans_eq hxb, same_nums hm (ans_ok hxo hxb)]
    have e1 : decide (0 ≤ m.no ∧ m.no ≤ (ms.length : Int) - 1) = true := by simp; omega
    have e2 : decide (m.no < (ms.length : Int)) = true := by simp [hlt]
    rw [e1, e2, Bool.eq_iff_iff]
    simp only [Bool.true_and, nums_iff]
    grind
  · have e1 : decide (0 ≤ m.no ∧ m.no ≤ (ms.length : Int) - 1) = false := by simp; omega
    have e2 : decide (m.no < (ms.length : Int)) = false := by simp [hlt]
    simp [answ, e1, e2]
/-- No earlier one has this key. -/
def UpK (l : List Msg) (m : Msg) (i : Nat) : Prop := Upto (fun _ x => (x.frm == m.frm && x.no == m.no) = false) l i
theorem UpK.not_mem {l : List Msg} {m : Msg} {i : Nat} (h : UpK l m i) : key m ∉ (l.take i).map key := by
  intro hc
  obtain ⟨x, hx, hk⟩ := List.mem_map.1 hc
  obtain ⟨j, hj⟩ := List.mem_iff_getElem?.1 hx
  rw [List.getElem?_take] at hj
  split at hj
  · have := h j x ‹_› hj
    simp [key] at hk
    simp [hk.1, hk.2] at this
  · cases hj
theorem key_mem {l : List Msg} {m x : Msg} {i j : Nat} (hj : j < i) (hx : l[j]? = some x) (h : (x.frm == m.frm && x.no == m.no) = true) : key m ∈ (l.take i).map key := by
  simp only [Bool.and_eq_true, beq_iff_eq] at h
  refine List.mem_map.2 ⟨x, ?_, by simp [key, h.1, h.2]⟩
  exact List.mem_of_getElem? (i := j) (by rw [List.getElem?_take, if_pos hj]; exact hx)
theorem hasNo_map (n : Int) (l : List Msg) : hasNo n l = true ↔ n ∈ l.map Msg.no := by
  simp [hasNo]
def cut (s : SV) (i : Nat) : SV := ⟨s.a, i, s.c⟩
theorem Sl.cut {bs : List Nat} {w : World} {s : SV} {ms : List Msg} {i : Nat} (h : Sl bs w s ms) (hi : i ≤ s.n) : Sl bs w (cut s i) (ms.take i) :=
  ⟨by simp only [Ytigimkmkbdnlpaa.cut, List.length_take]; have := h.len; omega, by simp only [Ytigimkmkbdnlpaa.cut]; have := h.cap; omega, fun e => h.nul e, by simp only [Ytigimkmkbdnlpaa.cut]; have := h.bnd; omega,
    fun hp => by
      simp only [Ytigimkmkbdnlpaa.cut] at hp
      obtain ⟨b, o, ha, hb, hn, hr⟩ := h.mem (by omega)
      refine ⟨b, o, ha, hb, hn, fun j m hm => hr j m ?_⟩
      rw [List.getElem?_take] at hm
      split at hm
      · exact hm
      · cases hm⟩
section
variable {N : Nat} {ρ : Ro} {dst : Option Tmp} {ty : TypeId} {pos : String} {aft : Array Edge} {g : Option (Nat × Bool)} {w : World}
theorem X.sliceHi {x hi : Operand} {A : Option Addr} {n c i : Nat} (hx : (mk N ρ).eval x = .slice A n c) (hh : (mk N ρ).eval hi = .int .i64 (i : Int)) (hc : i ≤ c) :
    (execOp (mk N ρ).eval ⟨dst, .slice 22 x none (some hi) none, ty, pos, aft, g⟩).run Try.prog w = .ok (.value (.slice A i c)) w := by
  have hs := run_sizeT (t := 30) (n := 43) (by kernel_rfl) w
  simp [execOp, hx, hh, Instr.sliceAt, Instr.slice, Instr.sliceBounds, Instr.sliceBound, asIntOf, run_underlying Try.underlying22, hc, hs]
  cases A <;> simp
  intro _
  simp [Addr.add]
end
/-! ### The reference's Check -/
theorem first17_no {t : Trade} {T : TV} {id : Int} (h : Fit t id) (h1 : T.next = t.next) (h2 : T.p.n = t.placed.length) (h3 : T.r.n = t.received.length) (h4 : T.d.n = t.done.length) :
    (((((!decide (0 ≤ id ∧ id ≤ 11)) || ((T.next : Int) != ((T.p.n : Nat) : Int))) || decide ((4096 : Int) < ((T.p.n : Nat) : Int))) || decide ((4096 : Int) < ((T.r.n : Nat) : Int))) || decide ((4096 : Int) < ((T.d.n : Nat) : Int))) = false := by
  have := h.firm; have := h.next
  have g0 := (h.fine 0 (by omega)).1; have g1 := (h.fine 1 (by omega)).1; have g2 := (h.fine 2 (by omega)).1
  simp only [l3] at g0 g1 g2
  simp; omega
theorem first17_yes {t : Trade} {T : TV} {id : Int} (h1 : T.next = t.next) (h2 : T.p.n = t.placed.length) (h3 : T.r.n = t.received.length) (h4 : T.d.n = t.done.length)
    (k : (((((!decide (0 ≤ id ∧ id ≤ 11)) || ((T.next : Int) != ((T.p.n : Nat) : Int))) || decide ((4096 : Int) < ((T.p.n : Nat) : Int))) || decide ((4096 : Int) < ((T.r.n : Nat) : Int))) || decide ((4096 : Int) < ((T.d.n : Nat) : Int))) = false) :
    ((0 ≤ id ∧ id ≤ 11) ∧ t.next = (t.placed.length : Int)) ∧ t.placed.length ≤ 4096 ∧ t.received.length ≤ 4096 ∧ t.done.length ≤ 4096 := by
  simp at k; omega
def P17 (id : Int) (i : Nat) (m : Msg) : Prop := ok m = true ∧ begins m = true ∧ m.frm = id ∧ m.no = (i : Int)
theorem pl17_iff {m : Msg} {id : Int} {i : Nat} : ((((!ok m) || (!begins m)) || ((m.frm : Int) != id)) || ((m.no : Int) != ((i : Nat) : Int))) = false ↔ P17 id i m := by
  simp [P17, and_assoc]
theorem rc17_iff {m : Msg} {id : Int} : (((!ok m) || (!begins m)) || ((m.to : Int) != id)) = false ↔ ok m = true ∧ begins m = true ∧ m.to = id := by
  simp [and_assoc]
theorem up_mem {P : Msg → Prop} {Q : Nat → Msg → Prop} {ms : List Msg} {i : Nat} (h : Upto Q ms i) (hi : i = ms.length) (hp : ∀ j m, Q j m → P m) : ∀ x ∈ ms, P x := by
  intro x hx
  obtain ⟨j, hj⟩ := List.mem_iff_getElem?.1 hx
  exact hp j x (h.all hi j x hj)
theorem dead17 {m : Msg} {l : List Msg} {n : Nat} (hn : n = l.length) (hb : ¬ (m.no < (l.length : Int) ∧ 0 ≤ m.no)) : ((!ok m) || decide (((n : Nat) : Int) ≤ m.no)) = true := by
  cases h : ok m with
  | false => rfl
  | true =>
    have h0 : 0 ≤ m.no := (ok_iff.1 h).2.2.2.2.1.1
    simp; omega
theorem dn17_iff {m x : Msg} {ms ds : List Msg} {n i : Nat} (hn : n = ms.length) (hb : m.no < (ms.length : Int) ∧ 0 ≤ m.no) (hx : ms[m.no.toNat]? = some x) (hp : ∀ x ∈ ms, ok x = true ∧ begins x = true) :
    ((((!ok m) || decide (((n : Nat) : Int) ≤ (m.no : Int))) || (!same m (ansR x))) || hasNo m.no (ds.take i)) = false ↔ (ok m = true ∧ answ m ms = true) ∧ m.no ∉ (ds.take i).map Msg.no := by
  rw [← hasNo_map]
  have e2 : decide (((n : Nat) : Int) ≤ (m.no : Int)) = false := by simp; omega
  cases h : ok m with
  | false => simp
  | true =>
    rw [answ_ref h (fun x hx => (hp x hx).1) (fun x hx => (hp x hx).2), nth_of hx, e2]
    simp [hb.1]
theorem dn17_out {m : Msg} {ms : List Msg} (hb : ¬ (m.no < (ms.length : Int) ∧ 0 ≤ m.no)) (h : answ m ms = true) : False := by
  simp only [answ, Bool.and_eq_true, decide_eq_true_eq] at h
  omega
theorem fine3 {t : Trade} (h1 : t.placed.length ≤ 4096 ∧ t.received.length ≤ 4096 ∧ t.done.length ≤ 4096) (p : ∀ x ∈ t.placed, ok x = true) (r : ∀ x ∈ t.received, ok x = true) (d : ∀ x ∈ t.done, ok x = true) : ∀ j, j < 3 → Fine (l3 t j) := by
  intro j hj
  match j, hj with
  | 0, _ => exact ⟨h1.1, p⟩
  | 1, _ => exact ⟨h1.2.1, r⟩
  | 2, _ => exact ⟨h1.2.2, d⟩
theorem or_tf {a : Bool} (h : a = true) : ((a || false) == false) = false := by rw [h]; rfl
theorem eq_tf {a : Bool} (h : a = true) : (a == false) = false := by rw [h]; rfl
theorem or3_ff {a : Bool} (h : a = true) (k : ((a || false) || false) = false) : False := by rw [h] at k; cases k
end Go.Proofs.Ytigimkmkbdnlpaa
