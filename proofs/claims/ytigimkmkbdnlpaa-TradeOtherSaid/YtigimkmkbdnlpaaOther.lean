/- The law TradeOther, of what Take computes; lists of three messages. -/
import Derived.Test.YtigimkmkbdnlpaaLaws
namespace Go.Proofs.Ytigimkmkbdnlpaa
open Go.RowKit

section
variable {t : Trade} {m o : Msg} {id : Int}
/-- A message like one that was taken, but with other numbers, is refused. -/
theorem other_no (h : (takeR t m id).2.2.2 = 0) (hk : o.kind = m.kind) (hf : o.frm = m.frm) (hn : o.no = m.no) (hd : nums m o = false) : (takeR (takeR t m id).1 o id).2.2.2 = 480 := by
  obtain ⟨hfit, hm, hid, hw⟩ := take_ok h
  have hbe : begins o = begins m := by simp [begins, hk]
  have tr : ∀ y, nums y m = true → nums y o = false := by
    intro y hy
    cases ho : nums y o with
    | false => rfl
    | true =>
      rw [nums_iff] at hy ho
      have : nums m o = true := by rw [nums_iff]; grind
      rw [this] at hd; cases hd
  generalize takeR t m id = p at hw
  have key : ∀ x : Trade, (begins o = true → recvR x o = (Trade.zero, [], false, 480)) → (begins o = false → answ o x.placed = false) → (takeR x o id).2.2.2 = 480 := by
    intro x h1 h2
    simp only [takeR]
    split
    · rfl
    · split
      · rfl
      · split
        · rename_i hb; rw [h1 hb]
        · rename_i hb; rw [if_pos (h2 (by simpa using hb))]
  have an : answ m t.placed = true → answ o t.placed = false := by
    intro ha
    simp only [answ, Bool.and_eq_true, decide_eq_true_eq] at ha
    simp only [answ, hn]
    rw [tr _ ha.2]; simp
  have kp : keyP o = keyP m := by funext r; simp [keyP, hf, hn]
  cases hw with
  | seen r hb h0 hr hnum =>
    refine key t (fun _ => ?_) (fun hb' => by rw [hbe, hb] at hb'; cases hb')
    have e : (fun r : Msg => r.frm == o.frm && r.no == o.no) = keyP m := kp
    rw [recvR, e, if_pos h0, nth_of hr, if_neg (by rw [tr r hnum]; decide)]
  | fresh hb hno hl =>
    refine key _ (fun _ => ?_) (fun hb' => by rw [hbe, hb] at hb'; cases hb')
    have e : (fun r : Msg => r.frm == o.frm && r.no == o.no) = keyP m := kp
    have e2 := fnd_append hno (show keyP m m = true by simp [keyP])
    rw [recvR, e]
    show (if 0 ≤ fnd (keyP m) (t.received ++ [m]) then _ else _) = _
    rw [e2, if_pos (by omega)]
    have e3 : nth (t.received ++ [m]) ((t.received.length : Int)).toNat = m := nth_of (by simp)
    rw [e3, if_neg (by rw [hd]; decide)]
  | known hb ha hd' => exact key t (fun hb' => by rw [hbe, hb] at hb'; cases hb') (fun _ => an ha)
  | done hb ha hd' => exact key _ (fun hb' => by rw [hbe, hb] at hb'; cases hb') (fun _ => an ha)
theorem other_id {id' : Int} (h : (takeR t m id).2.2.2 = 0) (hne : id' ≠ id) : (takeR t m id').2.2.2 = 480 := by
  obtain ⟨_, hm, hid, _⟩ := take_ok h
  simp only [takeR]
  split
  · rfl
  · rw [if_pos]
    rintro ⟨_, h2⟩
    exact hne (h2.symm.trans hid)
end
theorem wrap_ne {a b : Int} (hb : -9223372036854775808 ≤ b ∧ b ≤ 9223372036854775807) (h0 : b ≠ 0) : IntKind.i64.wrap (a + b) ≠ a := by
  intro h
  simp only [IntKind.wrap, IntKind.bits, IntKind.signed, Bool.true_and, Int.reducePow, Nat.reduceSub] at h
  split at h <;> omega
/-- The three changed messages. -/
def chg3 (m : Msg) (b : Int) : List Msg := [{ m with amount := IntKind.i64.wrap (m.amount + b) }, { m with item := IntKind.i64.wrap (m.item + b) }, { m with day := IntKind.i64.wrap (m.day + b) }]
theorem other_3 {t : Trade} {m o : Msg} {id b : Int} (h : (takeR t m id).2.2.2 = 0) (hb : -9223372036854775808 ≤ b ∧ b ≤ 9223372036854775807) (h0 : b ≠ 0) (ho : o ∈ chg3 m b) : (takeR (takeR t m id).1 o id).2.2.2 = 480 := by
  have n1 := wrap_ne (a := m.amount) hb h0
  have n2 := wrap_ne (a := m.item) hb h0
  have n3 := wrap_ne (a := m.day) hb h0
  simp only [chg3, List.mem_cons, List.not_mem_nil, or_false] at ho
  rcases ho with rfl | rfl | rfl
  · exact other_no h rfl rfl rfl (by simp only [nums, Bool.and_eq_false_iff, beq_eq_false_iff_ne]; grind)
  · exact other_no h rfl rfl rfl (by simp only [nums, Bool.and_eq_false_iff, beq_eq_false_iff_ne]; grind)
  · exact other_no h rfl rfl rfl (by simp only [nums, Bool.and_eq_false_iff, beq_eq_false_iff_ne]; grind)
theorem other_self {t : Trade} {m : Msg} {id b : Int} (h : (takeR t m id).2.2.2 = 0) (hb : -9223372036854775808 ≤ b ∧ b ≤ 9223372036854775807) (h0 : b ≠ 0) : (takeR t m (IntKind.i64.wrap (id + b))).2.2.2 = 480 :=
  other_id h (wrap_ne hb h0)
theorem by_ne {t : Trade} {m : Msg} {b : Int} (k : (((!few t) || (!fewM m)) || ((b : Int) == (0 : Int))) = false) : ((!few t) || (!fewM m)) = false ∧ b ≠ 0 := by simpa [and_assoc] using k
theorem ne480 {a : Int} (h : a = 480) (k : ((a : Int) != (480 : Int)) = true) : False := by simp [h] at k
/-! ### A list of three messages, laid -/
theorem wr_get (l : List Value) : ∀ (cs : Array Value) (i j : Nat), i + l.length ≤ cs.size → (wr cs i l)[j]? = if i ≤ j ∧ j < i + l.length then l[j - i]? else cs[j]? := by
  induction l with
  | nil => intro cs i j _; rw [if_neg (by simp only [List.length_nil]; omega)]; rfl
  | cons v l ih =>
    intro cs i j h
    simp only [List.length_cons] at h ⊢
    rw [wr, ih _ _ _ (by simp; omega)]
    by_cases h1 : j = i
    · subst h1
      rw [if_neg (by omega), if_pos (by omega), Array.getElem?_setIfInBounds_self_of_lt (by omega)]
      simp
    · by_cases h2 : i + 1 ≤ j ∧ j < i + 1 + l.length
      · rw [if_pos h2, if_pos (by omega), show j - i = (j - (i + 1)) + 1 from by omega, List.getElem?_cons_succ]
      · rw [if_neg h2, if_neg (by omega), Array.getElem?_setIfInBounds_ne (by omega)]
theorem fill_step {size i : Nat} {v : Value} {rest : List (Nat × Value)} {cs : Array Value} (hv : v.cells.size = size) (hc : i * size + size ≤ cs.size) :
    Instr.fill (fun i => some (i * size, size)) cs ((i, v) :: rest) = Instr.fill (fun i => some (i * size, size)) (wr cs (i * size) v.cells.toList) rest := by
  simp only [Instr.fill, hv]
  rw [if_neg (by simp; omega)]
  refine congrArg (fun x => Instr.fill _ x rest) ?_
  have h := foldl_wr v.cells.toList 0 (i * size) cs
  rw [Nat.add_zero] at h
  rw [← h, ← Array.foldl_toList, Array.toList_zipIdx]
section
variable {N : Nat} {ρ : Ro} {dst : Option Tmp} {ty : TypeId} {pos : String} {aft : Array Edge} {g : Option (Nat × Bool)} {w : World}
theorem X.sliceM3 {x y z : Operand} {a b c : Msg} (hx : (mk N ρ).eval x = .agg a.arr) (hy : (mk N ρ).eval y = .agg b.arr) (hz : (mk N ρ).eval z = .agg c.arr) :
    ∃ cells : Array Value, cells.size = 129 ∧ (∀ i (m : Msg), [a, b, c][i]? = some m → ∀ j, j < 43 → cells[i * 43 + j]? = m.list[j]?) ∧
      (execOp (mk N ρ).eval ⟨dst, .buildSlice 22 3 #[(0, x), (1, y), (2, z)], ty, pos, aft, g⟩).run Try.prog w = .ok (.value (.slice (some ⟨w.heap.size, 0, none⟩) 3 3)) (w.alloc (.cells cells 30)) := by
  have hs := run_sizeT (t := 30) (n := 43) (by kernel_rfl) w
  let Z : Array Value := (Array.range (3 * 43)).map (Msg.zero.arr[· % Msg.zero.arr.size]!)
  have hZ : Z.size = 129 := by simp [Z]
  have ha : (Value.agg a.arr).cells.size = 43 := by simp [Value.cells, Msg.size_arr]
  have hb : (Value.agg b.arr).cells.size = 43 := by simp [Value.cells, Msg.size_arr]
  have hc : (Value.agg c.arr).cells.size = 43 := by simp [Value.cells, Msg.size_arr]
  have la : (Value.agg a.arr).cells.toList = a.list := by simp [Value.cells, Msg.arr]
  have lb : (Value.agg b.arr).cells.toList = b.list := by simp [Value.cells, Msg.arr]
  have lc : (Value.agg c.arr).cells.toList = c.list := by simp [Value.cells, Msg.arr]
  have hf : Instr.fill (fun i => some (i * 43, 43)) Z [(0, .agg a.arr), (1, .agg b.arr), (2, .agg c.arr)] = some (wr (wr (wr Z 0 a.list) 43 b.list) 86 c.list) := by
    rw [fill_step ha (by omega), fill_step hb (by simp [size_wr]; omega), fill_step hc (by simp [size_wr]; omega), la, lb, lc]
    rfl
  refine ⟨wr (wr (wr Z 0 a.list) 43 b.list) 86 c.list, by simp [size_wr, hZ], ?_, ?_⟩
  · intro i m hi j hj
    have L1 := a.length_list; have L2 := b.length_list; have L3 := c.length_list
    rw [wr_get _ _ _ _ (by simp [size_wr]; omega), wr_get _ _ _ _ (by simp [size_wr]; omega), wr_get _ _ _ _ (by omega)]
    match i with
    | 0 => simp at hi; subst hi; rw [if_neg (by omega), if_neg (by omega), if_pos (by omega)]; simp
    | 1 => simp at hi; subst hi; rw [if_neg (by omega), if_pos (by omega)]; simp
    | 2 => simp at hi; subst hi; rw [if_pos (by omega)]; simp
    | i + 3 => simp at hi
  · simp only [execOp, Instr.buildSlice, Sem.run_bind, run_underlying Try.underlying22, hs, Result.andThen_ok]
    rw [if_neg (by omega), if_neg (by omega)]
    simp only [Sem.run_bind, Sem.run_pure, Result.andThen_ok, zero30, Value.cells, List.map_toArray, List.map_cons, List.map_nil, hx, hy, hz]
    rw [hf]
    rfl
theorem Y.sliceM3 {bs : List Nat} {x y z : Operand} {a b c : Msg} (hx : (mk N ρ).eval x = .agg a.arr) (hy : (mk N ρ).eval y = .agg b.arr) (hz : (mk N ρ).eval z = .agg c.arr) (hl : LtAll bs w) :
    ∃ u w', (execOp (mk N ρ).eval ⟨dst, .buildSlice 22 3 #[(0, x), (1, y), (2, z)], ty, pos, aft, g⟩).run Try.prog w = .ok (.value u) w' ∧ (∃ s : SV, u = s.val ∧ Grow w w' ∧ Sl bs w' s [a, b, c]) := by
  obtain ⟨cells, _, h2, h3⟩ := X.sliceM3 (dst := dst) (ty := ty) (pos := pos) (aft := aft) (g := g) (w := w) hx hy hz
  refine ⟨_, _, h3, ⟨some ⟨w.heap.size, 0, none⟩, 3, 3⟩, rfl, Grow.alloc _ _, ⟨rfl, Nat.le_refl _, fun h => by simp at h, show 3 ≤ 9223372036854775807 from by decide, fun _ => ⟨w.heap.size, 0, rfl, (Blk.new w 30 cells).lt, ?_, ?_⟩⟩⟩
  · intro hc
    have := hl _ hc
    omega
  · intro i m hi
    refine (row_iff _ _ _ _).2 ⟨m.length_list, fun j v hj => ?_⟩
    have hj43 : j < 43 := by
      rcases Nat.lt_or_ge j 43 with h | h
      · exact h
      · rw [List.getElem?_eq_none (by rw [Msg.length_list]; exact h)] at hj; cases hj
    rw [Addr.add_lit, (Blk.new w 30 cells).cell, Nat.zero_add, h2 i m hi j hj43]
    exact hj
end
end Go.Proofs.Ytigimkmkbdnlpaa
