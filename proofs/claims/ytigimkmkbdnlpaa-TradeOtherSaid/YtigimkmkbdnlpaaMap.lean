/- Sets that the code keeps as maps to true: keyed by a number, keyed by two numbers. -/
import Derived.Test.YtigimkmkbdnlpaaSl
namespace Go.Proofs.Ytigimkmkbdnlpaa
open Go.RowKit

/-- Block r is a map whose keys are just ks, each with true. -/
def Mp {α : Type} (f : α → Value) (w : World) (r : Nat) (ks : List α) : Prop :=
  ∃ es clock, w.heap[r]? = some (.map es clock) ∧ es.toList.map (·.key) = ks.map f ∧ ∀ e ∈ es.toList, e.val = .bool true
abbrev kI : Int → Value := Value.int .i64
def kP (p : Int × Int) : Value := .agg #[.int .i64 p.1, .int .i64 p.2]
section
variable {α : Type} {f : α → Value} {w w' : World} {r : Nat} {ks : List α}
theorem Mp.lt (h : Mp f w r ks) : r < w.heap.size := by
  obtain ⟨es, c, hh, _⟩ := h
  rcases Nat.lt_or_ge r w.heap.size with hlt | hge
  · exact hlt
  · rw [Array.getElem?_eq_none hge] at hh; cases hh
theorem Mp.chg {ds : List Nat} (h : Mp f w r ks) (c : Chg ds w w') (hn : r ∉ ds) : Mp f w' r ks := by
  have hlt := h.lt
  obtain ⟨es, cl, hh, h2⟩ := h
  exact ⟨es, cl, (c.block r hlt hn).trans hh, h2⟩
theorem Mp.gr (h : Mp f w r ks) (c : Grow w w') : Mp f w' r ks := h.chg c (by simp)
theorem Mp.new (w : World) (f : α → Value) : Mp f (w.alloc (.map #[] 0)) w.heap.size [] := ⟨#[], 0, heap_alloc_new w _, rfl, by simp⟩
end

section
variable {N : Nat} {ρ : Ro} {dst : Option Tmp} {ty : TypeId} {pos : String} {aft : Array Edge} {g : Option (Nat × Bool)} {w : World}
theorem X.makeMap {t : TypeId} : (execOp (mk N ρ).eval ⟨dst, .makeMap t none, ty, pos, aft, g⟩).run Try.prog w = .ok (.value (.map (some w.heap.size))) (w.alloc (.map #[] 0)) := by
  kernel_rfl

/-- How a key is looked for: it is there or not, by a Bool test. -/
def Finds {α : Type} (K : TypeId) (f : α → Value) [DecidableEq α] : Prop :=
  (∀ (w : World) (k : α) (es : List MapEntry) (ks : List α), es.map (·.key) = ks.map f → (∀ e ∈ es, e.val = .bool true) →
    ∃ r, (Instr.findKey K (f k) es).run Try.prog w = .ok r w ∧ (r = none ↔ k ∉ ks) ∧ ∀ i v, r = some (i, v) → v = .bool true ∧ (es[i]?).map (·.key) = some (f k)) ∧
  (∀ (w : World) (k : α) (b : Bool), (Instr.checkKey b 10000 K (f k)).run Try.prog w = .ok () w) ∧ ∀ k : α, Instr.sameBits 10000 (f k) (f k) = true

theorem X.lookup {α : Type} [DecidableEq α] {f : α → Value} {K T : TypeId} {x y : Operand} {r : Nat} {k : α} {ks : List α} (hF : Finds K f) (hT : Try.prog.underlying T = some (.map K 4)) (hx : (mk N ρ).eval x = .map (some r)) (hy : (mk N ρ).eval y = f k) (hm : Mp f w r ks) :
    (execOp (mk N ρ).eval ⟨dst, .lookup T x y false, ty, pos, aft, g⟩).run Try.prog w = .ok (.value (.bool (decide (k ∈ ks)))) w := by
  obtain ⟨es, cl, hh, hk, hv⟩ := hm
  obtain ⟨h1, h2, _⟩ := hF
  obtain ⟨o, ho, hn, hs⟩ := h1 w k es.toList ks hk hv
  have hz : (zeroValue 4).run Try.prog w = .ok (.bool false) w := by kernel_rfl
  have hg : (getObj r).run Try.prog w = .ok (.map es cl) w := by simp [getObj, Sem.run, hh]
  simp only [execOp, Instr.lookup, hx, hy, Sem.run_bind, run_underlying hT, Result.andThen_ok, hg, Sem.run_pure, h2, ho]
  cases o with
  | none =>
    have : k ∉ ks := hn.1 rfl
    simp [hz, this]
  | some p =>
    obtain ⟨i, v⟩ := p
    have hin : k ∈ ks := by
      rcases Classical.em (k ∈ ks) with h | h
      · exact h
      · have := hn.2 h; cases this
    have := (hs i v rfl).1
    simp [this, hin]
theorem X.update {α : Type} [DecidableEq α] {f : α → Value} {K T : TypeId} {x y z : Operand} {r : Nat} {k : α} {ks : List α} (hF : Finds K f) (hT : Try.prog.underlying T = some (.map K 4)) (hx : (mk N ρ).eval x = .map (some r)) (hy : (mk N ρ).eval y = f k) (hz : (mk N ρ).eval z = .bool true) (hm : Mp f w r ks) :
    ∃ w', (execOp (mk N ρ).eval ⟨none, .mapUpdate T x y z, ty, pos, aft, g⟩).run Try.prog w = .ok .skip w' ∧ Mp f w' r (if k ∈ ks then ks else ks ++ [k]) ∧ Chg [r] w w' := by
  have hlt := hm.lt
  obtain ⟨es, cl, hh, hk, hv⟩ := hm
  obtain ⟨h1, h2, h3⟩ := hF
  obtain ⟨o, ho, hn, hs⟩ := h1 w k es.toList ks hk hv
  have hg : (getObj r).run Try.prog w = .ok (.map es cl) w := by simp [getObj, Sem.run, hh]
  have hset : ∀ ob : Obj, (setObj r ob).run Try.prog w = .ok () { w with heap := w.heap.setIfInBounds r ob } := by intro ob; simp [setObj, Sem.run, hh]
  have hchg : ∀ ob : Obj, Chg [r] w { w with heap := w.heap.setIfInBounds r ob } := fun ob =>
    ⟨rfl, rfl, rfl, by simp, fun k _ hn => by
      simp only [List.mem_cons, List.not_mem_nil, or_false] at hn
      simp only [Array.getElem?_setIfInBounds_ne (Ne.symm hn)]⟩
  have hget : ∀ ob : Obj, ({ w with heap := w.heap.setIfInBounds r ob } : World).heap[r]? = some ob := fun ob => by simp [hlt]
  cases o with
  | none =>
    have hni : k ∉ ks := hn.1 rfl
    refine ⟨_, ?_, ?_, hchg (.map (es.push { key := f k, val := .bool true, born := cl }) (cl + 1))⟩
    · simp only [execOp, Instr.mapUpdate, hx, hy, hz, Sem.run_bind, run_underlying hT, Result.andThen_ok, hg, h2, ho, hset, Sem.run_pure]
    · rw [if_neg hni]
      refine ⟨_, _, hget _, by simp [hk], ?_⟩
      intro e he
      simp only [Array.toList_push, List.mem_append, List.mem_cons, List.not_mem_nil, or_false] at he
      rcases he with he | rfl
      · exact hv e he
      · rfl
  | some p =>
    obtain ⟨i, v⟩ := p
    have hin : k ∈ ks := by
      rcases Classical.em (k ∈ ks) with h | h
      · exact h
      · have := hn.2 h; cases this
    obtain ⟨_, hi⟩ := hs i v rfl
    obtain ⟨e0, he0, hkey⟩ := Option.map_eq_some_iff.1 hi
    have he0' : es[i]? = some e0 := by simpa using he0
    have hks : (Instr.keyThatStays e0.key (f k)).run Try.prog w = .ok (f k) w := by
      rw [hkey]
      simp [Instr.keyThatStays, h3]
    refine ⟨_, ?_, ?_, hchg (.map (es.modify i fun e => { e with key := f k, val := .bool true }) cl)⟩
    · simp only [execOp, Instr.mapUpdate, hx, hy, hz, Sem.run_bind, run_underlying hT, Result.andThen_ok, hg, h2, ho, he0', Option.map_some, Option.getD_some, hks, hset, Sem.run_pure]
    · rw [if_pos hin]
      have hil : i < es.size := (Array.getElem?_eq_some_iff.1 he0').1
      have hei : es[i] = e0 := (Array.getElem?_eq_some_iff.1 he0').2
      refine ⟨_, _, hget _, ?_, ?_⟩
      · rw [← hk]
        apply List.ext_getElem?
        intro j
        simp only [List.getElem?_map, Array.getElem?_toList, Array.getElem?_modify]
        by_cases hj : i = j
        · subst hj
          simp [hil, hei, hkey]
        · simp [hj]
      · intro e he
        obtain ⟨j, hj⟩ := List.getElem?_of_mem he
        simp only [Array.getElem?_toList, Array.getElem?_modify] at hj
        by_cases hij : i = j
        · subst hij
          simp [hil] at hj
          rw [← hj]
        · simp [hij] at hj
          exact hv e (by simpa using List.mem_of_getElem? (l := es.toList) (i := j) (by simpa using hj))
end

theorem findsI : Finds 3 kI := by
  refine ⟨?_, fun w k b => by kernel_rfl, fun k => by simp [Instr.sameBits]⟩
  intro w k es ks hk hv
  have key : ∀ (es : List MapEntry) (ks : List Int) (i : Nat), es.map (·.key) = ks.map kI → (∀ e ∈ es, e.val = .bool true) →
      ∃ r, Instr.findNow (.int .i64) (kI k) es i = some r ∧ (r = none ↔ k ∉ ks) ∧ ∀ j v, r = some (j, v) → v = .bool true ∧ ∃ m, j = i + m ∧ (es[m]?).map (·.key) = some (kI k) := by
    intro es
    induction es with
    | nil =>
      intro ks i h _
      have : ks = [] := by cases ks <;> simp at h; rfl
      subst this
      exact ⟨none, rfl, by simp, by simp⟩
    | cons e es ih =>
      intro ks i h hv
      cases ks with
      | nil => simp at h
      | cons a ks =>
        simp only [List.map_cons, List.cons.injEq] at h
        obtain ⟨h1, h2⟩ := h
        by_cases hka : k = a
        · subst hka
          refine ⟨some (i, e.val), by simp [Instr.findNow, h1, Instr.sameNow], by simp, ?_⟩
          intro j v hjv
          simp only [Option.some.injEq, Prod.mk.injEq] at hjv
          exact ⟨hjv.2 ▸ hv e (by simp), 0, by omega, by simp [h1]⟩
        · obtain ⟨r, hr, hn, hs⟩ := ih ks (i + 1) h2 (fun e he => hv e (by simp [he]))
          have hb : (k == a) = false := by simp [hka]
          refine ⟨r, by simp [Instr.findNow, h1, Instr.sameNow, hb, hr], by rw [hn]; simp [hka], ?_⟩
          intro j v hjv
          obtain ⟨hv', m, hm, hm2⟩ := hs j v hjv
          exact ⟨hv', m + 1, by omega, by simpa using hm2⟩
  obtain ⟨r, hr, hn, hs⟩ := key es ks 0 hk hv
  refine ⟨r, by simp only [Instr.findKey, Sem.run_bind, run_underlying Try.underlying3, Result.andThen_ok, hr, Sem.run_pure], hn, ?_⟩
  intro i v hiv
  obtain ⟨h1, m, hm, hm2⟩ := hs i v hiv
  obtain rfl : i = m := by omega
  exact ⟨h1, hm2⟩

theorem run_equal_pair (w : World) (p q : Int × Int) : (Op.equal 83 (kP p) (kP q)).run Try.prog w = .ok (decide (p = q)) w := by
  obtain ⟨a, b⟩ := p
  obtain ⟨c, d⟩ := q
  obtain ⟨i3, hi3, _⟩ := Option.map_eq_some_iff.1 (show (Try.prog.info? 3).map (·.size) = some 1 by kernel_rfl)
  have hc : Try.prog.cellsOf 3 = 1 := by kernel_rfl
  have hp : Try.prog.plainKey 3 = true := by kernel_rfl
  have p0 := run_part_plain (P := Try.prog) w hp (xs := #[.int .i64 a, .int .i64 b]) (off := 0 * 1) (v := .int .i64 a) rfl
  have p1 := run_part_plain (P := Try.prog) w hp (xs := #[.int .i64 a, .int .i64 b]) (off := 1 * 1) (v := .int .i64 b) rfl
  have q0 := run_part_plain (P := Try.prog) w hp (xs := #[.int .i64 c, .int .i64 d]) (off := 0 * 1) (v := .int .i64 c) rfl
  have q1 := run_part_plain (P := Try.prog) w hp (xs := #[.int .i64 c, .int .i64 d]) (off := 1 * 1) (v := .int .i64 d) rfl
  simp only [Op.equal, Op.maxDepth, kP]
  rw [run_equalIn_array w 9999 _ _ Try.underlying83 hi3, hc, show List.range 2 = [0, 1] from rfl]
  have i1 := run_equalIn_int (P := Try.prog) w 9998 3 .i64 .i64 a c Try.underlying3
  have i2 := run_equalIn_int (P := Try.prog) w 9998 3 .i64 .i64 b d Try.underlying3
  have g2 : (Op.eqItems 9999 3 1 #[.int .i64 a, .int .i64 b] #[.int .i64 c, .int .i64 d] [1]).run Try.prog w = .ok (b == d) w := by
    simp only [Op.eqItems, Sem.run_bind, p1, q1, Result.andThen_ok, i2]
    cases (b == d) <;> rfl
  have g1 : (Op.eqItems 9999 3 1 #[.int .i64 a, .int .i64 b] #[.int .i64 c, .int .i64 d] [0, 1]).run Try.prog w = .ok ((a == c) && (b == d)) w := by
    unfold Op.eqItems
    simp only [Sem.run_bind, p0, q0, Result.andThen_ok, i1]
    cases (a == c)
    · rfl
    · simpa using g2
  rw [g1]
  have e1 : decide ((a, b) = (c, d)) = ((a == c) && (b == d)) := by
    rw [Bool.eq_iff_iff]; simp
  rw [e1]
theorem findsP : Finds 83 kP := by
  refine ⟨?_, fun w k b => by kernel_rfl, fun k => by simp [kP, Instr.sameBits]⟩
  intro w k es ks hk hv
  have key : ∀ (es : List MapEntry) (ks : List (Int × Int)) (i : Nat), es.map (·.key) = ks.map kP → (∀ e ∈ es, e.val = .bool true) →
      ∃ r, (Instr.findAsking 83 (kP k) es i).run Try.prog w = .ok r w ∧ (r = none ↔ k ∉ ks) ∧ ∀ j v, r = some (j, v) → v = .bool true ∧ ∃ m, j = i + m ∧ (es[m]?).map (·.key) = some (kP k) := by
    intro es
    induction es with
    | nil =>
      intro ks i h _
      have : ks = [] := by cases ks <;> simp at h; rfl
      subst this
      exact ⟨none, by simp [Instr.findAsking], by simp, by simp⟩
    | cons e es ih =>
      intro ks i h hv
      cases ks with
      | nil => simp at h
      | cons a ks =>
        simp only [List.map_cons, List.cons.injEq] at h
        obtain ⟨h1, h2⟩ := h
        have he : (Op.equal 83 (kP k) e.key).run Try.prog w = .ok (decide (k = a)) w := by rw [h1]; exact run_equal_pair w k a
        by_cases hka : k = a
        · subst hka
          refine ⟨some (i, e.val), by simp [Instr.findAsking, he], by simp, ?_⟩
          intro j v hjv
          simp only [Option.some.injEq, Prod.mk.injEq] at hjv
          exact ⟨hjv.2 ▸ hv e (by simp), 0, by omega, by simp [h1]⟩
        · obtain ⟨r, hr, hn, hs⟩ := ih ks (i + 1) h2 (fun e he => hv e (by simp [he]))
          refine ⟨r, by simp [Instr.findAsking, he, hka, hr], by rw [hn]; simp [hka], ?_⟩
          intro j v hjv
          obtain ⟨hv', m, hm, hm2⟩ := hs j v hjv
          exact ⟨hv', m + 1, by omega, by simpa using hm2⟩
  obtain ⟨r, hr, hn, hs⟩ := key es ks 0 hk hv
  refine ⟨r, ?_, hn, ?_⟩
  · simp only [Instr.findKey, Sem.run_bind, run_underlying Try.underlying83, Result.andThen_ok]
    cases es with
    | nil =>
      simp [Instr.findAsking] at hr
      simp [Instr.findNow, hr]
    | cons e es => simp only [Instr.findNow, Instr.sameNow, hr]
  · intro i v hiv
    obtain ⟨h1, m, hm, hm2⟩ := hs i v hiv
    obtain rfl : i = m := by omega
    exact ⟨h1, hm2⟩
end Go.Proofs.Ytigimkmkbdnlpaa
