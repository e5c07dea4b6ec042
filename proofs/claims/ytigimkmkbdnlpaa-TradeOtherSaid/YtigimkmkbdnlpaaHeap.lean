/- Facts on memory: a block known whole, a slice of messages, a trade; and how they are carried from world to world. -/
import Derived.Test.YtigimkmkbdnlpaaOps
namespace Go.Proofs.Ytigimkmkbdnlpaa
open Go.RowKit

/-- From w to w' nothing that was there has turned, but for the blocks cs. -/
structure Chg (cs : List Nat) (w w' : World) : Prop where
  os : w'.os = w.os
  tape : w'.tape = w.tape
  output : w'.output = w.output
  size : w.heap.size ≤ w'.heap.size
  block : ∀ k, k < w.heap.size → k ∉ cs → w'.heap[k]? = w.heap[k]?
abbrev Grow := Chg []
theorem Chg.refl (w : World) : Grow w w := ⟨rfl, rfl, rfl, Nat.le_refl _, fun _ _ _ => rfl⟩
theorem Chg.trans {cs ds : List Nat} {a b c : World} (h : Chg cs a b) (k : Chg ds b c) : Chg (cs ++ ds) a c :=
  ⟨k.os.trans h.os, k.tape.trans h.tape, k.output.trans h.output, Nat.le_trans h.size k.size, fun i hi hn => by
    simp only [List.mem_append, not_or] at hn
    exact (k.block i (Nat.lt_of_lt_of_le hi h.size) hn.2).trans (h.block i hi hn.1)⟩
theorem Chg.gr {cs : List Nat} {a b c : World} (h : Chg cs a b) (k : Grow b c) : Chg cs a c := by simpa using h.trans k
theorem Chg.rg {cs : List Nat} {a b c : World} (h : Grow a b) (k : Chg cs b c) : Chg cs a c := by simpa using h.trans k
theorem Chg.drew {cs : List Nat} {a b : World} (h : Chg cs a b) : Chg cs a b.drew := ⟨h.os, h.tape, h.output, h.size, h.block⟩
theorem Grow.drew1 (w : World) : Grow w w.drew := (Chg.refl w).drew
theorem Grow.alloc (w : World) (o : Obj) : Grow w (w.alloc o) := ⟨rfl, rfl, rfl, by simp, fun k hk _ => Below.heap_alloc _ _ _ hk⟩
/-- Blocks that are newer than w may turn. -/
theorem Chg.new {cs : List Nat} {w w' : World} (h : Chg cs w w') (hn : ∀ c ∈ cs, w.heap.size ≤ c) : Grow w w' :=
  ⟨h.os, h.tape, h.output, h.size, fun k hk _ => h.block k hk (fun hc => by have := hn k hc; omega)⟩
theorem Chg.more {cs ds : List Nat} {w w' : World} (h : Chg cs w w') (hn : ∀ c ∈ cs, c ∈ ds ∨ w.heap.size ≤ c) : Chg ds w w' :=
  ⟨h.os, h.tape, h.output, h.size, fun k hk hk' => h.block k hk (fun hc => by
    rcases hn k hc with h1 | h1
    · exact hk' h1
    · omega)⟩
theorem Grow.below {w w' : World} (h : Grow w w') : Below w.heap.size w w' := ⟨h.os, h.tape, h.output, h.size, fun k hk => h.block k hk (by simp)⟩
theorem Below.grow {w w' : World} (h : Below w.heap.size w w') : Grow w w' := ⟨h.os, h.tape, h.output, h.size, fun k hk _ => h.block k hk⟩
theorem Grow.grown {w w' : World} {r : Option Nat} (h : w.grownBy w' r) (hr : ∀ k, r = some k → w.heap.size ≤ k) : Grow w w' :=
  ⟨h.os, h.tape, h.output, h.size, fun k hk _ => h.block k hk (fun e => by have := hr k e.symm; omega)⟩

/-- Block b is just these cells of type t, none frozen. -/
def Blk (w : World) (b : Nat) (t : TypeId) (cs : Array Value) : Prop := w.heap[b]? = some (.cells cs t (0, 0))
section
variable {w w' : World} {b : Nat} {t : TypeId} {cs : Array Value}
theorem Blk.lt (h : Blk w b t cs) : b < w.heap.size := by
  rcases Nat.lt_or_ge b w.heap.size with hlt | hge
  · exact hlt
  · unfold Blk at h; rw [Array.getElem?_eq_none hge] at h; cases h
theorem Blk.chg {ds : List Nat} (h : Blk w b t cs) (r : Chg ds w w') (hn : b ∉ ds) : Blk w' b t cs := (r.block b h.lt hn).trans h
theorem Blk.gr (h : Blk w b t cs) (r : Grow w w') : Blk w' b t cs := h.chg r (by simp)
theorem Blk.st {c : Nat} (h : Blk w b t cs) (r : Chg [c] w w') (hn : b ≠ c) : Blk w' b t cs := h.chg r (by simpa using hn)
theorem Blk.cell (h : Blk w b t cs) (i : Nat) : w.cell? ⟨b, i, none⟩ = cs[i]? := cell_of_row w b i cs t (0, 0) h
theorem Blk.frozen (h : Blk w b t cs) (i : Nat) : w.frozen? ⟨b, i, none⟩ = false := by
  unfold Blk at h
  simp [World.frozen?, h]
theorem Blk.new (w : World) (t : TypeId) (cs : Array Value) : Blk (w.alloc (.cells cs t)) w.heap.size t cs := heap_alloc_new w _
theorem Blk.lc {i : Nat} {v : Value} (h : Blk w b t cs) (hv : cs[i]? = some v) : w.cell? ⟨b, i, none⟩ = some v := by rw [h.cell, hv]
/-- Part of a block read as a row. -/
theorem Blk.row {n o : Nat} {l : List Value} (h : Blk w b t cs) (hl : (cs.toList.drop o).take n = l) (hn : l.length = n) : row w ⟨b, o, none⟩ n = some l := by
  refine (row_iff _ _ _ _).2 ⟨hn, fun j v hj => ?_⟩
  rw [Addr.add_lit, h.cell]
  subst hl
  rw [List.getElem?_take] at hj
  split at hj
  · rw [List.getElem?_drop] at hj
    simpa using hj
  · cases hj
end

theorem setRow_chg {w : World} {b : Nat} (cs : Array Value) : Chg [b] w (w.setRow b cs) :=
  ⟨rfl, rfl, rfl, by simp, fun k hk hn => by
    have : b ≠ k := fun h => hn (by simp [h])
    simp only [World.setRow, Array.getElem?_modify]
    rw [if_neg this]⟩
theorem setRow_blk {w : World} {b : Nat} {t : TypeId} {cs : Array Value} (h : Blk w b t cs) (ds : Array Value) : Blk (w.setRow b ds) b t ds := setRow_heap w b cs ds t (0, 0) h

/-- Cells written one by one into a block. -/
theorem setCell_setRow {w : World} {b i : Nat} {t : TypeId} {cs : Array Value} (h : Blk w b t cs) (v : Value) : w.setCell ⟨b, i, none⟩ v = w.setRow b (cs.setIfInBounds i v) := by
  unfold World.setCell World.setRow
  congr 1
  apply Array.ext_getElem?
  intro k
  simp only [Array.getElem?_modify]
  split
  · rename_i hk
    subst hk
    unfold Blk at h
    simp [h]
  · rfl
theorem setRow_setRow (w : World) (b : Nat) (cs ds : Array Value) : (w.setRow b cs).setRow b ds = w.setRow b ds := by
  unfold World.setRow
  congr 1
  apply Array.ext_getElem?
  intro k
  simp only [Array.getElem?_modify]
  split
  · cases w.heap[k]? with
    | none => rfl
    | some o => cases o <;> rfl
  · rfl
/-- cs with l written from i on. -/
def wr (cs : Array Value) : Nat → List Value → Array Value
  | _, [] => cs
  | i, v :: l => wr (cs.setIfInBounds i v) (i + 1) l
theorem size_wr (l : List Value) : ∀ (cs : Array Value) (i : Nat), (wr cs i l).size = cs.size := by
  induction l with
  | nil => intro cs i; rfl
  | cons v l ih => intro cs i; simp [wr, ih]
theorem run_storeCells_blk (l : List Value) : ∀ (w : World) (b i : Nat) (o : Nat) (t : TypeId) (cs : Array Value), Blk w b t cs → o + i + l.length ≤ cs.size → (∀ v ∈ l, v.oneCell' = true) →
    ∃ w', (storeCells ⟨b, o, none⟩ l i).run Try.prog w = .ok () w' ∧ Blk w' b t (wr cs (o + i) l) ∧ Chg [b] w w' := by
  induction l with
  | nil => intro w b i o t cs h _ _; exact ⟨w, by simp [storeCells], h, (Chg.refl w).more (by simp)⟩
  | cons v l ih =>
    intro w b i o t cs h hl h1
    simp only [List.length_cons] at hl
    have hlt : o + i < cs.size := by omega
    have hc : w.cell? ⟨b, o + i, none⟩ = some cs[o + i] := by rw [h.cell]; simp [hlt]
    have hr : (store ((⟨b, o, none⟩ : Addr).add i) v).run Try.prog w = .ok () (w.setCell ⟨b, o + i, none⟩ v) := by
      rw [Addr.add_lit, run_store Try.prog w _ v .plain (h1 v (by simp))]
      simp [hc, h.frozen]
    have hB : Blk (w.setCell ⟨b, o + i, none⟩ v) b t (cs.setIfInBounds (o + i) v) := by rw [setCell_setRow h]; exact setRow_blk h _
    obtain ⟨w', e1, e2, e3⟩ := ih _ b (i + 1) o t _ hB (by simp; omega) (fun u hu => h1 u (by simp [hu]))
    refine ⟨w', ?_, ?_, ?_⟩
    · simp only [storeCells, Sem.run_bind, hr, Result.andThen_ok]; exact e1
    · rw [← Nat.add_assoc] at e2; exact e2
    · have hcc : Chg [b] w (w.setCell ⟨b, o + i, none⟩ v) := by rw [setCell_setRow h]; exact setRow_chg _
      exact (hcc.trans e3).more (by simp)
theorem wr_all (l : List Value) : ∀ (cs : Array Value) (pre : List Value), cs.toList = pre ++ cs.toList.drop pre.length → cs.size = pre.length + l.length → wr cs pre.length l = (pre ++ l).toArray := by
  induction l with
  | nil =>
    intro cs pre h hs
    have : cs.toList.drop pre.length = [] := List.drop_eq_nil_of_le (by simp at hs; simp [hs])
    rw [this] at h
    apply Array.ext'
    simpa [wr] using h
  | cons v l ih =>
    intro cs pre h hs
    simp only [List.length_cons] at hs
    have e : wr cs pre.length (v :: l) = wr (cs.setIfInBounds pre.length v) (pre ++ [v]).length l := by simp [wr]
    rw [e, ih]
    · simp
    · have hlt : pre.length < cs.toList.length := by simp; omega
      simp only [Array.toList_setIfInBounds, List.length_append, List.length_cons, List.length_nil, Nat.zero_add]
      apply List.ext_getElem?
      intro k
      by_cases hk : k < pre.length
      · have e1 : cs.toList[k]? = pre[k]? := by rw [h]; exact List.getElem?_append_left hk
        rw [List.getElem?_set_ne (by omega), e1, List.getElem?_append_left (by simp; omega), List.getElem?_append_left hk]
      · by_cases hk2 : k = pre.length
        · subst hk2
          rw [List.getElem?_set_self hlt, List.getElem?_append_left (by simp)]
          simp
        · rw [List.getElem?_append_right (by simp; omega), List.getElem?_drop]
          congr 1
          simp
          omega
    · simp; omega
/-- A whole struct stored into its box. -/
theorem run_storeVar_whole {w : World} {b : Nat} {t t' : TypeId} {cs : Array Value} {v : Value} (h : Blk w b t cs) (hs : sizeT t' cs.size = true) (hv : v.cells.size = cs.size) (h1 : ∀ u ∈ v.cells.toList, u.oneCell' = true) :
    ∃ w', (Instr.storeAt t' (.pointer (some ⟨b, 0, none⟩)) v).run Try.prog w = .ok () w' ∧ Blk w' b t v.cells ∧ Chg [b] w w' := by
  obtain ⟨w', e1, e2, e3⟩ := run_storeCells_blk v.cells.toList w b 0 0 t cs h (by simp [hv]) h1
  refine ⟨w', ?_, ?_, e3⟩
  · simp only [Instr.storeAt, Instr.sureAddr, Sem.run_bind, Sem.run_pure, Result.andThen_ok, storeVar, run_sizeT hs]
    rw [if_neg (by simp [hv])]
    simpa using e1
  · have := wr_all v.cells.toList cs [] (by simp) (by simp [hv])
    simp only [List.length_nil, List.nil_append, Array.toArray_toList] at this
    simpa [this] using e2
/-- One cell of a box stored. -/
theorem run_storeVar_cell {w : World} {b i : Nat} {t t' : TypeId} {cs : Array Value} {v : Value} (h : Blk w b t cs) (hs : sizeT t' 1 = true) (hi : i < cs.size) (hv : v.cells = #[v]) (h1 : v.oneCell' = true) :
    ∃ w', (Instr.storeAt t' (.pointer (some ⟨b, i, none⟩)) v).run Try.prog w = .ok () w' ∧ Blk w' b t (cs.setIfInBounds i v) ∧ Chg [b] w w' := by
  obtain ⟨w', e1, e2, e3⟩ := run_storeCells_blk [v] w b 0 i t cs h (by simp; omega) (by simp [h1])
  refine ⟨w', ?_, by simpa [wr] using e2, e3⟩
  simp only [Instr.storeAt, Instr.sureAddr, Sem.run_bind, Sem.run_pure, Result.andThen_ok, storeVar, run_sizeT hs, hv]
  simpa using e1
/-- A struct stored into a part of a box. -/
theorem run_storeVar_part {w : World} {b i : Nat} {t t' : TypeId} {cs : Array Value} {v : Value} {n : Nat} (h : Blk w b t cs) (hs : sizeT t' n = true) (hv : v.cells.size = n) (hi : i + n ≤ cs.size) (h1 : ∀ u ∈ v.cells.toList, u.oneCell' = true) :
    ∃ w', (Instr.storeAt t' (.pointer (some ⟨b, i, none⟩)) v).run Try.prog w = .ok () w' ∧ Blk w' b t (wr cs i v.cells.toList) ∧ Chg [b] w w' := by
  obtain ⟨w', e1, e2, e3⟩ := run_storeCells_blk v.cells.toList w b 0 i t cs h (by simp [hv]; omega) h1
  refine ⟨w', ?_, by simpa using e2, e3⟩
  simp only [Instr.storeAt, Instr.sureAddr, Sem.run_bind, Sem.run_pure, Result.andThen_ok, storeVar, run_sizeT hs]
  rw [if_neg (by simp [hv])]
  simpa using e1
end Go.Proofs.Ytigimkmkbdnlpaa
