/- Words of this family: a message, its cells, a slice of messages in memory, a trade; and the runs of the operations on them. -/
import Derived.Test.YtigimkmkbdnlpaaRows
import Derived.WalkKit
import Derived.WalkSpells
import Derived.WalkLawsBesides
import Derived.Lib.Hide
import Derived.Deep.MidRow
import Derived.ChangeKeysEq
namespace Go.Proofs.Ytigimkmkbdnlpaa
open Go.RowKit

/-- A message: its eight numbers, its three slices as they lie, its seal. -/
structure Msg where
  kind : Int
  frm : Int
  to : Int
  no : Int
  item : Int
  amount : Int
  day : Int
  label : Int
  la : Option Addr
  ln : Nat
  lc : Nat
  va : Option Addr
  vn : Nat
  vc : Nat
  ra : Option Addr
  rn : Nat
  rc : Nat
  sl : List Int
  hsl : sl.length = 32

def Msg.list (m : Msg) : List Value :=
  .int .i64 m.kind :: .int .i64 m.frm :: .int .i64 m.to :: .int .i64 m.no :: .int .i64 m.item :: .int .i64 m.amount :: .int .i64 m.day :: .int .i64 m.label ::
    .slice m.la m.ln m.lc :: .slice m.va m.vn m.vc :: .slice m.ra m.rn m.rc :: m.sl.map (.int .u8)
def Msg.arr (m : Msg) : Array Value := m.list.toArray
/-- The seal's cells. -/
def sealArr (l : List Int) : Array Value := (l.map (Value.int .u8)).toArray
theorem Msg.length_list (m : Msg) : m.list.length = 43 := by simp [Msg.list, m.hsl]
theorem Msg.size_arr (m : Msg) : m.arr.size = 43 := by simp [Msg.arr, Msg.length_list]
theorem Msg.toList_arr (m : Msg) : m.arr.toList = m.list := by simp [Msg.arr]
@[go_sem] theorem Msg.arr0 (m : Msg) : m.arr[0]? = some (.int .i64 m.kind) := rfl
@[go_sem] theorem Msg.arr1 (m : Msg) : m.arr[1]? = some (.int .i64 m.frm) := rfl
@[go_sem] theorem Msg.arr2 (m : Msg) : m.arr[2]? = some (.int .i64 m.to) := rfl
@[go_sem] theorem Msg.arr3 (m : Msg) : m.arr[3]? = some (.int .i64 m.no) := rfl
@[go_sem] theorem Msg.arr4 (m : Msg) : m.arr[4]? = some (.int .i64 m.item) := rfl
@[go_sem] theorem Msg.arr5 (m : Msg) : m.arr[5]? = some (.int .i64 m.amount) := rfl
@[go_sem] theorem Msg.arr6 (m : Msg) : m.arr[6]? = some (.int .i64 m.day) := rfl
@[go_sem] theorem Msg.arr7 (m : Msg) : m.arr[7]? = some (.int .i64 m.label) := rfl
@[go_sem] theorem Msg.arr8 (m : Msg) : m.arr[8]? = some (.slice m.la m.ln m.lc) := rfl
@[go_sem] theorem Msg.arr9 (m : Msg) : m.arr[9]? = some (.slice m.va m.vn m.vc) := rfl
@[go_sem] theorem Msg.arr10 (m : Msg) : m.arr[10]? = some (.slice m.ra m.rn m.rc) := rfl
theorem Msg.oneCell (m : Msg) : ∀ v ∈ m.list, v.oneCell' = true := by
  intro v hv
  simp only [Msg.list, List.mem_cons, List.mem_map] at hv
  rcases hv with rfl | rfl | rfl | rfl | rfl | rfl | rfl | rfl | rfl | rfl | rfl | ⟨_, _, rfl⟩ <;> rfl
/-- The zero message. -/
def Msg.zero : Msg := { kind := 0, frm := 0, to := 0, no := 0, item := 0, amount := 0, day := 0, label := 0, la := none, ln := 0, lc := 0, va := none, vn := 0, vc := 0, ra := none, rn := 0, rc := 0, sl := List.replicate 32 0, hsl := rfl }
theorem Msg.ext_list {m n : Msg} (h : m.list = n.list) : m = n := by
  cases m; cases n
  simp only [Msg.list, List.cons.injEq, Value.int.injEq, Value.slice.injEq, true_and] at h
  obtain ⟨rfl, rfl, rfl, rfl, rfl, rfl, rfl, rfl, ⟨rfl, rfl, rfl⟩, ⟨rfl, rfl, rfl⟩, ⟨rfl, rfl, rfl⟩, h⟩ := h
  have : ∀ a b : List Int, a.map (Value.int .u8) = b.map (Value.int .u8) → a = b := by
    intro a
    induction a with
    | nil => intro b hb; cases b <;> simp_all
    | cons x a ih =>
      intro b hb
      cases b with
      | nil => simp at hb
      | cons y b => simp only [List.map_cons, List.cons.injEq, Value.int.injEq, true_and] at hb; rw [hb.1, ih b hb.2]
  obtain rfl := this _ _ h
  rfl

/-- n cells from a on, if they are all there. -/
def cellsFrom (w : World) (a : Addr) (i : Nat) : Nat → Option (List Value)
  | 0 => some []
  | n + 1 => match w.cell? (a.add i), cellsFrom w a (i + 1) n with
    | some v, some l => some (v :: l)
    | _, _ => none
def row (w : World) (a : Addr) (n : Nat) : Option (List Value) := cellsFrom w a 0 n
theorem cellsFrom_iff (w : World) (a : Addr) : ∀ (n i : Nat) (l : List Value), cellsFrom w a i n = some l ↔ (l.length = n ∧ ∀ j v, l[j]? = some v → w.cell? (a.add (i + j)) = some v) := by
  intro n
  induction n with
  | zero => intro i l; cases l <;> simp [cellsFrom]
  | succ n ih =>
    intro i l
    simp only [cellsFrom]
    constructor
    · intro h
      split at h
      · rename_i v l' h1 h2
        injection h with h
        subst h
        obtain ⟨hl, hc⟩ := (ih (i + 1) l').1 h2
        refine ⟨by simp [hl], fun j u hj => ?_⟩
        cases j with
        | zero => simp at hj; subst hj; exact h1
        | succ j => have := hc j u (by simpa using hj); rwa [show i + 1 + j = i + (j + 1) from by omega] at this
      · cases h
    · rintro ⟨hl, hc⟩
      cases l with
      | nil => simp at hl
      | cons v l =>
        have h1 := hc 0 v rfl
        have h2 := (ih (i + 1) l).2 ⟨by simpa using hl, fun j u hj => by have := hc (j + 1) u (by simpa using hj); rwa [show i + (j + 1) = i + 1 + j from by omega] at this⟩
        simp only [Nat.add_zero] at h1
        rw [h1, h2]
theorem row_iff (w : World) (a : Addr) (n : Nat) (l : List Value) : row w a n = some l ↔ (l.length = n ∧ ∀ j v, l[j]? = some v → w.cell? (a.add j) = some v) := by
  simpa [row] using cellsFrom_iff w a n 0 l
theorem row_congr {w w' : World} {a : Addr} {n : Nat} (h : ∀ j, j < n → w'.cell? (a.add j) = w.cell? (a.add j)) : row w' a n = row w a n := by
  have : ∀ k i, i + k ≤ n → cellsFrom w' a i k = cellsFrom w a i k := by
    intro k
    induction k with
    | zero => intro i _; rfl
    | succ k ih => intro i hi; simp only [cellsFrom]; rw [h i (by omega), ih (i + 1) (by omega)]
  exact this n 0 (by omega)
theorem block_of_add (a : Addr) (n : Nat) : (a.add n).block = a.block := by unfold Addr.add; split <;> rfl
@[go_sem] theorem row_drew (w : World) (a : Addr) (n : Nat) : row w.drew a n = row w a n := row_congr fun _ _ => rfl
theorem row_of_block {w w' : World} {a : Addr} (n : Nat) (h : w'.heap[a.block]? = w.heap[a.block]?) : row w' a n = row w a n :=
  row_congr fun j _ => World.cell?_of_block (by rw [block_of_add]; exact h)
@[go_sem] theorem row_alloc_past (w : World) (o : Obj) (b i n : Nat) (hn : b < w.heap.size) : row (w.alloc o) ⟨b, i, none⟩ n = row w ⟨b, i, none⟩ n :=
  row_of_block n (Below.heap_alloc w o _ hn)
@[go_sem] theorem row_alloc_msg (w : World) (m : Msg) (t b : Nat) (hn : b = w.heap.size) : row (w.alloc (.cells m.arr t)) ⟨b, 0, none⟩ 43 = some m.list := by
  subst hn
  refine (row_iff _ _ _ _).2 ⟨m.length_list, fun j v hj => ?_⟩
  rw [Addr.add_lit, Nat.zero_add, World.cell?_alloc_new, Msg.arr]
  simpa using hj
theorem row_below {w w' : World} {B : Nat} (h : Below B w w') {b i : Nat} (hb : b < B) (n : Nat) : row w' ⟨b, i, none⟩ n = row w ⟨b, i, none⟩ n :=
  row_of_block n (h.block b hb)

theorem run_loadCells_row {P : Program} {w : World} {a : Addr} {n : Nat} {l : List Value} (h : row w a n = some l) : (loadCells a n).run P w = .ok l.toArray w := by
  obtain ⟨h1, h2⟩ := (row_iff _ _ _ _).1 h
  have := run_loadCells_list (P := P) w a l h2
  rw [h1] at this
  exact this

theorem isz30 : (Try.prog.info? 30).map (·.size) = some 43 := by kernel_rfl
theorem isz28 : (Try.prog.info? 28).map (·.size) = some 32 := by kernel_rfl
theorem isz24 : (Try.prog.info? 24).map (·.size) = some 4 := by kernel_rfl

/-- A struct, or an array, read out of its cells. -/
theorem run_loadVar_row' {w : World} {a : Addr} {t : TypeId} {d : TypeDesc} {n : Nat} {l : List Value} (hd : Try.prog.underlying t = some d) (hr : (match d with | .struct _ | .array _ _ => true | _ => false) = true)
    (hi : (Try.prog.info? t).map (·.size) = some n) (h : row w a n = some l) : (loadVar t a).run Try.prog w = .ok (.agg l.toArray) w := by
  obtain ⟨i, hi1, hi2⟩ := Option.map_eq_some_iff.1 hi
  have hl := run_loadCells_row (P := Try.prog) h
  cases d <;> simp at hr <;> simp [loadVar, isAgg, run_underlying hd, sizeOf, typeInfo, hi1, hi2, hl]

@[go_sem ↓] theorem run_loadAt30 (w : World) (a : Addr) : (Instr.loadAt 30 (.pointer (some a))).run Try.prog w =
    match row w a 43 with | some l => .ok (.agg l.toArray) w | none => (loadVar 30 a).run Try.prog w := by
  have h0 : (Instr.loadAt 30 (.pointer (some a))).run Try.prog w = (loadVar 30 a).run Try.prog w := by simp [Instr.loadAt, Instr.sureAddr]
  rw [h0]
  split
  · rename_i l h; exact run_loadVar_row' Try.underlying30 rfl isz30 h
  · rfl
@[go_sem ↓] theorem run_loadAt28 (w : World) (a : Addr) : (Instr.loadAt 28 (.pointer (some a))).run Try.prog w =
    match row w a 32 with | some l => .ok (.agg l.toArray) w | none => (loadVar 28 a).run Try.prog w := by
  have h0 : (Instr.loadAt 28 (.pointer (some a))).run Try.prog w = (loadVar 28 a).run Try.prog w := by simp [Instr.loadAt, Instr.sureAddr]
  rw [h0]
  split
  · rename_i l h; exact run_loadVar_row' Try.underlying28 rfl isz28 h
  · rfl
@[go_sem] theorem toArray_msg (m : Msg) : m.list.toArray = m.arr := rfl
@[go_sem] theorem toArray_seal (l : List Int) : (l.map (Value.int .u8)).toArray = sealArr l := rfl
@[go_sem ↓] theorem run_alloc30 (w : World) : (Instr.alloc 30 true (.tuple #[])).run Try.prog w = .ok (.pointer (some ⟨w.heap.size, 0, none⟩)) (w.alloc (.cells Msg.zero.arr 30)) := by kernel_rfl
@[go_sem ↓] theorem run_build30 (w : World) : (Instr.build 30 #[]).run Try.prog w = .ok (.agg Msg.zero.arr) w := by kernel_rfl
@[go_sem ↓] theorem run_build28 (w : World) : (Instr.build 28 #[]).run Try.prog w = .ok (.agg (sealArr Msg.zero.sl)) w := by kernel_rfl
/-- The seal's cells, out of a block that is a message. -/
theorem row_seal_of_row {w : World} {a : Addr} {m : Msg} (h : row w a 43 = some m.list) : row w (a.add 11) 32 = some (m.sl.map (Value.int .u8)) := by
  obtain ⟨_, h2⟩ := (row_iff _ _ _ _).1 h
  refine (row_iff _ _ _ _).2 ⟨by simp [m.hsl], fun j v hj => ?_⟩
  have := h2 (11 + j) v (by rw [Nat.add_comm]; simpa [Msg.list] using hj)
  have e : (a.add 11).add j = a.add (11 + j) := by
    unfold Addr.add
    by_cases hj : j = 0 <;> simp [hj, Nat.add_assoc]
  rw [e]; exact this
@[go_sem] theorem row_seal_msg (w : World) (m : Msg) (t b : Nat) (hn : b = w.heap.size) : row (w.alloc (.cells m.arr t)) ⟨b, 11, none⟩ 32 = some (m.sl.map (Value.int .u8)) := by
  have := row_seal_of_row (row_alloc_msg w m t b hn)
  simpa [Addr.add_lit] using this

theorem run_eqItems_seal (w : World) (xs ys : List Int) (is : List Nat) : (∀ i ∈ is, i < xs.length ∧ i < ys.length) →
    (Op.eqItems 9999 5 (Try.prog.cellsOf 5) (sealArr xs) (sealArr ys) is).run Try.prog w = .ok (is.all fun i => xs[i]? == ys[i]?) w := by
  have hc : Try.prog.cellsOf 5 = 1 := by kernel_rfl
  have hp : Try.prog.plainKey 5 = true := by kernel_rfl
  rw [hc]
  induction is with
  | nil => intro _; simp [Op.eqItems]
  | cons i is ih =>
    intro h
    obtain ⟨h1, h2⟩ := h i (by simp)
    have ih' := ih fun j hj => h j (by simp [hj])
    have e1 : (sealArr xs)[i * 1]? = some (.int .u8 xs[i]) := by simp [sealArr, h1]
    have e2 : (sealArr ys)[i * 1]? = some (.int .u8 ys[i]) := by simp [sealArr, h2]
    have p1 := run_part_plain w hp e1
    have p2 := run_part_plain w hp e2
    simp only [Op.eqItems, Sem.run_bind, p1, p2, Result.andThen_ok, run_equalIn_int w 9998 5 .u8 .u8 xs[i] ys[i] Try.underlying5]
    rw [List.all_cons, List.getElem?_eq_getElem h1, List.getElem?_eq_getElem h2]
    by_cases hxy : xs[i] = ys[i]
    · simp [hxy, ih']
    · simp [hxy]
theorem run_equalIn_seal (w : World) (x y : List Int) (hx : x.length = 32) (hy : y.length = 32) :
    (Op.equalIn 10000 28 (.agg (sealArr x)) (.agg (sealArr y))).run Try.prog w = .ok (x == y) w := by
  obtain ⟨i5, hi5, _⟩ := Option.map_eq_some_iff.1 (show (Try.prog.info? 5).map (·.size) = some 1 by kernel_rfl)
  rw [run_equalIn_array w 9999 _ _ Try.underlying28 hi5, run_eqItems_seal w x y (List.range 32) (fun i hi => by simp at hi; omega)]
  refine congrArg (fun b => Result.ok b w) ?_
  rw [Bool.eq_iff_iff, List.all_eq_true, beq_iff_eq]
  constructor
  · intro h
    refine List.ext_getElem? fun i => ?_
    by_cases hi : i < 32
    · simpa using h i (by simpa using hi)
    · rw [List.getElem?_eq_none (by omega), List.getElem?_eq_none (by omega)]
  · rintro rfl i _; simp
@[go_sem ↓] theorem run_eql_seal (w : World) (x y : Msg) : (binOp .eql 28 (.agg (sealArr x.sl)) (.agg (sealArr y.sl))).run Try.prog w = .ok (.bool (x.sl == y.sl)) w := by
  rw [run_eql_struct, run_equalIn_seal w _ _ x.hsl y.hsl]; rfl
end Go.Proofs.Ytigimkmkbdnlpaa
