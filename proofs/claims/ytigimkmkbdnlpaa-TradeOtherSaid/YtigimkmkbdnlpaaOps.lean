/- The runs of single operations: one law a kind of operation. -/
import Derived.Test.YtigimkmkbdnlpaaCore
namespace Go.Proofs.Ytigimkmkbdnlpaa
open Go.RowKit

/-- Is a type a row of cells (a struct, an array)? -/
def rowDesc : TypeDesc → Bool | .struct _ | .array _ _ => true | _ => false
/-- A type of one cell. -/
noncomputable def plainT (t : TypeId) : Bool := match Try.prog.underlying t with | some d => !rowDesc d | none => false
/-- A type that is a row of n cells. -/
noncomputable def rowT (t : TypeId) (n : Nat) : Bool := (match Try.prog.underlying t with | some d => rowDesc d | none => false) && (match Try.prog.info? t with | some i => i.size == n | none => false)
noncomputable def sizeT (t : TypeId) (n : Nat) : Bool := match Try.prog.info? t with | some i => i.size == n | none => false
/-- Field f of struct s lies at offset k and is no empty one. -/
noncomputable def foB (s f k : Nat) : Bool := match Try.prog.underlying s with
  | some (.struct fs) => (match fs[f]? with | some fd => fd.offset == k && (match Try.prog.info? fd.type with | some i => i.size != 0 | none => false) | none => false)
  | _ => false
/-- A function with a Go body. -/
noncomputable def goB (f : FuncId) : Bool := match Try.prog.funcs[f]? with | some fn => !(fn.name == "runtime.NumGoroutine") && !fn.body.isNone | none => false
/-- A slice type. -/
noncomputable def sliceT (t e : TypeId) : Bool := match Try.prog.underlying t with | some (.slice e') => e' == e | _ => false
noncomputable def intT (t : TypeId) : Bool := match Try.prog.underlying t with | some (.int _) => true | _ => false

theorem run_isAgg_plain {t : TypeId} (h : plainT t = true) (w : World) : (isAgg t).run Try.prog w = .ok false w := by
  unfold plainT at h
  split at h
  · rename_i d hd
    cases d <;> simp [rowDesc] at h <;> simp [isAgg, run_underlying hd]
  · cases h
theorem run_isAgg_row {t : TypeId} {n : Nat} (h : rowT t n = true) (w : World) : (isAgg t).run Try.prog w = .ok true w := by
  unfold rowT at h
  simp only [Bool.and_eq_true] at h
  split at h
  · rename_i d hd
    cases d <;> simp [rowDesc] at h <;> simp [isAgg, run_underlying hd]
  · simp at h
theorem run_sizeT {t : TypeId} {n : Nat} (h : sizeT t n = true) (w : World) : (sizeOf t).run Try.prog w = .ok n w := by
  unfold sizeT at h
  split at h
  · rename_i i hi; simp at h; simp [sizeOf, typeInfo, hi, h]
  · cases h
theorem sizeT_of_rowT {t : TypeId} {n : Nat} (h : rowT t n = true) : sizeT t n = true := by unfold rowT at h; unfold sizeT; exact (Bool.and_eq_true_iff.1 h).2
theorem sliceT_of {t e : TypeId} (h : sliceT t e = true) : Try.prog.underlying t = some (.slice e) := by
  unfold sliceT at h
  split at h
  · rename_i hu; simp at h; subst h; exact hu
  · cases h

theorem run_loadAt_plain {t : TypeId} {w : World} {a : Addr} {v : Value} (ht : plainT t = true) (hc : w.cell? a = some v) : (Instr.loadAt t (.pointer (some a))).run Try.prog w = .ok v w := by
  simp [Instr.loadAt, Instr.sureAddr, loadVar, run_isAgg_plain ht, load, Sem.run, hc]
theorem run_loadAt_row {t n : Nat} {w : World} {a : Addr} {l : List Value} (ht : rowT t n = true) (hc : row w a n = some l) : (Instr.loadAt t (.pointer (some a))).run Try.prog w = .ok (.agg l.toArray) w := by
  simp [Instr.loadAt, Instr.sureAddr, loadVar, run_isAgg_row ht, run_sizeT (sizeT_of_rowT ht), run_loadCells_row (P := Try.prog) hc]
theorem run_fieldAt {s f k : Nat} {w : World} {a : Addr} (h : foB s f k = true) : (Instr.fieldAt s (.pointer (some a)) f).run Try.prog w = .ok (.pointer (some (a.add k))) w := by
  unfold foB at h
  split at h
  · rename_i fs hs
    split at h
    · rename_i fd hf
      simp only [Bool.and_eq_true, beq_iff_eq] at h
      obtain ⟨h1, h2⟩ := h
      split at h2
      · rename_i i hi
        have h3 : i.size ≠ 0 := by simpa using h2
        simp [Instr.fieldAt, Instr.sureAddr, run_underlying hs, hf, fieldPlace, sizeOf, typeInfo, hi, h3, h1]
      · cases h2
    · cases h
  · cases h
theorem run_callFunc {f : FuncId} (h : goB f = true) (args : Array Value) (w : World) : (callFunc f args).run Try.prog w = .ok (.enter f args) w := by
  unfold goB at h
  split at h
  · rename_i fn hf
    simp only [Bool.and_eq_true, Bool.not_eq_true'] at h
    obtain ⟨h1, h2⟩ := h
    have h3 : ¬ fn.body = none := by
      intro h0; rw [h0] at h2; simp at h2
    have h1' : ¬ fn.name = "runtime.NumGoroutine" := by simpa using h1
    simp [callFunc, program, Sem.run, hf, h1', h3]
  · cases h

section
variable {N : Nat} {ρ : Ro} {dst : Option Tmp} {ty : TypeId} {pos : String} {aft : Array Edge} {g : Option (Nat × Bool)} {w : World}

theorem X.move {x : Operand} {v : Value} (hx : (mk N ρ).eval x = v) : (execOp (mk N ρ).eval ⟨dst, .move x, ty, pos, aft, g⟩).run Try.prog w = .ok (.value v) w := by subst hx; rfl
theorem X.assign {x : Operand} {v : Value} (hx : (mk N ρ).eval x = v) : (execOp (mk N ρ).eval ⟨dst, .assign x, ty, pos, aft, g⟩).run Try.prog w = .ok (.value v) w := by subst hx; rfl
theorem X.or {c x : Operand} {b d : Bool} (hc : (mk N ρ).eval c = .bool b) (hx : (mk N ρ).eval x = gv (b == false) (.bool d)) :
    (execOp (mk N ρ).eval ⟨dst, .pick c (.const (.bool true)) x, ty, pos, aft, g⟩).run Try.prog w = .ok (.value (.bool (b || d))) w := by
  simp only [execOp, hc, asBool, Sem.run_bind, Sem.run_pure, Result.andThen_ok, hx, evc]
  cases b <;> rfl
theorem X.and {c x : Operand} {b d : Bool} (hc : (mk N ρ).eval c = .bool b) (hx : (mk N ρ).eval x = gv (b == true) (.bool d)) :
    (execOp (mk N ρ).eval ⟨dst, .pick c x (.const (.bool false)), ty, pos, aft, g⟩).run Try.prog w = .ok (.value (.bool (b && d))) w := by
  simp only [execOp, hc, asBool, Sem.run_bind, Sem.run_pure, Result.andThen_ok, hx, evc]
  cases b <;> rfl
theorem X.load {t : TypeId} {x : Operand} {a : Addr} {v : Value} (hx : (mk N ρ).eval x = .pointer (some a)) (ht : plainT t = true) (hc : w.cell? a = some v) :
    (execOp (mk N ρ).eval ⟨dst, .load t x, ty, pos, aft, g⟩).run Try.prog w = .ok (.value v) w := by
  simp only [execOp, hx, Sem.run_bind, Sem.run_pure, Result.andThen_ok, run_loadAt_plain ht hc]
theorem X.loadR {t n : Nat} {x : Operand} {a : Addr} {l : List Value} {v : Value} (hx : (mk N ρ).eval x = .pointer (some a)) (ht : rowT t n = true) (hc : row w a n = some l) (hv : .agg l.toArray = v) :
    (execOp (mk N ρ).eval ⟨dst, .load t x, ty, pos, aft, g⟩).run Try.prog w = .ok (.value v) w := by
  subst hv
  simp only [execOp, hx, Sem.run_bind, Sem.run_pure, Result.andThen_ok, run_loadAt_row ht hc]
theorem X.fieldAddr {s f k : Nat} {x : Operand} {a b : Addr} (hx : (mk N ρ).eval x = .pointer (some a)) (h : foB s f k = true) (hb : a.add k = b) :
    (execOp (mk N ρ).eval ⟨dst, .fieldAddr s x f, ty, pos, aft, g⟩).run Try.prog w = .ok (.value (.pointer (some b))) w := by
  subst hb
  simp only [execOp, hx, Sem.run_bind, Sem.run_pure, Result.andThen_ok, run_fieldAt h]
theorem X.nilCheck {x : Operand} {a : Addr} (hx : (mk N ρ).eval x = .pointer (some a)) :
    (execOp (mk N ρ).eval ⟨dst, .nilCheck x, ty, pos, aft, g⟩).run Try.prog w = .ok (.value (.pointer (some a))) w := by
  simp only [execOp, hx]; rfl
theorem X.extract {x : Operand} {i : Nat} {vs : Array Value} {v : Value} (hx : (mk N ρ).eval x = .tuple vs) (hi : vs[i]? = some v) :
    (execOp (mk N ρ).eval ⟨dst, .extract x i, ty, pos, aft, g⟩).run Try.prog w = .ok (.value v) w := by
  simp [execOp, hx, Instr.extract, hi]
theorem X.not {x : Operand} {t : TypeId} {b : Bool} (hx : (mk N ρ).eval x = .bool b) : (execOp (mk N ρ).eval ⟨dst, .unOp .not t x, ty, pos, aft, g⟩).run Try.prog w = .ok (.value (.bool (!b))) w := by
  simp [execOp, hx, Op.unary]
theorem X.len {x : Operand} {t e : TypeId} {A : Option Addr} {n c : Nat} (hx : (mk N ρ).eval x = .slice A n c) (ht : sliceT t e = true) :
    (execOp (mk N ρ).eval ⟨dst, .call { callee := .builtin .len, args := #[x], argTypes := #[t] }, ty, pos, aft, g⟩).run Try.prog w = .ok (.value (.int .i64 n)) w := by
  simp [execOp, resolve, invoke, builtin, Builtin.len_, hx, run_underlying (sliceT_of ht), goInt]
section
variable {x y : Operand} {t t' : TypeId} {k : IntKind} {a b : Int}
theorem X.eql (hx : (mk N ρ).eval x = .int k a) (hy : (mk N ρ).eval y = .int k b) : (execOp (mk N ρ).eval ⟨dst, .binOp .eql t x y t', ty, pos, aft, g⟩).run Try.prog w = .ok (.value (.bool (a == b))) w := by
  simp [execOp, hx, hy, eqGuard, binOp, Op.intCmp]
theorem X.neq (hx : (mk N ρ).eval x = .int k a) (hy : (mk N ρ).eval y = .int k b) : (execOp (mk N ρ).eval ⟨dst, .binOp .neq t x y t', ty, pos, aft, g⟩).run Try.prog w = .ok (.value (.bool (a != b))) w := by
  simp [execOp, hx, hy, eqGuard, binOp, Op.intCmp]
theorem X.lss (hx : (mk N ρ).eval x = .int k a) (hy : (mk N ρ).eval y = .int k b) : (execOp (mk N ρ).eval ⟨dst, .binOp .lss t x y t', ty, pos, aft, g⟩).run Try.prog w = .ok (.value (.bool (decide (a < b)))) w := by
  simp [execOp, hx, hy, eqGuard, binOp, Op.intCmp]
theorem X.leq (hx : (mk N ρ).eval x = .int k a) (hy : (mk N ρ).eval y = .int k b) : (execOp (mk N ρ).eval ⟨dst, .binOp .leq t x y t', ty, pos, aft, g⟩).run Try.prog w = .ok (.value (.bool (decide (a ≤ b)))) w := by
  simp [execOp, hx, hy, eqGuard, binOp, Op.intCmp]
theorem X.gtr (hx : (mk N ρ).eval x = .int k a) (hy : (mk N ρ).eval y = .int k b) : (execOp (mk N ρ).eval ⟨dst, .binOp .gtr t x y t', ty, pos, aft, g⟩).run Try.prog w = .ok (.value (.bool (decide (b < a)))) w := by
  simp [execOp, hx, hy, eqGuard, binOp, Op.intCmp]
theorem X.geq (hx : (mk N ρ).eval x = .int k a) (hy : (mk N ρ).eval y = .int k b) : (execOp (mk N ρ).eval ⟨dst, .binOp .geq t x y t', ty, pos, aft, g⟩).run Try.prog w = .ok (.value (.bool (decide (b ≤ a)))) w := by
  simp [execOp, hx, hy, eqGuard, binOp, Op.intCmp]
theorem X.add (hx : (mk N ρ).eval x = .int k a) (hy : (mk N ρ).eval y = .int k b) : (execOp (mk N ρ).eval ⟨dst, .binOp .add t x y t', ty, pos, aft, g⟩).run Try.prog w = .ok (.value (.int k (k.wrap (a + b)))) w := by
  simp [execOp, hx, hy, eqGuard, binOp, Op.intArith]
theorem X.sub (hx : (mk N ρ).eval x = .int k a) (hy : (mk N ρ).eval y = .int k b) : (execOp (mk N ρ).eval ⟨dst, .binOp .sub t x y t', ty, pos, aft, g⟩).run Try.prog w = .ok (.value (.int k (k.wrap (a - b)))) w := by
  simp [execOp, hx, hy, eqGuard, binOp, Op.intArith]
theorem X.mul (hx : (mk N ρ).eval x = .int k a) (hy : (mk N ρ).eval y = .int k b) : (execOp (mk N ρ).eval ⟨dst, .binOp .mul t x y t', ty, pos, aft, g⟩).run Try.prog w = .ok (.value (.int k (k.wrap (a * b)))) w := by
  simp [execOp, hx, hy, eqGuard, binOp, Op.intArith]
theorem X.rem (hx : (mk N ρ).eval x = .int k a) (hy : (mk N ρ).eval y = .int k b) (h0 : b ≠ 0) : (execOp (mk N ρ).eval ⟨dst, .binOp .rem t x y t', ty, pos, aft, g⟩).run Try.prog w = .ok (.value (.int k (a.tmod b))) w := by
  simp [execOp, hx, hy, eqGuard, binOp, Op.intDiv, h0]
end
theorem i64_in {a : Int} (h1 : -9223372036854775808 ≤ a) (h2 : a ≤ 9223372036854775807) : IntKind.i64.wrap a = a := IntWalk.i64_in a ⟨h1, h2⟩
theorem X.addIn {x y : Operand} {t t' : TypeId} {a b : Int} (hx : (mk N ρ).eval x = .int .i64 a) (hy : (mk N ρ).eval y = .int .i64 b) (h1 : -9223372036854775808 ≤ a + b) (h2 : a + b ≤ 9223372036854775807) :
    (execOp (mk N ρ).eval ⟨dst, .binOp .add t x y t', ty, pos, aft, g⟩).run Try.prog w = .ok (.value (.int .i64 (a + b))) w := by
  rw [X.add hx hy, i64_in h1 h2]
theorem X.subIn {x y : Operand} {t t' : TypeId} {a b : Int} (hx : (mk N ρ).eval x = .int .i64 a) (hy : (mk N ρ).eval y = .int .i64 b) (h1 : -9223372036854775808 ≤ a - b) (h2 : a - b ≤ 9223372036854775807) :
    (execOp (mk N ρ).eval ⟨dst, .binOp .sub t x y t', ty, pos, aft, g⟩).run Try.prog w = .ok (.value (.int .i64 (a - b))) w := by
  rw [X.sub hx hy, i64_in h1 h2]
theorem X.eqlB {x y : Operand} {t t' : TypeId} {a b : Bool} (hx : (mk N ρ).eval x = .bool a) (hy : (mk N ρ).eval y = .bool b) (ht : Try.prog.underlying t = some .bool) :
    (execOp (mk N ρ).eval ⟨dst, .binOp .eql t x y t', ty, pos, aft, g⟩).run Try.prog w = .ok (.value (.bool (a == b))) w := by
  simp [execOp, hx, hy, eqGuard, binOp, Op.equal, Op.maxDepth, run_equalIn_bool w 9999 t a b ht]
theorem X.conv {x : Operand} {s d : TypeId} {k k' : IntKind} {n : Int} (hx : (mk N ρ).eval x = .int k n) (hs : intT s = true) (hd : Try.prog.underlying d = some (.int k')) :
    (execOp (mk N ρ).eval ⟨dst, .convert s d x, ty, pos, aft, g⟩).run Try.prog w = .ok (.value (.int k' (k'.wrap n))) w := by
  unfold intT at hs
  split at hs
  · rename_i k'' hk; simp [execOp, hx, convert, run_underlying hk, run_underlying hd, Conv.intToInt]
  · cases hs
theorem X.idx {x y : Operand} {t e : TypeId} {A : Addr} {n c : Nat} {k : IntKind} {j : Int} {sz : Nat} {b : Addr} (hx : (mk N ρ).eval x = .slice (some A) n c) (hy : (mk N ρ).eval y = .int k j) (h0 : 0 ≤ j) (h1 : j < (n : Int))
    (ht : sliceT t e = true) (hs : sizeT e sz = true) (hb : A.add (j.toNat * sz) = b) :
    (execOp (mk N ρ).eval ⟨dst, .indexAddr t x y, ty, pos, aft, g⟩).run Try.prog w = .ok (.value (.pointer (some b))) w := by
  subst hb
  simp [execOp, hx, hy, Instr.indexAt, asIntOf, run_underlying (sliceT_of ht), h0, h1, run_sizeT hs]
theorem X.callF {f : FuncId} {xs : Array Operand} {ats : Array TypeId} {args : Array Value} (hf : goB f = true) (hx : xs.map (mk N ρ).eval = args) :
    (execOp (mk N ρ).eval ⟨dst, .call { callee := .value (.func f), args := xs, argTypes := ats }, ty, pos, aft, g⟩).run Try.prog w = .ok (.enter f args) w := by
  subst hx
  have e : execOp (mk N ρ).eval ⟨dst, .call { callee := .value (.func f), args := xs, argTypes := ats }, ty, pos, aft, g⟩ = callFunc f (#[] ++ xs.map (mk N ρ).eval ++ #[]) := rfl
  rw [e, run_callFunc hf]
  simp
theorem X.callV {f : FuncId} {x : Operand} {fi cap : Array Value} {xs : Array Operand} {ats : Array TypeId} {args : Array Value} (hv : (mk N ρ).eval x = .func (.func f) fi cap) (hf : goB f = true) (hx : fi ++ xs.map (mk N ρ).eval ++ cap = args) :
    (execOp (mk N ρ).eval ⟨dst, .call { callee := .value x, args := xs, argTypes := ats }, ty, pos, aft, g⟩).run Try.prog w = .ok (.enter f args) w := by
  subst hx
  simp only [execOp, resolve, Deferred.ofValue, hv, Sem.run_bind, Sem.run_pure, Result.andThen_ok, invoke]
  exact run_callFunc hf _ w
theorem X.makeFunc {f : FuncId} {fi cap : Array Operand} {a b : Array Value} (hf : fi.map (mk N ρ).eval = a) (hc : cap.map (mk N ρ).eval = b) :
    (execOp (mk N ρ).eval ⟨dst, .makeFunc (.func f) fi cap, ty, pos, aft, g⟩).run Try.prog w = .ok (.value (.func (.func f) a b)) w := by
  subst hf; subst hc; rfl
theorem X.box {t : TypeId} {x : Operand} {v : Value} {cs : Array Value} (hx : (mk N ρ).eval x = v) (hc : v.cells = cs) :
    (execOp (mk N ρ).eval ⟨dst, .box t x, ty, pos, aft, g⟩).run Try.prog w = .ok (.value (.pointer (some ⟨w.heap.size, 0, none⟩))) (w.alloc (.cells cs t)) := by
  subst hc; subst hx; rfl
theorem X.alloc {t : TypeId} {z : Value} {cs : Array Value} (hz : (zeroValue t).run Try.prog w = .ok z w) (hc : z.cells = cs) :
    (execOp (mk N ρ).eval ⟨dst, .alloc t, ty, pos, aft, g⟩).run Try.prog w = .ok (.value (.pointer (some ⟨w.heap.size, 0, none⟩))) (w.alloc (.cells cs t)) := by
  subst hc
  simp only [execOp, Instr.alloc, Sem.run_bind, hz, Result.andThen_ok, newVar, newRow, newObj, Sem.run, Sem.run_pure]
  rfl
end
end Go.Proofs.Ytigimkmkbdnlpaa
