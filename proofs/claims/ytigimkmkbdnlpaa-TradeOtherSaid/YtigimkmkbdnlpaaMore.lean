/- The numbers of a message as one value; the keys of maps; the zero of both. -/
import Derived.Test.YtigimkmkbdnlpaaSpec
namespace Go.Proofs.Ytigimkmkbdnlpaa
open Go.RowKit

def numArr (m : Msg) : Array Value := #[.int .i64 m.kind, .int .i64 m.frm, .int .i64 m.to, .int .i64 m.no, .int .i64 m.item, .int .i64 m.amount, .int .i64 m.day, .int .i64 m.label]
def intAt (m : Msg) : Nat → Int
  | 0 => m.kind | 1 => m.frm | 2 => m.to | 3 => m.no | 4 => m.item | 5 => m.amount | 6 => m.day | _ => m.label
theorem numArr_at (m : Msg) (i : Nat) (h : i < 8) : (numArr m)[i]? = some (.int .i64 (intAt m i)) := by
  match i, h with
  | 0, _ | 1, _ | 2, _ | 3, _ | 4, _ | 5, _ | 6, _ | 7, _ => rfl
theorem run_eqFields_nums (w : World) (a b : Msg) (d : Nat) : ∀ (is : List Nat) (fs : List Field), (∀ i ∈ is, i < 8) → fs.map (fun f => (f.type, f.offset, f.name == "_")) = is.map (fun i => (3, i, false)) →
    (Op.eqFields (d + 1) (numArr a) (numArr b) fs).run Try.prog w = .ok (is.all fun i => intAt a i == intAt b i) w := by
  intro is
  induction is with
  | nil =>
    intro fs _ h
    have : fs = [] := by cases fs <;> simp at h; rfl
    subst this
    simp [Op.eqFields]
  | cons i is ih =>
    intro fs hi h
    cases fs with
    | nil => simp at h
    | cons f fs =>
      simp only [List.map_cons, List.cons.injEq, Prod.mk.injEq] at h
      obtain ⟨⟨h1, h2, h3⟩, h4⟩ := h
      have hp : Try.prog.plainKey 3 = true := by kernel_rfl
      have p0 := run_part_plain (P := Try.prog) w hp (numArr_at a i (hi i (by simp)))
      have p1 := run_part_plain (P := Try.prog) w hp (numArr_at b i (hi i (by simp)))
      have hn : f.name ≠ "_" := by simpa using h3
      have e := run_equalIn_int (P := Try.prog) w d 3 .i64 .i64 (intAt a i) (intAt b i) Try.underlying3
      simp only [Op.eqFields]
      rw [if_pos hn]
      simp only [Sem.run_bind, h1, h2, p0, p1, Result.andThen_ok, e, List.all_cons]
      cases hab : (intAt a i == intAt b i) with
      | true => simpa using ih fs (fun j hj => hi j (by simp [hj])) h4
      | false => simp
theorem run_equalIn_nums (w : World) (a b : Msg) : (Op.equalIn 10000 118 (.agg (numArr a)) (.agg (numArr b))).run Try.prog w = .ok (nums a b) w := by
  rw [run_equalIn_struct (P := Try.prog) w 9999 118 _ _ (by kernel_rfl) (by kernel_rfl), run_eqFields_nums w a b 9998 [0, 1, 2, 3, 4, 5, 6, 7] _ (by decide) (by kernel_rfl)]
  simp [nums, intAt, Bool.and_assoc]
section
variable {N : Nat} {ρ : Ro} {dst : Option Tmp} {ty : TypeId} {pos : String} {aft : Array Edge} {g : Option (Nat × Bool)} {w : World}
theorem X.eqlNums {x y : Operand} {a b : Msg} {t' : TypeId} (hx : (mk N ρ).eval x = .agg (numArr a)) (hy : (mk N ρ).eval y = .agg (numArr b)) :
    (execOp (mk N ρ).eval ⟨dst, .binOp .eql 118 x y t', ty, pos, aft, g⟩).run Try.prog w = .ok (.value (.bool (nums a b))) w := by
  have hg := run_eqGuard_agg (P := Try.prog) w .eql 118 x y (numArr a) (numArr b) (by kernel_rfl)
  simp only [execOp, hx, hy, Sem.run_bind, hg, Result.andThen_ok, run_eql_struct, run_equalIn_nums, Sem.run_pure]
theorem X.neqNums {x y : Operand} {a b : Msg} {t' : TypeId} (hx : (mk N ρ).eval x = .agg (numArr a)) (hy : (mk N ρ).eval y = .agg (numArr b)) :
    (execOp (mk N ρ).eval ⟨dst, .binOp .neq 118 x y t', ty, pos, aft, g⟩).run Try.prog w = .ok (.value (.bool (!nums a b))) w := by
  have hg := run_eqGuard_agg (P := Try.prog) w .neq 118 x y (numArr a) (numArr b) (by kernel_rfl)
  simp only [execOp, hx, hy, Sem.run_bind, hg, Result.andThen_ok, run_neq_struct, run_equalIn_nums, Sem.run_pure]
theorem zero118 (w : World) : (zeroValue 118).run Try.prog w = .ok (.agg (numArr Msg.zero)) w := by kernel_rfl
theorem X.build118 {x0 x1 x2 x3 x4 x5 x6 x7 : Operand} {m : Msg} (h0 : (mk N ρ).eval x0 = .int .i64 m.kind) (h1 : (mk N ρ).eval x1 = .int .i64 m.frm) (h2 : (mk N ρ).eval x2 = .int .i64 m.to) (h3 : (mk N ρ).eval x3 = .int .i64 m.no)
    (h4 : (mk N ρ).eval x4 = .int .i64 m.item) (h5 : (mk N ρ).eval x5 = .int .i64 m.amount) (h6 : (mk N ρ).eval x6 = .int .i64 m.day) (h7 : (mk N ρ).eval x7 = .int .i64 m.label) :
    (execOp (mk N ρ).eval ⟨dst, .build 118 #[(0, x0), (1, x1), (2, x2), (3, x3), (4, x4), (5, x5), (6, x6), (7, x7)], ty, pos, aft, g⟩).run Try.prog w = .ok (.value (.agg (numArr m))) w := by
  simp only [execOp, List.map_toArray, List.map_cons, List.map_nil, h0, h1, h2, h3, h4, h5, h6, h7]
  kernel_rfl
theorem X.build83 {x y : Operand} {a b : Int} (hx : (mk N ρ).eval x = .int .i64 a) (hy : (mk N ρ).eval y = .int .i64 b) :
    (execOp (mk N ρ).eval ⟨dst, .build 83 #[(0, x), (1, y)], ty, pos, aft, g⟩).run Try.prog w = .ok (.value (kP (a, b))) w := by
  simp only [execOp, List.map_toArray, List.map_cons, List.map_nil, hx, hy]
  kernel_rfl
end
theorem row_blk_nums {w : World} {b : Nat} {t : TypeId} {m : Msg} (h : Blk w b t (numArr m)) : row w ⟨b, 0, none⟩ 8 = some (numArr m).toList := h.row (by simp [numArr]) rfl
theorem numsCells (m : Msg) : ∀ u ∈ (Value.agg (numArr m)).cells.toList, u.oneCell' = true := by
  intro u hu
  simp only [Value.cells, numArr, List.mem_cons, List.not_mem_nil, or_false] at hu
  rcases hu with rfl | rfl | rfl | rfl | rfl | rfl | rfl | rfl <;> rfl
def clip (s : SV) : SV := ⟨s.a, s.n, s.n⟩
theorem Sl.clip {bs : List Nat} {w : World} {s : SV} {ms : List Msg} (h : Sl bs w s ms) : Sl bs w (clip s) ms :=
  ⟨h.len, Nat.le_refl _, fun e => by have := h.nul e; have := h.cap; simp only [Ytigimkmkbdnlpaa.clip]; omega, h.bnd, h.mem⟩
/-! ### An operation whose guard says no -/
section
variable {ops : Array Oper} {Q : Exit → Act → World → Prop} {S : World → Prop} {rest : List Oper} {o : Oper} {N : Nat} {ρ : Ro} {w : World} {fuel : Nat} {listed : Array Bool} {K : Act → World → Prop}
theorem W.gqD {e j d : Nat} {want g : Bool} (hg : o.guard = some (j, want)) (hj : (ops[j]?).bind (·.dst) = some d) (hdN : Nat.blt d N = true) (hv : ρ d = .bool g) (hd : o.dst = some e) (hn : (g == want) = false)
    (k : WL ops Q rest (mk N (upd ρ e (gv (g == want) (.bool false)))) w) : WL ops Q (o :: rest) (mk N ρ) w := W.gq hg hj hdN hv hd (fun hc => by rw [hn] at hc; cases hc) k
theorem E.gqD {i e j d : Nat} {want g : Bool} (hi : ops[i]? = some o) (hg : o.guard = some (j, want)) (hj : (ops[j]?).bind (·.dst) = some d) (hdN : Nat.blt d N = true) (hv : ρ d = .bool g) (hd : o.dst = some e) (hn : (g == want) = false)
    (k : K (mk N (upd ρ e (gv (g == want) (.bool false)))) w) : WO ops Q i K (mk N ρ) w := E.gq hi hg hj hdN hv hd (fun hc => by rw [hn] at hc; cases hc) k
theorem A.takeGD {i e j d : Nat} {want g : Bool} (hi : ops[i]? = some o) (hs : Region.noSelect ops = true) (hf : Region.free .any ops listed i = true) (hr : (Region.ready .any ops listed).contains i = true)
    (hQ : ∀ c a v w, Q (.panic c) (a.put o.dst v) w → Q (.panic c) a w) (hS : S w) (hg : o.guard = some (j, want)) (hj : (ops[j]?).bind (·.dst) = some d) (hdN : Nat.blt d N = true) (hv : ρ d = .bool g) (hd : o.dst = some e) (hn : (g == want) = false)
    (k : WA ops Q S fuel (listed.setIfInBounds i true) (mk N (upd ρ e (gv (g == want) (.bool false)))) w) : WA ops Q S (fuel + 1) listed (mk N ρ) w :=
  A.takeG hi hs hf hr hQ hS hg hj hdN hv hd (fun hc => by rw [hn] at hc; cases hc) k
theorem argsV1 {x : Operand} {a : Value} {cap : Array Value} (h : (mk N ρ).eval x = a) : #[] ++ (#[x] : Array Operand).map (mk N ρ).eval ++ cap = #[a] ++ cap := by simp [h]
end
theorem nth_of {ms : List Msg} {i : Nat} {m : Msg} (h : ms[i]? = some m) : nth ms i = m := by simp [nth, h]
theorem Y.slice3 {N : Nat} {ρ : Ro} {dst : Option Tmp} {ty : TypeId} {pos : String} {aft : Array Edge} {g : Option (Nat × Bool)} {w : World} {x y z : Operand} {a b c : SV} (hx : (mk N ρ).eval x = a.val) (hy : (mk N ρ).eval y = b.val) (hz : (mk N ρ).eval z = c.val) :
    ∃ u w', (execOp (mk N ρ).eval ⟨dst, .buildSlice 80 3 #[(0, x), (1, y), (2, z)], ty, pos, aft, g⟩).run Try.prog w = .ok (.value u) w' ∧ (∃ i, u = .slice (some ⟨i, 0, none⟩) 3 3 ∧ Grow w w' ∧ Blk w' i 22 #[a.val, b.val, c.val] ∧ w.heap.size ≤ i) :=
  ⟨_, _, X.slice3 hx hy hz, _, rfl, Grow.alloc _ _, Blk.new _ _ _, Nat.le_refl _⟩
def isIn {α : Type} [DecidableEq α] (k : α) (ks : List α) : Bool := decide (k ∈ ks)
def ins {α : Type} [DecidableEq α] (k : α) (ks : List α) : List α := if k ∈ ks then ks else ks ++ [k]
section
variable {N : Nat} {ρ : Ro} {dst : Option Tmp} {ty : TypeId} {pos : String} {aft : Array Edge} {g : Option (Nat × Bool)} {w : World}
theorem X.lookupB {α : Type} [DecidableEq α] {f : α → Value} {K T : TypeId} {x y : Operand} {r : Nat} {k : α} {ks : List α} (hF : Finds K f) (hT : Try.prog.underlying T = some (.map K 4)) (hx : (mk N ρ).eval x = .map (some r)) (hy : (mk N ρ).eval y = f k) (hm : Mp f w r ks) :
    (execOp (mk N ρ).eval ⟨dst, .lookup T x y false, ty, pos, aft, g⟩).run Try.prog w = .ok (.value (.bool (isIn k ks))) w := X.lookup hF hT hx hy hm
theorem Y.updateB {α : Type} [DecidableEq α] {f : α → Value} {K T : TypeId} {x y z : Operand} {r : Nat} {k : α} {ks : List α} (hF : Finds K f) (hT : Try.prog.underlying T = some (.map K 4)) (hx : (mk N ρ).eval x = .map (some r)) (hy : (mk N ρ).eval y = f k) (hz : (mk N ρ).eval z = .bool true) (hm : Mp f w r ks) :
    ∃ w', (execOp (mk N ρ).eval ⟨none, .mapUpdate T x y z, ty, pos, aft, g⟩).run Try.prog w = .ok .skip w' ∧ (Chg [r] w w' ∧ Mp f w' r (ins k ks)) := Y.update hF hT hx hy hz hm
end
end Go.Proofs.Ytigimkmkbdnlpaa
