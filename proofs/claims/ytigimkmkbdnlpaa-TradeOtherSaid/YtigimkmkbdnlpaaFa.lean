/- Contracts of the small functions of trade and of its reference. Printed by gen.py. -/
import Derived.Test.YtigimkmkbdnlpaaMore
namespace Go.Proofs.Ytigimkmkbdnlpaa
open Go.RowKit

theorem between_c (a b c : Int) (w : World) : Calls Try.prog 41 #[.int .i64 a, .int .i64 b, .int .i64 c] w (Ret fun v w' => v = .bool (decide (b ≤ a ∧ a ≤ c)) ∧ Grow w w') := by
  refine enter (N := 15) Try.func41 rfl Try.ntmps41 rfl ?_
  intro ρ hρ
  have a0 : ρ 0 = .int .i64 a := hρ 0 _ rfl
  have a1 : ρ 1 = .int .i64 b := hρ 1 _ rfl
  have a2 : ρ 2 = .int .i64 c := hρ 2 _ rfl
  clear hρ
  have R0 : Grow w w := Chg.refl w
  refine W.seq ?_
  refine W.reg ?_
  refine W.val rfl rfl (X.assign (evc' (.bool false))) ?_
  refine W.nil ?_
  refine then_n ?_
  refine W.fresh ?_
  intro r1 er2
  have s3 : r1 0 = .int .i64 a := (congrFun er2 0).trans a0
  have s4 : r1 1 = .int .i64 b := (congrFun er2 1).trans a1
  have s5 : r1 2 = .int .i64 c := (congrFun er2 2).trans a2
  clear er2
  refine W.seq ?_
  refine W.reg ?_
  refine W.val rfl rfl (X.move (ev' (.int .i64 a) rfl s3)) ?_
  refine W.val rfl rfl (X.move (ev' (.int .i64 b) rfl s4)) ?_
  refine W.val rfl rfl (X.geq (ev' (.int .i64 a) rfl rfl) (ev' (.int .i64 b) rfl rfl)) ?_
  refine W.val rfl rfl (X.move (ev' (.bool (decide ((b : Int) ≤ (a : Int)))) rfl rfl)) ?_
  refine W.gq rfl rfl rfl rfl rfl (fun _ => (X.move (ev' (.int .i64 a) rfl s3))) ?_
  refine W.gq rfl rfl rfl rfl rfl (fun _ => (X.move (ev' (.int .i64 c) rfl s5))) ?_
  refine W.gq rfl rfl rfl rfl rfl (fun hc => (X.leq (ev' (.int .i64 a) rfl (gvt hc rfl)) (ev' (.int .i64 c) rfl (gvt hc rfl)))) ?_
  refine W.valN rfl rfl (X.and (ev' (.bool (decide ((b : Int) ≤ (a : Int)))) rfl rfl) (ev' (gv ((decide ((b : Int) ≤ (a : Int))) == true) (.bool (decide ((a : Int) ≤ (c : Int))))) rfl rfl)) ?_
  intro q6 eq6
  refine W.val rfl rfl (X.assign (ev' (.bool q6) rfl rfl)) ?_
  refine W.nil ?_
  refine then_n ?_
  refine W.fresh ?_
  intro r7 er8
  have s9 : r7 6 = .bool q6 := (congrFun er8 6).trans rfl
  clear er8
  refine W.ret (retT rfl rfl (show _ = (.bool q6 : Value) from s9) ⟨?_, R0⟩)
  exact congrArg Value.bool (by simp [eq6])

theorem in_c (a b c : Int) (w : World) : Calls Try.prog 66 #[.int .i64 a, .int .i64 b, .int .i64 c] w (Ret fun v w' => v = .bool (decide (b ≤ a ∧ a ≤ c)) ∧ Grow w w') := by
  refine enter (N := 15) Try.func66 rfl Try.ntmps66 rfl ?_
  intro ρ hρ
  have a0 : ρ 0 = .int .i64 a := hρ 0 _ rfl
  have a1 : ρ 1 = .int .i64 b := hρ 1 _ rfl
  have a2 : ρ 2 = .int .i64 c := hρ 2 _ rfl
  clear hρ
  have R0 : Grow w w := Chg.refl w
  refine W.seq ?_
  refine W.reg ?_
  refine W.val rfl rfl (X.assign (evc' (.bool false))) ?_
  refine W.nil ?_
  refine then_n ?_
  refine W.fresh ?_
  intro r1 er2
  have s3 : r1 0 = .int .i64 a := (congrFun er2 0).trans a0
  have s4 : r1 1 = .int .i64 b := (congrFun er2 1).trans a1
  have s5 : r1 2 = .int .i64 c := (congrFun er2 2).trans a2
  clear er2
  refine W.seq ?_
  refine W.reg ?_
  refine W.val rfl rfl (X.move (ev' (.int .i64 a) rfl s3)) ?_
  refine W.val rfl rfl (X.move (ev' (.int .i64 b) rfl s4)) ?_
  refine W.val rfl rfl (X.geq (ev' (.int .i64 a) rfl rfl) (ev' (.int .i64 b) rfl rfl)) ?_
  refine W.val rfl rfl (X.move (ev' (.bool (decide ((b : Int) ≤ (a : Int)))) rfl rfl)) ?_
  refine W.gq rfl rfl rfl rfl rfl (fun _ => (X.move (ev' (.int .i64 a) rfl s3))) ?_
  refine W.gq rfl rfl rfl rfl rfl (fun _ => (X.move (ev' (.int .i64 c) rfl s5))) ?_
  refine W.gq rfl rfl rfl rfl rfl (fun hc => (X.leq (ev' (.int .i64 a) rfl (gvt hc rfl)) (ev' (.int .i64 c) rfl (gvt hc rfl)))) ?_
  refine W.valN rfl rfl (X.and (ev' (.bool (decide ((b : Int) ≤ (a : Int)))) rfl rfl) (ev' (gv ((decide ((b : Int) ≤ (a : Int))) == true) (.bool (decide ((a : Int) ≤ (c : Int))))) rfl rfl)) ?_
  intro q6 eq6
  refine W.val rfl rfl (X.assign (ev' (.bool q6) rfl rfl)) ?_
  refine W.nil ?_
  refine then_n ?_
  refine W.fresh ?_
  intro r7 er8
  have s9 : r7 6 = .bool q6 := (congrFun er8 6).trans rfl
  clear er8
  refine W.ret (retT rfl rfl (show _ = (.bool q6 : Value) from s9) ⟨?_, R0⟩)
  exact congrArg Value.bool (by simp [eq6])

theorem firm_c (a : Int) (w : World) : Calls Try.prog 45 #[.int .i64 a] w (Ret fun v w' => v = .bool (decide (0 ≤ a ∧ a ≤ 11)) ∧ Grow w w') := by
  refine enter (N := 5) Try.func45 rfl Try.ntmps45 rfl ?_
  intro ρ hρ
  have a0 : ρ 0 = .int .i64 a := hρ 0 _ rfl
  clear hρ
  have R0 : Grow w w := Chg.refl w
  refine W.seq ?_
  refine W.reg ?_
  refine W.val rfl rfl (X.assign (evc' (.bool false))) ?_
  refine W.nil ?_
  refine then_n ?_
  refine W.fresh ?_
  intro r1 er2
  have s3 : r1 0 = .int .i64 a := (congrFun er2 0).trans a0
  clear er2
  refine W.seq ?_
  refine W.reg ?_
  refine W.val rfl rfl (X.move (ev' (.int .i64 a) rfl s3)) ?_
  refine W.call rfl rfl (X.callF go66 (args3 (ev' (.int .i64 a) rfl rfl) (evc' (.int .i64 0)) (evc' (.int .i64 11)))) (in_c a 0 11 _) ?_
  rintro _ w4 ⟨rfl, g5⟩
  have R6 := R0.gr g5
  refine W.val rfl rfl (X.assign (ev' (.bool (decide (0 ≤ a ∧ a ≤ 11))) rfl rfl)) ?_
  refine W.nil ?_
  refine then_n ?_
  refine W.fresh ?_
  intro r7 er8
  have s9 : r7 2 = .bool (decide (0 ≤ a ∧ a ≤ 11)) := (congrFun er8 2).trans rfl
  clear er8
  refine W.ret (retT rfl rfl (show _ = (.bool (decide (0 ≤ a ∧ a ≤ 11)) : Value) from s9) ⟨?_, R6⟩)
  rfl

theorem placed_c (a : Int) (w : World) : Calls Try.prog 37 #[.int .i64 a] w (Ret fun v w' => v = .bool (a == 1 || a == 3) ∧ Grow w w') := by
  refine enter (N := 9) Try.func37 rfl Try.ntmps37 rfl ?_
  intro ρ hρ
  have a0 : ρ 0 = .int .i64 a := hρ 0 _ rfl
  clear hρ
  have R0 : Grow w w := Chg.refl w
  refine W.seq ?_
  refine W.reg ?_
  refine W.val rfl rfl (X.assign (evc' (.bool false))) ?_
  refine W.nil ?_
  refine then_n ?_
  refine W.fresh ?_
  intro r1 er2
  have s3 : r1 0 = .int .i64 a := (congrFun er2 0).trans a0
  clear er2
  refine W.seq ?_
  refine W.reg ?_
  refine W.val rfl rfl (X.move (ev' (.int .i64 a) rfl s3)) ?_
  refine W.val rfl rfl (X.eql (ev' (.int .i64 a) rfl rfl) (evc' (.int .i64 1))) ?_
  refine W.val rfl rfl (X.move (ev' (.bool ((a : Int) == (1 : Int))) rfl rfl)) ?_
  refine W.gq rfl rfl rfl rfl rfl (fun _ => (X.move (ev' (.int .i64 a) rfl s3))) ?_
  refine W.gq rfl rfl rfl rfl rfl (fun hc => (X.eql (ev' (.int .i64 a) rfl (gvt hc rfl)) (evc' (.int .i64 3)))) ?_
  refine W.val rfl rfl (X.or (ev' (.bool ((a : Int) == (1 : Int))) rfl rfl) (ev' (gv (((a : Int) == (1 : Int)) == false) (.bool ((a : Int) == (3 : Int)))) rfl rfl)) ?_
  refine W.val rfl rfl (X.assign (ev' (.bool (((a : Int) == (1 : Int)) || ((a : Int) == (3 : Int)))) rfl rfl)) ?_
  refine W.nil ?_
  refine then_n ?_
  refine W.fresh ?_
  intro r4 er5
  have s6 : r4 2 = .bool (((a : Int) == (1 : Int)) || ((a : Int) == (3 : Int))) := (congrFun er5 2).trans rfl
  clear er5
  refine W.ret (retT rfl rfl (show _ = (.bool (((a : Int) == (1 : Int)) || ((a : Int) == (3 : Int))) : Value) from s6) ⟨?_, R0⟩)
  rfl

theorem begins_c (m : Msg) (w : World) : Calls Try.prog 40 #[.agg m.arr] w (Ret fun v w' => v = .bool (begins m) ∧ Grow w w') := by
  refine enter (N := 11) Try.func40 rfl Try.ntmps40 rfl ?_
  intro ρ hρ
  have a0 : ρ 0 = .agg m.arr := hρ 0 _ rfl
  clear hρ
  have R0 : Grow w w := Chg.refl w
  refine W.seq ?_
  refine W.reg ?_
  refine W.eff rfl rfl (Y.box (cs := m.arr) (ev' (.agg m.arr) rfl a0) rfl) ?_
  rintro _ w1 ⟨b2, rfl, g3, hB4, lt5⟩
  have l6 := Nat.le_trans R0.size lt5
  have R7 := R0.gr g3
  refine W.val rfl rfl (X.assign (evc' (.bool false))) ?_
  refine W.nil ?_
  refine then_n ?_
  refine W.fresh ?_
  intro r9 er10
  have s11 : r9 1 = .pointer (some ⟨b2, 0, none⟩) := (congrFun er10 1).trans rfl
  clear er10
  refine W.seq ?_
  refine W.reg ?_
  refine W.val rfl rfl (X.fieldAddr (ev' (.pointer (some ⟨b2, 0, none⟩)) rfl s11) fo30_0 (b := ⟨b2, 0, none⟩) (Addr.add_lit _ _ _)) ?_
  refine W.val rfl rfl (X.load (ev' (.pointer (some ⟨b2, 0, none⟩)) rfl rfl) pt3 (Blk.lc hB4 (Msg.arr0 _))) ?_
  refine W.val rfl rfl (X.eql (ev' (.int .i64 m.kind) rfl rfl) (evc' (.int .i64 1))) ?_
  refine W.val rfl rfl (X.move (ev' (.bool ((m.kind : Int) == (1 : Int))) rfl rfl)) ?_
  refine W.gq rfl rfl rfl rfl rfl (fun _ => (X.fieldAddr (ev' (.pointer (some ⟨b2, 0, none⟩)) rfl s11) fo30_0 (b := ⟨b2, 0, none⟩) (Addr.add_lit _ _ _))) ?_
  refine W.gq rfl rfl rfl rfl rfl (fun hc => (X.load (ev' (.pointer (some ⟨b2, 0, none⟩)) rfl (gvt hc rfl)) pt3 (Blk.lc hB4 (Msg.arr0 _)))) ?_
  refine W.gq rfl rfl rfl rfl rfl (fun hc => (X.eql (ev' (.int .i64 m.kind) rfl (gvt hc rfl)) (evc' (.int .i64 3)))) ?_
  refine W.valN rfl rfl (X.or (ev' (.bool ((m.kind : Int) == (1 : Int))) rfl rfl) (ev' (gv (((m.kind : Int) == (1 : Int)) == false) (.bool ((m.kind : Int) == (3 : Int)))) rfl rfl)) ?_
  intro q12 eq12
  refine W.val rfl rfl (X.assign (ev' (.bool q12) rfl rfl)) ?_
  refine W.nil ?_
  refine then_n ?_
  refine W.fresh ?_
  intro r13 er14
  have s15 : r13 2 = .bool q12 := (congrFun er14 2).trans rfl
  clear er14
  refine W.ret (retT rfl rfl (show _ = (.bool q12 : Value) from s15) ⟨?_, R7⟩)
  subst eq12
  rfl

theorem same_c (a b : Msg) (w : World) : Calls Try.prog 15 #[.agg a.arr, .agg b.arr] w (Ret fun v w' => v = .bool (same a b) ∧ Grow w w') := by
  refine enter (N := 93) Try.func15 rfl Try.ntmps15 rfl ?_
  intro ρ hρ
  have a0 : ρ 0 = .agg a.arr := hρ 0 _ rfl
  have a1 : ρ 1 = .agg b.arr := hρ 1 _ rfl
  clear hρ
  have R0 : Grow w w := Chg.refl w
  refine W.seq ?_
  refine W.reg ?_
  refine W.eff rfl rfl (Y.box (cs := a.arr) (ev' (.agg a.arr) rfl a0) rfl) ?_
  rintro _ w1 ⟨b2, rfl, g3, hB4, lt5⟩
  have l6 := Nat.le_trans R0.size lt5
  have R7 := R0.gr g3
  refine W.eff rfl rfl (Y.box (cs := b.arr) (ev' (.agg b.arr) rfl a1) rfl) ?_
  rintro _ w9 ⟨b10, rfl, g11, hB12, lt13⟩
  have ne14 := hB4.ne lt13
  have l15 := Nat.le_trans R7.size lt13
  have R16 := R7.gr g11
  refine W.val rfl rfl (X.assign (evc' (.bool false))) ?_
  refine W.nil ?_
  refine then_n ?_
  refine W.fresh ?_
  intro r18 er19
  have s20 : r18 2 = .pointer (some ⟨b2, 0, none⟩) := (congrFun er19 2).trans rfl
  have s21 : r18 3 = .pointer (some ⟨b10, 0, none⟩) := (congrFun er19 3).trans rfl
  clear er19
  refine W.seq ?_
  refine W.reg ?_
  refine W.val rfl rfl (X.fieldAddr (ev' (.pointer (some ⟨b2, 0, none⟩)) rfl s20) fo30_0 (b := ⟨b2, 0, none⟩) (Addr.add_lit _ _ _)) ?_
  have h22 := hB4.gr g11
  refine W.val rfl rfl (X.load (ev' (.pointer (some ⟨b2, 0, none⟩)) rfl rfl) pt3 (Blk.lc h22 (Msg.arr0 _))) ?_
  refine W.val rfl rfl (X.fieldAddr (ev' (.pointer (some ⟨b10, 0, none⟩)) rfl s21) fo30_0 (b := ⟨b10, 0, none⟩) (Addr.add_lit _ _ _)) ?_
  refine W.val rfl rfl (X.load (ev' (.pointer (some ⟨b10, 0, none⟩)) rfl rfl) pt3 (Blk.lc hB12 (Msg.arr0 _))) ?_
  refine W.val rfl rfl (X.eql (ev' (.int .i64 a.kind) rfl rfl) (ev' (.int .i64 b.kind) rfl rfl)) ?_
  refine W.val rfl rfl (X.move (ev' (.bool ((a.kind : Int) == (b.kind : Int))) rfl rfl)) ?_
  refine W.gq rfl rfl rfl rfl rfl (fun _ => (X.fieldAddr (ev' (.pointer (some ⟨b2, 0, none⟩)) rfl s20) fo30_1 (b := ⟨b2, 1, none⟩) (Addr.add_lit _ _ _))) ?_
  refine W.gq rfl rfl rfl rfl rfl (fun hc => (X.load (ev' (.pointer (some ⟨b2, 1, none⟩)) rfl (gvt hc rfl)) pt3 (Blk.lc h22 (Msg.arr1 _)))) ?_
  refine W.gq rfl rfl rfl rfl rfl (fun _ => (X.fieldAddr (ev' (.pointer (some ⟨b10, 0, none⟩)) rfl s21) fo30_1 (b := ⟨b10, 1, none⟩) (Addr.add_lit _ _ _))) ?_
  refine W.gq rfl rfl rfl rfl rfl (fun hc => (X.load (ev' (.pointer (some ⟨b10, 1, none⟩)) rfl (gvt hc rfl)) pt3 (Blk.lc hB12 (Msg.arr1 _)))) ?_
  refine W.gq rfl rfl rfl rfl rfl (fun hc => (X.eql (ev' (.int .i64 a.frm) rfl (gvt hc rfl)) (ev' (.int .i64 b.frm) rfl (gvt hc rfl)))) ?_
  refine W.valN rfl rfl (X.and (ev' (.bool ((a.kind : Int) == (b.kind : Int))) rfl rfl) (ev' (gv (((a.kind : Int) == (b.kind : Int)) == true) (.bool ((a.frm : Int) == (b.frm : Int)))) rfl rfl)) ?_
  intro q23 eq23
  refine W.val rfl rfl (X.move (ev' (.bool q23) rfl rfl)) ?_
  refine W.gq rfl rfl rfl rfl rfl (fun _ => (X.fieldAddr (ev' (.pointer (some ⟨b2, 0, none⟩)) rfl s20) fo30_2 (b := ⟨b2, 2, none⟩) (Addr.add_lit _ _ _))) ?_
  refine W.gq rfl rfl rfl rfl rfl (fun hc => (X.load (ev' (.pointer (some ⟨b2, 2, none⟩)) rfl (gvt hc rfl)) pt3 (Blk.lc h22 (Msg.arr2 _)))) ?_
  refine W.gq rfl rfl rfl rfl rfl (fun _ => (X.fieldAddr (ev' (.pointer (some ⟨b10, 0, none⟩)) rfl s21) fo30_2 (b := ⟨b10, 2, none⟩) (Addr.add_lit _ _ _))) ?_
  refine W.gq rfl rfl rfl rfl rfl (fun hc => (X.load (ev' (.pointer (some ⟨b10, 2, none⟩)) rfl (gvt hc rfl)) pt3 (Blk.lc hB12 (Msg.arr2 _)))) ?_
  refine W.gq rfl rfl rfl rfl rfl (fun hc => (X.eql (ev' (.int .i64 a.to) rfl (gvt hc rfl)) (ev' (.int .i64 b.to) rfl (gvt hc rfl)))) ?_
  refine W.val rfl rfl (X.and (ev' (.bool q23) rfl rfl) (ev' (gv (q23 == true) (.bool ((a.to : Int) == (b.to : Int)))) rfl rfl)) ?_
  refine W.val rfl rfl (X.move (ev' (.bool (q23 && ((a.to : Int) == (b.to : Int)))) rfl rfl)) ?_
  refine W.gq rfl rfl rfl rfl rfl (fun _ => (X.fieldAddr (ev' (.pointer (some ⟨b2, 0, none⟩)) rfl s20) fo30_3 (b := ⟨b2, 3, none⟩) (Addr.add_lit _ _ _))) ?_
  refine W.gq rfl rfl rfl rfl rfl (fun hc => (X.load (ev' (.pointer (some ⟨b2, 3, none⟩)) rfl (gvt hc rfl)) pt3 (Blk.lc h22 (Msg.arr3 _)))) ?_
  refine W.gq rfl rfl rfl rfl rfl (fun _ => (X.fieldAddr (ev' (.pointer (some ⟨b10, 0, none⟩)) rfl s21) fo30_3 (b := ⟨b10, 3, none⟩) (Addr.add_lit _ _ _))) ?_
  refine W.gq rfl rfl rfl rfl rfl (fun hc => (X.load (ev' (.pointer (some ⟨b10, 3, none⟩)) rfl (gvt hc rfl)) pt3 (Blk.lc hB12 (Msg.arr3 _)))) ?_
  refine W.gq rfl rfl rfl rfl rfl (fun hc => (X.eql (ev' (.int .i64 a.no) rfl (gvt hc rfl)) (ev' (.int .i64 b.no) rfl (gvt hc rfl)))) ?_
  refine W.valN rfl rfl (X.and (ev' (.bool (q23 && ((a.to : Int) == (b.to : Int)))) rfl rfl) (ev' (gv ((q23 && ((a.to : Int) == (b.to : Int))) == true) (.bool ((a.no : Int) == (b.no : Int)))) rfl rfl)) ?_
  intro q24 eq24
  refine W.val rfl rfl (X.move (ev' (.bool q24) rfl rfl)) ?_
  refine W.gq rfl rfl rfl rfl rfl (fun _ => (X.fieldAddr (ev' (.pointer (some ⟨b2, 0, none⟩)) rfl s20) fo30_4 (b := ⟨b2, 4, none⟩) (Addr.add_lit _ _ _))) ?_
  refine W.gq rfl rfl rfl rfl rfl (fun hc => (X.load (ev' (.pointer (some ⟨b2, 4, none⟩)) rfl (gvt hc rfl)) pt3 (Blk.lc h22 (Msg.arr4 _)))) ?_
  refine W.gq rfl rfl rfl rfl rfl (fun _ => (X.fieldAddr (ev' (.pointer (some ⟨b10, 0, none⟩)) rfl s21) fo30_4 (b := ⟨b10, 4, none⟩) (Addr.add_lit _ _ _))) ?_
  refine W.gq rfl rfl rfl rfl rfl (fun hc => (X.load (ev' (.pointer (some ⟨b10, 4, none⟩)) rfl (gvt hc rfl)) pt3 (Blk.lc hB12 (Msg.arr4 _)))) ?_
  refine W.gq rfl rfl rfl rfl rfl (fun hc => (X.eql (ev' (.int .i64 a.item) rfl (gvt hc rfl)) (ev' (.int .i64 b.item) rfl (gvt hc rfl)))) ?_
  refine W.val rfl rfl (X.and (ev' (.bool q24) rfl rfl) (ev' (gv (q24 == true) (.bool ((a.item : Int) == (b.item : Int)))) rfl rfl)) ?_
  refine W.val rfl rfl (X.move (ev' (.bool (q24 && ((a.item : Int) == (b.item : Int)))) rfl rfl)) ?_
  refine W.gq rfl rfl rfl rfl rfl (fun _ => (X.fieldAddr (ev' (.pointer (some ⟨b2, 0, none⟩)) rfl s20) fo30_5 (b := ⟨b2, 5, none⟩) (Addr.add_lit _ _ _))) ?_
  refine W.gq rfl rfl rfl rfl rfl (fun hc => (X.load (ev' (.pointer (some ⟨b2, 5, none⟩)) rfl (gvt hc rfl)) pt3 (Blk.lc h22 (Msg.arr5 _)))) ?_
  refine W.gq rfl rfl rfl rfl rfl (fun _ => (X.fieldAddr (ev' (.pointer (some ⟨b10, 0, none⟩)) rfl s21) fo30_5 (b := ⟨b10, 5, none⟩) (Addr.add_lit _ _ _))) ?_
  refine W.gq rfl rfl rfl rfl rfl (fun hc => (X.load (ev' (.pointer (some ⟨b10, 5, none⟩)) rfl (gvt hc rfl)) pt3 (Blk.lc hB12 (Msg.arr5 _)))) ?_
  refine W.gq rfl rfl rfl rfl rfl (fun hc => (X.eql (ev' (.int .i64 a.amount) rfl (gvt hc rfl)) (ev' (.int .i64 b.amount) rfl (gvt hc rfl)))) ?_
  refine W.valN rfl rfl (X.and (ev' (.bool (q24 && ((a.item : Int) == (b.item : Int)))) rfl rfl) (ev' (gv ((q24 && ((a.item : Int) == (b.item : Int))) == true) (.bool ((a.amount : Int) == (b.amount : Int)))) rfl rfl)) ?_
  intro q25 eq25
  refine W.val rfl rfl (X.move (ev' (.bool q25) rfl rfl)) ?_
  refine W.gq rfl rfl rfl rfl rfl (fun _ => (X.fieldAddr (ev' (.pointer (some ⟨b2, 0, none⟩)) rfl s20) fo30_6 (b := ⟨b2, 6, none⟩) (Addr.add_lit _ _ _))) ?_
  refine W.gq rfl rfl rfl rfl rfl (fun hc => (X.load (ev' (.pointer (some ⟨b2, 6, none⟩)) rfl (gvt hc rfl)) pt3 (Blk.lc h22 (Msg.arr6 _)))) ?_
  refine W.gq rfl rfl rfl rfl rfl (fun _ => (X.fieldAddr (ev' (.pointer (some ⟨b10, 0, none⟩)) rfl s21) fo30_6 (b := ⟨b10, 6, none⟩) (Addr.add_lit _ _ _))) ?_
  refine W.gq rfl rfl rfl rfl rfl (fun hc => (X.load (ev' (.pointer (some ⟨b10, 6, none⟩)) rfl (gvt hc rfl)) pt3 (Blk.lc hB12 (Msg.arr6 _)))) ?_
  refine W.gq rfl rfl rfl rfl rfl (fun hc => (X.eql (ev' (.int .i64 a.day) rfl (gvt hc rfl)) (ev' (.int .i64 b.day) rfl (gvt hc rfl)))) ?_
  refine W.val rfl rfl (X.and (ev' (.bool q25) rfl rfl) (ev' (gv (q25 == true) (.bool ((a.day : Int) == (b.day : Int)))) rfl rfl)) ?_
  refine W.val rfl rfl (X.move (ev' (.bool (q25 && ((a.day : Int) == (b.day : Int)))) rfl rfl)) ?_
  refine W.gq rfl rfl rfl rfl rfl (fun _ => (X.fieldAddr (ev' (.pointer (some ⟨b2, 0, none⟩)) rfl s20) fo30_7 (b := ⟨b2, 7, none⟩) (Addr.add_lit _ _ _))) ?_
  refine W.gq rfl rfl rfl rfl rfl (fun hc => (X.load (ev' (.pointer (some ⟨b2, 7, none⟩)) rfl (gvt hc rfl)) pt3 (Blk.lc h22 (Msg.arr7 _)))) ?_
  refine W.gq rfl rfl rfl rfl rfl (fun _ => (X.fieldAddr (ev' (.pointer (some ⟨b10, 0, none⟩)) rfl s21) fo30_7 (b := ⟨b10, 7, none⟩) (Addr.add_lit _ _ _))) ?_
  refine W.gq rfl rfl rfl rfl rfl (fun hc => (X.load (ev' (.pointer (some ⟨b10, 7, none⟩)) rfl (gvt hc rfl)) pt3 (Blk.lc hB12 (Msg.arr7 _)))) ?_
  refine W.gq rfl rfl rfl rfl rfl (fun hc => (X.eql (ev' (.int .i64 a.label) rfl (gvt hc rfl)) (ev' (.int .i64 b.label) rfl (gvt hc rfl)))) ?_
  refine W.valN rfl rfl (X.and (ev' (.bool (q25 && ((a.day : Int) == (b.day : Int)))) rfl rfl) (ev' (gv ((q25 && ((a.day : Int) == (b.day : Int))) == true) (.bool ((a.label : Int) == (b.label : Int)))) rfl rfl)) ?_
  intro q26 eq26
  refine W.val rfl rfl (X.move (ev' (.bool q26) rfl rfl)) ?_
  refine W.gq rfl rfl rfl rfl rfl (fun _ => (X.fieldAddr (ev' (.pointer (some ⟨b2, 0, none⟩)) rfl s20) fo30_8 (b := ⟨b2, 8, none⟩) (Addr.add_lit _ _ _))) ?_
  refine W.gq rfl rfl rfl rfl rfl (fun hc => (X.load (ev' (.pointer (some ⟨b2, 8, none⟩)) rfl (gvt hc rfl)) pt25 (Blk.lc h22 (Msg.arr8 _)))) ?_
  refine W.gq rfl rfl rfl rfl rfl (fun hc => (X.len (ev' (.slice a.la a.ln a.lc) rfl (gvt hc rfl)) st25)) ?_
  refine W.gq rfl rfl rfl rfl rfl (fun _ => (X.fieldAddr (ev' (.pointer (some ⟨b10, 0, none⟩)) rfl s21) fo30_8 (b := ⟨b10, 8, none⟩) (Addr.add_lit _ _ _))) ?_
  refine W.gq rfl rfl rfl rfl rfl (fun hc => (X.load (ev' (.pointer (some ⟨b10, 8, none⟩)) rfl (gvt hc rfl)) pt25 (Blk.lc hB12 (Msg.arr8 _)))) ?_
  refine W.gq rfl rfl rfl rfl rfl (fun hc => (X.len (ev' (.slice b.la b.ln b.lc) rfl (gvt hc rfl)) st25)) ?_
  refine W.gq rfl rfl rfl rfl rfl (fun hc => (X.eql (ev' (.int .i64 (a.ln : Int)) rfl (gvt hc rfl)) (ev' (.int .i64 (b.ln : Int)) rfl (gvt hc rfl)))) ?_
  refine W.val rfl rfl (X.and (ev' (.bool q26) rfl rfl) (ev' (gv (q26 == true) (.bool (((a.ln : Int) : Int) == ((b.ln : Int) : Int)))) rfl rfl)) ?_
  refine W.val rfl rfl (X.move (ev' (.bool (q26 && (((a.ln : Int) : Int) == ((b.ln : Int) : Int)))) rfl rfl)) ?_
  refine W.gq rfl rfl rfl rfl rfl (fun _ => (X.fieldAddr (ev' (.pointer (some ⟨b2, 0, none⟩)) rfl s20) fo30_9 (b := ⟨b2, 9, none⟩) (Addr.add_lit _ _ _))) ?_
  refine W.gq rfl rfl rfl rfl rfl (fun hc => (X.load (ev' (.pointer (some ⟨b2, 9, none⟩)) rfl (gvt hc rfl)) pt25 (Blk.lc h22 (Msg.arr9 _)))) ?_
  refine W.gq rfl rfl rfl rfl rfl (fun hc => (X.len (ev' (.slice a.va a.vn a.vc) rfl (gvt hc rfl)) st25)) ?_
  refine W.gq rfl rfl rfl rfl rfl (fun _ => (X.fieldAddr (ev' (.pointer (some ⟨b10, 0, none⟩)) rfl s21) fo30_9 (b := ⟨b10, 9, none⟩) (Addr.add_lit _ _ _))) ?_
  refine W.gq rfl rfl rfl rfl rfl (fun hc => (X.load (ev' (.pointer (some ⟨b10, 9, none⟩)) rfl (gvt hc rfl)) pt25 (Blk.lc hB12 (Msg.arr9 _)))) ?_
  refine W.gq rfl rfl rfl rfl rfl (fun hc => (X.len (ev' (.slice b.va b.vn b.vc) rfl (gvt hc rfl)) st25)) ?_
  refine W.gq rfl rfl rfl rfl rfl (fun hc => (X.eql (ev' (.int .i64 (a.vn : Int)) rfl (gvt hc rfl)) (ev' (.int .i64 (b.vn : Int)) rfl (gvt hc rfl)))) ?_
  refine W.valN rfl rfl (X.and (ev' (.bool (q26 && (((a.ln : Int) : Int) == ((b.ln : Int) : Int)))) rfl rfl) (ev' (gv ((q26 && (((a.ln : Int) : Int) == ((b.ln : Int) : Int))) == true) (.bool (((a.vn : Int) : Int) == ((b.vn : Int) : Int)))) rfl rfl)) ?_
  intro q27 eq27
  refine W.val rfl rfl (X.move (ev' (.bool q27) rfl rfl)) ?_
  refine W.gq rfl rfl rfl rfl rfl (fun _ => (X.fieldAddr (ev' (.pointer (some ⟨b2, 0, none⟩)) rfl s20) fo30_10 (b := ⟨b2, 10, none⟩) (Addr.add_lit _ _ _))) ?_
  refine W.gq rfl rfl rfl rfl rfl (fun hc => (X.load (ev' (.pointer (some ⟨b2, 10, none⟩)) rfl (gvt hc rfl)) pt26 (Blk.lc h22 (Msg.arr10 _)))) ?_
  refine W.gq rfl rfl rfl rfl rfl (fun hc => (X.len (ev' (.slice a.ra a.rn a.rc) rfl (gvt hc rfl)) st26)) ?_
  refine W.gq rfl rfl rfl rfl rfl (fun _ => (X.fieldAddr (ev' (.pointer (some ⟨b10, 0, none⟩)) rfl s21) fo30_10 (b := ⟨b10, 10, none⟩) (Addr.add_lit _ _ _))) ?_
  refine W.gq rfl rfl rfl rfl rfl (fun hc => (X.load (ev' (.pointer (some ⟨b10, 10, none⟩)) rfl (gvt hc rfl)) pt26 (Blk.lc hB12 (Msg.arr10 _)))) ?_
  refine W.gq rfl rfl rfl rfl rfl (fun hc => (X.len (ev' (.slice b.ra b.rn b.rc) rfl (gvt hc rfl)) st26)) ?_
  refine W.gq rfl rfl rfl rfl rfl (fun hc => (X.eql (ev' (.int .i64 (a.rn : Int)) rfl (gvt hc rfl)) (ev' (.int .i64 (b.rn : Int)) rfl (gvt hc rfl)))) ?_
  refine W.val rfl rfl (X.and (ev' (.bool q27) rfl rfl) (ev' (gv (q27 == true) (.bool (((a.rn : Int) : Int) == ((b.rn : Int) : Int)))) rfl rfl)) ?_
  refine W.val rfl rfl (X.move (ev' (.bool (q27 && (((a.rn : Int) : Int) == ((b.rn : Int) : Int)))) rfl rfl)) ?_
  refine W.gq rfl rfl rfl rfl rfl (fun _ => (X.fieldAddr (ev' (.pointer (some ⟨b2, 0, none⟩)) rfl s20) fo30_11 (b := ⟨b2, 11, none⟩) (Addr.add_lit _ _ _))) ?_
  refine W.gq rfl rfl rfl rfl rfl (fun hc => (X.loadR (ev' (.pointer (some ⟨b2, 11, none⟩)) rfl (gvt hc rfl)) rt28 (row_blk_seal h22) rfl)) ?_
  refine W.gq rfl rfl rfl rfl rfl (fun _ => (X.fieldAddr (ev' (.pointer (some ⟨b10, 0, none⟩)) rfl s21) fo30_11 (b := ⟨b10, 11, none⟩) (Addr.add_lit _ _ _))) ?_
  refine W.gq rfl rfl rfl rfl rfl (fun hc => (X.loadR (ev' (.pointer (some ⟨b10, 11, none⟩)) rfl (gvt hc rfl)) rt28 (row_blk_seal hB12) rfl)) ?_
  refine W.gq rfl rfl rfl rfl rfl (fun hc => (X.eqlSeal (ev' (.agg (sealArr a.sl)) rfl (gvt hc rfl)) (ev' (.agg (sealArr b.sl)) rfl (gvt hc rfl)))) ?_
  refine W.valN rfl rfl (X.and (ev' (.bool (q27 && (((a.rn : Int) : Int) == ((b.rn : Int) : Int)))) rfl rfl) (ev' (gv ((q27 && (((a.rn : Int) : Int) == ((b.rn : Int) : Int))) == true) (.bool (a.sl == b.sl))) rfl rfl)) ?_
  intro q28 eq28
  refine W.val rfl rfl (X.assign (ev' (.bool q28) rfl rfl)) ?_
  refine W.nil ?_
  refine then_n ?_
  refine W.fresh ?_
  intro r29 er30
  have s31 : r29 4 = .bool q28 := (congrFun er30 4).trans rfl
  clear er30
  refine W.ret (retT rfl rfl (show _ = (.bool q28 : Value) from s31) ⟨?_, R16⟩)
  subst eq28
  subst eq27
  subst eq26
  subst eq25
  subst eq24
  subst eq23
  rfl

theorem fewM_c (m : Msg) (w : World) : Calls Try.prog 11 #[.agg m.arr] w (Ret fun v w' => v = .bool (fewM m) ∧ Grow w w') := by
  refine enter (N := 19) Try.func11 rfl Try.ntmps11 rfl ?_
  intro ρ hρ
  have a0 : ρ 0 = .agg m.arr := hρ 0 _ rfl
  clear hρ
  have R0 : Grow w w := Chg.refl w
  refine W.seq ?_
  refine W.reg ?_
  refine W.eff rfl rfl (Y.box (cs := m.arr) (ev' (.agg m.arr) rfl a0) rfl) ?_
  rintro _ w1 ⟨b2, rfl, g3, hB4, lt5⟩
  have l6 := Nat.le_trans R0.size lt5
  have R7 := R0.gr g3
  refine W.val rfl rfl (X.assign (evc' (.bool false))) ?_
  refine W.nil ?_
  refine then_n ?_
  refine W.fresh ?_
  intro r9 er10
  have s11 : r9 1 = .pointer (some ⟨b2, 0, none⟩) := (congrFun er10 1).trans rfl
  clear er10
  refine W.seq ?_
  refine W.reg ?_
  refine W.val rfl rfl (X.fieldAddr (ev' (.pointer (some ⟨b2, 0, none⟩)) rfl s11) fo30_8 (b := ⟨b2, 8, none⟩) (Addr.add_lit _ _ _)) ?_
  refine W.val rfl rfl (X.load (ev' (.pointer (some ⟨b2, 8, none⟩)) rfl rfl) pt25 (Blk.lc hB4 (Msg.arr8 _))) ?_
  refine W.val rfl rfl (X.len (ev' (.slice m.la m.ln m.lc) rfl rfl) st25) ?_
  refine W.val rfl rfl (X.leq (ev' (.int .i64 (m.ln : Int)) rfl rfl) (evc' (.int .i64 8))) ?_
  refine W.val rfl rfl (X.move (ev' (.bool (decide (((m.ln : Int) : Int) ≤ (8 : Int)))) rfl rfl)) ?_
  refine W.gq rfl rfl rfl rfl rfl (fun _ => (X.fieldAddr (ev' (.pointer (some ⟨b2, 0, none⟩)) rfl s11) fo30_9 (b := ⟨b2, 9, none⟩) (Addr.add_lit _ _ _))) ?_
  refine W.gq rfl rfl rfl rfl rfl (fun hc => (X.load (ev' (.pointer (some ⟨b2, 9, none⟩)) rfl (gvt hc rfl)) pt25 (Blk.lc hB4 (Msg.arr9 _)))) ?_
  refine W.gq rfl rfl rfl rfl rfl (fun hc => (X.len (ev' (.slice m.va m.vn m.vc) rfl (gvt hc rfl)) st25)) ?_
  refine W.gq rfl rfl rfl rfl rfl (fun hc => (X.leq (ev' (.int .i64 (m.vn : Int)) rfl (gvt hc rfl)) (evc' (.int .i64 8)))) ?_
  refine W.valN rfl rfl (X.and (ev' (.bool (decide (((m.ln : Int) : Int) ≤ (8 : Int)))) rfl rfl) (ev' (gv ((decide (((m.ln : Int) : Int) ≤ (8 : Int))) == true) (.bool (decide (((m.vn : Int) : Int) ≤ (8 : Int))))) rfl rfl)) ?_
  intro q12 eq12
  refine W.val rfl rfl (X.move (ev' (.bool q12) rfl rfl)) ?_
  refine W.gq rfl rfl rfl rfl rfl (fun _ => (X.fieldAddr (ev' (.pointer (some ⟨b2, 0, none⟩)) rfl s11) fo30_10 (b := ⟨b2, 10, none⟩) (Addr.add_lit _ _ _))) ?_
  refine W.gq rfl rfl rfl rfl rfl (fun hc => (X.load (ev' (.pointer (some ⟨b2, 10, none⟩)) rfl (gvt hc rfl)) pt26 (Blk.lc hB4 (Msg.arr10 _)))) ?_
  refine W.gq rfl rfl rfl rfl rfl (fun hc => (X.len (ev' (.slice m.ra m.rn m.rc) rfl (gvt hc rfl)) st26)) ?_
  refine W.gq rfl rfl rfl rfl rfl (fun hc => (X.leq (ev' (.int .i64 (m.rn : Int)) rfl (gvt hc rfl)) (evc' (.int .i64 8)))) ?_
  refine W.val rfl rfl (X.and (ev' (.bool q12) rfl rfl) (ev' (gv (q12 == true) (.bool (decide (((m.rn : Int) : Int) ≤ (8 : Int))))) rfl rfl)) ?_
  refine W.val rfl rfl (X.assign (ev' (.bool (q12 && (decide (((m.rn : Int) : Int) ≤ (8 : Int))))) rfl rfl)) ?_
  refine W.nil ?_
  refine then_n ?_
  refine W.fresh ?_
  intro r13 er14
  have s15 : r13 2 = .bool (q12 && (decide (((m.rn : Int) : Int) ≤ (8 : Int)))) := (congrFun er14 2).trans rfl
  clear er14
  refine W.ret (retT rfl rfl (show _ = (.bool (q12 && (decide (((m.rn : Int) : Int) ≤ (8 : Int)))) : Value) from s15) ⟨?_, R7⟩)
  subst eq12
  rfl

theorem right_c_p1 : ∀ (m : Msg) (q19 q25 : Bool), q19 = ((!(decide (1 ≤ m.kind ∧ m.kind ≤ 4))) || (!(decide (0 ≤ m.frm ∧ m.frm ≤ 11)))) → q25 = ((q19 || (!(decide (0 ≤ m.to ∧ m.to ≤ 11)))) || ((m.frm : Int) == (m.to : Int))) → (q25) = true → (false) = ok m := by intros; first | grind (splits := 30) [ok, OkMsg] | (subst_vars; rw [Bool.eq_iff_iff]; simp [ok, OkMsg] at * <;> grind)
theorem right_c_p2 : ∀ (m : Msg) (q19 q25 q41 q50 : Bool), q19 = ((!(decide (1 ≤ m.kind ∧ m.kind ≤ 4))) || (!(decide (0 ≤ m.frm ∧ m.frm ≤ 11)))) → q25 = ((q19 || (!(decide (0 ≤ m.to ∧ m.to ≤ 11)))) || ((m.frm : Int) == (m.to : Int))) → (q25) = false → q41 = ((!(decide (0 ≤ m.no ∧ m.no ≤ 4095))) || (!(decide (0 ≤ m.item ∧ m.item ≤ 31)))) → q50 = ((q41 || (!(decide (1 ≤ m.amount ∧ m.amount ≤ 1048576)))) || (!(decide (0 ≤ m.day ∧ m.day ≤ 1023)))) → (q50) = true → (false) = ok m := by intros; first | grind (splits := 30) [ok, OkMsg] | (subst_vars; rw [Bool.eq_iff_iff]; simp [ok, OkMsg] at * <;> grind)
theorem right_c_p3 : ∀ (m : Msg) (q19 q25 q41 q50 q64 : Bool), q19 = ((!(decide (1 ≤ m.kind ∧ m.kind ≤ 4))) || (!(decide (0 ≤ m.frm ∧ m.frm ≤ 11)))) → q25 = ((q19 || (!(decide (0 ≤ m.to ∧ m.to ≤ 11)))) || ((m.frm : Int) == (m.to : Int))) → (q25) = false → q41 = ((!(decide (0 ≤ m.no ∧ m.no ≤ 4095))) || (!(decide (0 ≤ m.item ∧ m.item ≤ 31)))) → q50 = ((q41 || (!(decide (1 ≤ m.amount ∧ m.amount ≤ 1048576)))) || (!(decide (0 ≤ m.day ∧ m.day ≤ 1023)))) → (q50) = false → q64 = (((m.kind : Int) == (3 : Int)) || ((m.kind : Int) == (4 : Int))) → (q64) = true → (!(decide (0 ≤ m.label ∧ m.label ≤ 4095))) = true → (false) = ok m := by intros; first | grind (splits := 30) [ok, OkMsg] | (subst_vars; rw [Bool.eq_iff_iff]; simp [ok, OkMsg] at * <;> grind)
theorem right_c_p4 : ∀ (m : Msg) (q19 q25 q41 q50 q64 q87 q88 : Bool), q19 = ((!(decide (1 ≤ m.kind ∧ m.kind ≤ 4))) || (!(decide (0 ≤ m.frm ∧ m.frm ≤ 11)))) → q25 = ((q19 || (!(decide (0 ≤ m.to ∧ m.to ≤ 11)))) || ((m.frm : Int) == (m.to : Int))) → (q25) = false → q41 = ((!(decide (0 ≤ m.no ∧ m.no ≤ 4095))) || (!(decide (0 ≤ m.item ∧ m.item ≤ 31)))) → q50 = ((q41 || (!(decide (1 ≤ m.amount ∧ m.amount ≤ 1048576)))) || (!(decide (0 ≤ m.day ∧ m.day ≤ 1023)))) → (q50) = false → q64 = (((m.kind : Int) == (3 : Int)) || ((m.kind : Int) == (4 : Int))) → (q64) = true → (!(decide (0 ≤ m.label ∧ m.label ≤ 4095))) = false → q87 = ((((m.ln : Int) : Int) == (0 : Int)) && (((m.vn : Int) : Int) == (0 : Int))) → q88 = ((q87 && (((m.rn : Int) : Int) == (0 : Int))) && (m.sl == Msg.zero.sl)) → (q88) = ok m := by intros; first | grind (splits := 30) [ok, OkMsg] | (subst_vars; rw [Bool.eq_iff_iff]; simp [ok, OkMsg] at * <;> grind)
theorem right_c_p5 : ∀ (m : Msg) (q19 q25 q41 q50 q64 : Bool), q19 = ((!(decide (1 ≤ m.kind ∧ m.kind ≤ 4))) || (!(decide (0 ≤ m.frm ∧ m.frm ≤ 11)))) → q25 = ((q19 || (!(decide (0 ≤ m.to ∧ m.to ≤ 11)))) || ((m.frm : Int) == (m.to : Int))) → (q25) = false → q41 = ((!(decide (0 ≤ m.no ∧ m.no ≤ 4095))) || (!(decide (0 ≤ m.item ∧ m.item ≤ 31)))) → q50 = ((q41 || (!(decide (1 ≤ m.amount ∧ m.amount ≤ 1048576)))) || (!(decide (0 ≤ m.day ∧ m.day ≤ 1023)))) → (q50) = false → q64 = (((m.kind : Int) == (3 : Int)) || ((m.kind : Int) == (4 : Int))) → (q64) = false → (!(decide (0 ≤ m.label ∧ m.label ≤ 0))) = true → (false) = ok m := by intros; first | grind (splits := 30) [ok, OkMsg] | (subst_vars; rw [Bool.eq_iff_iff]; simp [ok, OkMsg] at * <;> grind)
theorem right_c_p6 : ∀ (m : Msg) (q19 q25 q41 q50 q64 q104 q105 : Bool), q19 = ((!(decide (1 ≤ m.kind ∧ m.kind ≤ 4))) || (!(decide (0 ≤ m.frm ∧ m.frm ≤ 11)))) → q25 = ((q19 || (!(decide (0 ≤ m.to ∧ m.to ≤ 11)))) || ((m.frm : Int) == (m.to : Int))) → (q25) = false → q41 = ((!(decide (0 ≤ m.no ∧ m.no ≤ 4095))) || (!(decide (0 ≤ m.item ∧ m.item ≤ 31)))) → q50 = ((q41 || (!(decide (1 ≤ m.amount ∧ m.amount ≤ 1048576)))) || (!(decide (0 ≤ m.day ∧ m.day ≤ 1023)))) → (q50) = false → q64 = (((m.kind : Int) == (3 : Int)) || ((m.kind : Int) == (4 : Int))) → (q64) = false → (!(decide (0 ≤ m.label ∧ m.label ≤ 0))) = false → q104 = ((((m.ln : Int) : Int) == (0 : Int)) && (((m.vn : Int) : Int) == (0 : Int))) → q105 = ((q104 && (((m.rn : Int) : Int) == (0 : Int))) && (m.sl == Msg.zero.sl)) → (q105) = ok m := by intros; first | grind (splits := 30) [ok, OkMsg] | (subst_vars; rw [Bool.eq_iff_iff]; simp [ok, OkMsg] at * <;> grind)
theorem right_c (m : Msg) (w : World) : Calls Try.prog 36 #[.agg m.arr] w (Ret fun v w' => v = .bool (ok m) ∧ Grow w w') := by
  refine enter (N := 84) Try.func36 rfl Try.ntmps36 rfl ?_
  intro ρ hρ
  have a0 : ρ 0 = .agg m.arr := hρ 0 _ rfl
  clear hρ
  have R0 : Grow w w := Chg.refl w
  refine W.seq ?_
  refine W.reg ?_
  refine W.eff rfl rfl (Y.box (cs := m.arr) (ev' (.agg m.arr) rfl a0) rfl) ?_
  rintro _ w1 ⟨b2, rfl, g3, hB4, lt5⟩
  have l6 := Nat.le_trans R0.size lt5
  have R7 := R0.gr g3
  refine W.val rfl rfl (X.assign (evc' (.bool false))) ?_
  refine W.nil ?_
  refine then_n ?_
  refine W.fresh ?_
  intro r9 er10
  have s11 : r9 1 = .pointer (some ⟨b2, 0, none⟩) := (congrFun er10 1).trans rfl
  clear er10
  refine W.seq ?_
  refine W.seq ?_
  refine W.reg ?_
  refine W.val rfl rfl (X.fieldAddr (ev' (.pointer (some ⟨b2, 0, none⟩)) rfl s11) fo30_0 (b := ⟨b2, 0, none⟩) (Addr.add_lit _ _ _)) ?_
  refine W.val rfl rfl (X.load (ev' (.pointer (some ⟨b2, 0, none⟩)) rfl rfl) pt3 (Blk.lc hB4 (Msg.arr0 _))) ?_
  refine W.call rfl rfl (X.callF go41 (args3 (ev' (.int .i64 m.kind) rfl rfl) (evc' (.int .i64 1)) (evc' (.int .i64 4)))) (between_c m.kind 1 4 _) ?_
  rintro _ w12 ⟨rfl, g13⟩
  have R14 := R7.gr g13
  refine W.val rfl rfl (X.not (ev' (.bool (decide (1 ≤ m.kind ∧ m.kind ≤ 4))) rfl rfl)) ?_
  refine W.val rfl rfl (X.move (ev' (.bool (!(decide (1 ≤ m.kind ∧ m.kind ≤ 4)))) rfl rfl)) ?_
  refine W.gq rfl rfl rfl rfl rfl (fun _ => (X.fieldAddr (ev' (.pointer (some ⟨b2, 0, none⟩)) rfl s11) fo30_1 (b := ⟨b2, 1, none⟩) (Addr.add_lit _ _ _))) ?_
  have h15 := hB4.gr g13
  refine W.gq rfl rfl rfl rfl rfl (fun hc => (X.load (ev' (.pointer (some ⟨b2, 1, none⟩)) rfl (gvt hc rfl)) pt3 (Blk.lc h15 (Msg.arr1 _)))) ?_
  refine W.gcallS rfl rfl rfl rfl rfl (fun hc => X.callF go41 (args3 (ev' (.int .i64 m.frm) rfl (gvt hc rfl)) (evc' (.int .i64 0)) (evc' (.int .i64 11)))) (fun _ => (between_c m.frm 0 11 _)) ?_
  intro w16 g17
  have R18 := R14.gr g17
  refine W.gq rfl rfl rfl rfl rfl (fun hc => (X.not (ev' (.bool (decide (0 ≤ m.frm ∧ m.frm ≤ 11))) rfl (gvt hc rfl)))) ?_
  refine W.valN rfl rfl (X.or (ev' (.bool (!(decide (1 ≤ m.kind ∧ m.kind ≤ 4)))) rfl rfl) (ev' (gv ((!(decide (1 ≤ m.kind ∧ m.kind ≤ 4))) == false) (.bool (!(decide (0 ≤ m.frm ∧ m.frm ≤ 11))))) rfl rfl)) ?_
  intro q19 eq19
  refine W.val rfl rfl (X.move (ev' (.bool q19) rfl rfl)) ?_
  refine W.gq rfl rfl rfl rfl rfl (fun _ => (X.fieldAddr (ev' (.pointer (some ⟨b2, 0, none⟩)) rfl s11) fo30_2 (b := ⟨b2, 2, none⟩) (Addr.add_lit _ _ _))) ?_
  have h20 := h15.gr g17
  refine W.gq rfl rfl rfl rfl rfl (fun hc => (X.load (ev' (.pointer (some ⟨b2, 2, none⟩)) rfl (gvt hc rfl)) pt3 (Blk.lc h20 (Msg.arr2 _)))) ?_
  refine W.gcallS rfl rfl rfl rfl rfl (fun hc => X.callF go41 (args3 (ev' (.int .i64 m.to) rfl (gvt hc rfl)) (evc' (.int .i64 0)) (evc' (.int .i64 11)))) (fun _ => (between_c m.to 0 11 _)) ?_
  intro w21 g22
  have R23 := R18.gr g22
  refine W.gq rfl rfl rfl rfl rfl (fun hc => (X.not (ev' (.bool (decide (0 ≤ m.to ∧ m.to ≤ 11))) rfl (gvt hc rfl)))) ?_
  refine W.val rfl rfl (X.or (ev' (.bool q19) rfl rfl) (ev' (gv (q19 == false) (.bool (!(decide (0 ≤ m.to ∧ m.to ≤ 11))))) rfl rfl)) ?_
  refine W.val rfl rfl (X.move (ev' (.bool (q19 || (!(decide (0 ≤ m.to ∧ m.to ≤ 11))))) rfl rfl)) ?_
  refine W.gq rfl rfl rfl rfl rfl (fun _ => (X.fieldAddr (ev' (.pointer (some ⟨b2, 0, none⟩)) rfl s11) fo30_1 (b := ⟨b2, 1, none⟩) (Addr.add_lit _ _ _))) ?_
  have h24 := h20.gr g22
  refine W.gq rfl rfl rfl rfl rfl (fun hc => (X.load (ev' (.pointer (some ⟨b2, 1, none⟩)) rfl (gvt hc rfl)) pt3 (Blk.lc h24 (Msg.arr1 _)))) ?_
  refine W.gq rfl rfl rfl rfl rfl (fun _ => (X.fieldAddr (ev' (.pointer (some ⟨b2, 0, none⟩)) rfl s11) fo30_2 (b := ⟨b2, 2, none⟩) (Addr.add_lit _ _ _))) ?_
  refine W.gq rfl rfl rfl rfl rfl (fun hc => (X.load (ev' (.pointer (some ⟨b2, 2, none⟩)) rfl (gvt hc rfl)) pt3 (Blk.lc h24 (Msg.arr2 _)))) ?_
  refine W.gq rfl rfl rfl rfl rfl (fun hc => (X.eql (ev' (.int .i64 m.frm) rfl (gvt hc rfl)) (ev' (.int .i64 m.to) rfl (gvt hc rfl)))) ?_
  refine W.valN rfl rfl (X.or (ev' (.bool (q19 || (!(decide (0 ≤ m.to ∧ m.to ≤ 11))))) rfl rfl) (ev' (gv ((q19 || (!(decide (0 ≤ m.to ∧ m.to ≤ 11)))) == false) (.bool ((m.frm : Int) == (m.to : Int)))) rfl rfl)) ?_
  intro q25 eq25
  refine W.nil ?_
  refine then_n ?_
  refine W.fresh ?_
  intro r26 er27
  have s28 : r26 1 = .pointer (some ⟨b2, 0, none⟩) := (congrFun er27 1).trans s11
  have s29 : r26 26 = .bool q25 := (congrFun er27 26).trans rfl
  clear er27
  refine W.cond rfl s29 (fun k30 => ?_) (fun k30 => ?_)
  · skip
    refine W.seq ?_
    refine W.reg ?_
    refine W.val rfl rfl (X.assign (evc' (.bool false))) ?_
    refine W.nil ?_
    refine then_n ?_
    refine W.fresh ?_
    intro r31 er32
    have s33 : r31 2 = .bool false := (congrFun er32 2).trans rfl
    clear er32
    refine W.ret (then_r (retT rfl rfl (show _ = (.bool false : Value) from s33) ⟨?_, R23⟩))
    exact congrArg Value.bool (right_c_p1 _ _ _ eq19 eq25 k30)
  · skip
    refine W.skip ?_
    refine then_n ?_
    refine W.seq ?_
    refine W.seq ?_
    refine W.reg ?_
    refine W.val rfl rfl (X.fieldAddr (ev' (.pointer (some ⟨b2, 0, none⟩)) rfl s28) fo30_3 (b := ⟨b2, 3, none⟩) (Addr.add_lit _ _ _)) ?_
    refine W.val rfl rfl (X.load (ev' (.pointer (some ⟨b2, 3, none⟩)) rfl rfl) pt3 (Blk.lc h24 (Msg.arr3 _))) ?_
    refine W.call rfl rfl (X.callF go41 (args3 (ev' (.int .i64 m.no) rfl rfl) (evc' (.int .i64 0)) (evc' (.int .i64 4095)))) (between_c m.no 0 4095 _) ?_
    rintro _ w34 ⟨rfl, g35⟩
    have R36 := R23.gr g35
    refine W.val rfl rfl (X.not (ev' (.bool (decide (0 ≤ m.no ∧ m.no ≤ 4095))) rfl rfl)) ?_
    refine W.val rfl rfl (X.move (ev' (.bool (!(decide (0 ≤ m.no ∧ m.no ≤ 4095)))) rfl rfl)) ?_
    refine W.gq rfl rfl rfl rfl rfl (fun _ => (X.fieldAddr (ev' (.pointer (some ⟨b2, 0, none⟩)) rfl s28) fo30_4 (b := ⟨b2, 4, none⟩) (Addr.add_lit _ _ _))) ?_
    have h37 := h24.gr g35
    refine W.gq rfl rfl rfl rfl rfl (fun hc => (X.load (ev' (.pointer (some ⟨b2, 4, none⟩)) rfl (gvt hc rfl)) pt3 (Blk.lc h37 (Msg.arr4 _)))) ?_
    refine W.gcallS rfl rfl rfl rfl rfl (fun hc => X.callF go41 (args3 (ev' (.int .i64 m.item) rfl (gvt hc rfl)) (evc' (.int .i64 0)) (evc' (.int .i64 31)))) (fun _ => (between_c m.item 0 31 _)) ?_
    intro w38 g39
    have R40 := R36.gr g39
    refine W.gq rfl rfl rfl rfl rfl (fun hc => (X.not (ev' (.bool (decide (0 ≤ m.item ∧ m.item ≤ 31))) rfl (gvt hc rfl)))) ?_
    refine W.valN rfl rfl (X.or (ev' (.bool (!(decide (0 ≤ m.no ∧ m.no ≤ 4095)))) rfl rfl) (ev' (gv ((!(decide (0 ≤ m.no ∧ m.no ≤ 4095))) == false) (.bool (!(decide (0 ≤ m.item ∧ m.item ≤ 31))))) rfl rfl)) ?_
    intro q41 eq41
    refine W.val rfl rfl (X.move (ev' (.bool q41) rfl rfl)) ?_
    refine W.gq rfl rfl rfl rfl rfl (fun _ => (X.fieldAddr (ev' (.pointer (some ⟨b2, 0, none⟩)) rfl s28) fo30_5 (b := ⟨b2, 5, none⟩) (Addr.add_lit _ _ _))) ?_
    have h42 := h37.gr g39
    refine W.gq rfl rfl rfl rfl rfl (fun hc => (X.load (ev' (.pointer (some ⟨b2, 5, none⟩)) rfl (gvt hc rfl)) pt3 (Blk.lc h42 (Msg.arr5 _)))) ?_
    refine W.gcallS rfl rfl rfl rfl rfl (fun hc => X.callF go41 (args3 (ev' (.int .i64 m.amount) rfl (gvt hc rfl)) (evc' (.int .i64 1)) (evc' (.int .i64 1048576)))) (fun _ => (between_c m.amount 1 1048576 _)) ?_
    intro w43 g44
    have R45 := R40.gr g44
    refine W.gq rfl rfl rfl rfl rfl (fun hc => (X.not (ev' (.bool (decide (1 ≤ m.amount ∧ m.amount ≤ 1048576))) rfl (gvt hc rfl)))) ?_
    refine W.val rfl rfl (X.or (ev' (.bool q41) rfl rfl) (ev' (gv (q41 == false) (.bool (!(decide (1 ≤ m.amount ∧ m.amount ≤ 1048576))))) rfl rfl)) ?_
    refine W.val rfl rfl (X.move (ev' (.bool (q41 || (!(decide (1 ≤ m.amount ∧ m.amount ≤ 1048576))))) rfl rfl)) ?_
    refine W.gq rfl rfl rfl rfl rfl (fun _ => (X.fieldAddr (ev' (.pointer (some ⟨b2, 0, none⟩)) rfl s28) fo30_6 (b := ⟨b2, 6, none⟩) (Addr.add_lit _ _ _))) ?_
    have h46 := h42.gr g44
    refine W.gq rfl rfl rfl rfl rfl (fun hc => (X.load (ev' (.pointer (some ⟨b2, 6, none⟩)) rfl (gvt hc rfl)) pt3 (Blk.lc h46 (Msg.arr6 _)))) ?_
    refine W.gcallS rfl rfl rfl rfl rfl (fun hc => X.callF go41 (args3 (ev' (.int .i64 m.day) rfl (gvt hc rfl)) (evc' (.int .i64 0)) (evc' (.int .i64 1023)))) (fun _ => (between_c m.day 0 1023 _)) ?_
    intro w47 g48
    have R49 := R45.gr g48
    refine W.gq rfl rfl rfl rfl rfl (fun hc => (X.not (ev' (.bool (decide (0 ≤ m.day ∧ m.day ≤ 1023))) rfl (gvt hc rfl)))) ?_
    refine W.valN rfl rfl (X.or (ev' (.bool (q41 || (!(decide (1 ≤ m.amount ∧ m.amount ≤ 1048576))))) rfl rfl) (ev' (gv ((q41 || (!(decide (1 ≤ m.amount ∧ m.amount ≤ 1048576)))) == false) (.bool (!(decide (0 ≤ m.day ∧ m.day ≤ 1023))))) rfl rfl)) ?_
    intro q50 eq50
    refine W.nil ?_
    refine then_n ?_
    refine W.fresh ?_
    intro r51 er52
    have s53 : r51 1 = .pointer (some ⟨b2, 0, none⟩) := (congrFun er52 1).trans s28
    have s54 : r51 48 = .bool q50 := (congrFun er52 48).trans rfl
    clear er52
    refine W.cond rfl s54 (fun k55 => ?_) (fun k55 => ?_)
    · skip
      refine W.seq ?_
      refine W.reg ?_
      refine W.val rfl rfl (X.assign (evc' (.bool false))) ?_
      refine W.nil ?_
      refine then_n ?_
      refine W.fresh ?_
      intro r56 er57
      have s58 : r56 2 = .bool false := (congrFun er57 2).trans rfl
      clear er57
      refine W.ret (then_r (retT rfl rfl (show _ = (.bool false : Value) from s58) ⟨?_, R49⟩))
      exact congrArg Value.bool (right_c_p2 _ _ _ _ _ eq19 eq25 k30 eq41 eq50 k55)
    · skip
      refine W.skip ?_
      refine then_n ?_
      refine W.seq ?_
      refine W.reg ?_
      refine W.val rfl rfl (X.assign (evc' (.int .i64 0))) ?_
      refine W.nil ?_
      refine then_n ?_
      refine W.fresh ?_
      intro r59 er60
      have s61 : r59 1 = .pointer (some ⟨b2, 0, none⟩) := (congrFun er60 1).trans s53
      have s62 : r59 3 = .int .i64 0 := (congrFun er60 3).trans rfl
      clear er60
      refine W.seq ?_
      refine W.seq ?_
      refine W.reg ?_
      refine W.val rfl rfl (X.fieldAddr (ev' (.pointer (some ⟨b2, 0, none⟩)) rfl s61) fo30_0 (b := ⟨b2, 0, none⟩) (Addr.add_lit _ _ _)) ?_
      have h63 := h46.gr g48
      refine W.val rfl rfl (X.load (ev' (.pointer (some ⟨b2, 0, none⟩)) rfl rfl) pt3 (Blk.lc h63 (Msg.arr0 _))) ?_
      refine W.val rfl rfl (X.eql (ev' (.int .i64 m.kind) rfl rfl) (evc' (.int .i64 3))) ?_
      refine W.val rfl rfl (X.move (ev' (.bool ((m.kind : Int) == (3 : Int))) rfl rfl)) ?_
      refine W.gq rfl rfl rfl rfl rfl (fun _ => (X.fieldAddr (ev' (.pointer (some ⟨b2, 0, none⟩)) rfl s61) fo30_0 (b := ⟨b2, 0, none⟩) (Addr.add_lit _ _ _))) ?_
      refine W.gq rfl rfl rfl rfl rfl (fun hc => (X.load (ev' (.pointer (some ⟨b2, 0, none⟩)) rfl (gvt hc rfl)) pt3 (Blk.lc h63 (Msg.arr0 _)))) ?_
      refine W.gq rfl rfl rfl rfl rfl (fun hc => (X.eql (ev' (.int .i64 m.kind) rfl (gvt hc rfl)) (evc' (.int .i64 4)))) ?_
      refine W.valN rfl rfl (X.or (ev' (.bool ((m.kind : Int) == (3 : Int))) rfl rfl) (ev' (gv (((m.kind : Int) == (3 : Int)) == false) (.bool ((m.kind : Int) == (4 : Int)))) rfl rfl)) ?_
      intro q64 eq64
      refine W.nil ?_
      refine then_n ?_
      refine W.fresh ?_
      intro r65 er66
      have s67 : r65 1 = .pointer (some ⟨b2, 0, none⟩) := (congrFun er66 1).trans s61
      have s68 : r65 3 = .int .i64 0 := (congrFun er66 3).trans s62
      have s69 : r65 56 = .bool q64 := (congrFun er66 56).trans rfl
      clear er66
      refine W.cond rfl s69 (fun k70 => ?_) (fun k70 => ?_)
      · skip
        refine W.reg ?_
        refine W.val rfl rfl (X.assign (evc' (.int .i64 4095))) ?_
        refine W.nil ?_
        refine then_n ?_
        refine W.fresh ?_
        intro r71 er72
        have s73 : r71 1 = .pointer (some ⟨b2, 0, none⟩) := (congrFun er72 1).trans s67
        have s74 : r71 3 = .int .i64 4095 := (congrFun er72 3).trans rfl
        clear er72
        refine W.seq ?_
        refine W.seq ?_
        refine W.reg ?_
        refine W.val rfl rfl (X.fieldAddr (ev' (.pointer (some ⟨b2, 0, none⟩)) rfl s73) fo30_7 (b := ⟨b2, 7, none⟩) (Addr.add_lit _ _ _)) ?_
        refine W.val rfl rfl (X.load (ev' (.pointer (some ⟨b2, 7, none⟩)) rfl rfl) pt3 (Blk.lc h63 (Msg.arr7 _))) ?_
        refine W.val rfl rfl (X.move (ev' (.int .i64 4095) rfl s74)) ?_
        refine W.call rfl rfl (X.callF go41 (args3 (ev' (.int .i64 m.label) rfl rfl) (evc' (.int .i64 0)) (ev' (.int .i64 4095) rfl rfl))) (between_c m.label 0 4095 _) ?_
        rintro _ w75 ⟨rfl, g76⟩
        have R77 := R49.gr g76
        refine W.val rfl rfl (X.not (ev' (.bool (decide (0 ≤ m.label ∧ m.label ≤ 4095))) rfl rfl)) ?_
        refine W.nil ?_
        refine then_n ?_
        refine W.fresh ?_
        intro r78 er79
        have s80 : r78 1 = .pointer (some ⟨b2, 0, none⟩) := (congrFun er79 1).trans s73
        have s81 : r78 61 = .bool (!(decide (0 ≤ m.label ∧ m.label ≤ 4095))) := (congrFun er79 61).trans rfl
        clear er79
        refine W.cond rfl s81 (fun k82 => ?_) (fun k82 => ?_)
        · skip
          refine W.seq ?_
          refine W.reg ?_
          refine W.val rfl rfl (X.assign (evc' (.bool false))) ?_
          refine W.nil ?_
          refine then_n ?_
          refine W.fresh ?_
          intro r83 er84
          have s85 : r83 2 = .bool false := (congrFun er84 2).trans rfl
          clear er84
          refine W.ret (then_r (retT rfl rfl (show _ = (.bool false : Value) from s85) ⟨?_, R77⟩))
          exact congrArg Value.bool (right_c_p3 _ _ _ _ _ _ eq19 eq25 k30 eq41 eq50 k55 eq64 k70 k82)
        · skip
          refine W.skip ?_
          refine then_n ?_
          refine W.seq ?_
          refine W.reg ?_
          refine W.val rfl rfl (X.fieldAddr (ev' (.pointer (some ⟨b2, 0, none⟩)) rfl s80) fo30_8 (b := ⟨b2, 8, none⟩) (Addr.add_lit _ _ _)) ?_
          have h86 := h63.gr g76
          refine W.val rfl rfl (X.load (ev' (.pointer (some ⟨b2, 8, none⟩)) rfl rfl) pt25 (Blk.lc h86 (Msg.arr8 _))) ?_
          refine W.val rfl rfl (X.len (ev' (.slice m.la m.ln m.lc) rfl rfl) st25) ?_
          refine W.val rfl rfl (X.eql (ev' (.int .i64 (m.ln : Int)) rfl rfl) (evc' (.int .i64 0))) ?_
          refine W.val rfl rfl (X.move (ev' (.bool (((m.ln : Int) : Int) == (0 : Int))) rfl rfl)) ?_
          refine W.gq rfl rfl rfl rfl rfl (fun _ => (X.fieldAddr (ev' (.pointer (some ⟨b2, 0, none⟩)) rfl s80) fo30_9 (b := ⟨b2, 9, none⟩) (Addr.add_lit _ _ _))) ?_
          refine W.gq rfl rfl rfl rfl rfl (fun hc => (X.load (ev' (.pointer (some ⟨b2, 9, none⟩)) rfl (gvt hc rfl)) pt25 (Blk.lc h86 (Msg.arr9 _)))) ?_
          refine W.gq rfl rfl rfl rfl rfl (fun hc => (X.len (ev' (.slice m.va m.vn m.vc) rfl (gvt hc rfl)) st25)) ?_
          refine W.gq rfl rfl rfl rfl rfl (fun hc => (X.eql (ev' (.int .i64 (m.vn : Int)) rfl (gvt hc rfl)) (evc' (.int .i64 0)))) ?_
          refine W.valN rfl rfl (X.and (ev' (.bool (((m.ln : Int) : Int) == (0 : Int))) rfl rfl) (ev' (gv ((((m.ln : Int) : Int) == (0 : Int)) == true) (.bool (((m.vn : Int) : Int) == (0 : Int)))) rfl rfl)) ?_
          intro q87 eq87
          refine W.val rfl rfl (X.move (ev' (.bool q87) rfl rfl)) ?_
          refine W.gq rfl rfl rfl rfl rfl (fun _ => (X.fieldAddr (ev' (.pointer (some ⟨b2, 0, none⟩)) rfl s80) fo30_10 (b := ⟨b2, 10, none⟩) (Addr.add_lit _ _ _))) ?_
          refine W.gq rfl rfl rfl rfl rfl (fun hc => (X.load (ev' (.pointer (some ⟨b2, 10, none⟩)) rfl (gvt hc rfl)) pt26 (Blk.lc h86 (Msg.arr10 _)))) ?_
          refine W.gq rfl rfl rfl rfl rfl (fun hc => (X.len (ev' (.slice m.ra m.rn m.rc) rfl (gvt hc rfl)) st26)) ?_
          refine W.gq rfl rfl rfl rfl rfl (fun hc => (X.eql (ev' (.int .i64 (m.rn : Int)) rfl (gvt hc rfl)) (evc' (.int .i64 0)))) ?_
          refine W.val rfl rfl (X.and (ev' (.bool q87) rfl rfl) (ev' (gv (q87 == true) (.bool (((m.rn : Int) : Int) == (0 : Int)))) rfl rfl)) ?_
          refine W.val rfl rfl (X.move (ev' (.bool (q87 && (((m.rn : Int) : Int) == (0 : Int)))) rfl rfl)) ?_
          refine W.gq rfl rfl rfl rfl rfl (fun _ => (X.fieldAddr (ev' (.pointer (some ⟨b2, 0, none⟩)) rfl s80) fo30_11 (b := ⟨b2, 11, none⟩) (Addr.add_lit _ _ _))) ?_
          refine W.gq rfl rfl rfl rfl rfl (fun hc => (X.loadR (ev' (.pointer (some ⟨b2, 11, none⟩)) rfl (gvt hc rfl)) rt28 (row_blk_seal h86) rfl)) ?_
          refine W.gq rfl rfl rfl rfl rfl (fun _ => X.build28) ?_
          refine W.gq rfl rfl rfl rfl rfl (fun hc => (X.eqlSeal (ev' (.agg (sealArr m.sl)) rfl (gvt hc rfl)) (ev' (.agg (sealArr Msg.zero.sl)) rfl (gvt hc rfl)))) ?_
          refine W.valN rfl rfl (X.and (ev' (.bool (q87 && (((m.rn : Int) : Int) == (0 : Int)))) rfl rfl) (ev' (gv ((q87 && (((m.rn : Int) : Int) == (0 : Int))) == true) (.bool (m.sl == Msg.zero.sl))) rfl rfl)) ?_
          intro q88 eq88
          refine W.val rfl rfl (X.assign (ev' (.bool q88) rfl rfl)) ?_
          refine W.nil ?_
          refine then_n ?_
          refine W.fresh ?_
          intro r89 er90
          have s91 : r89 2 = .bool q88 := (congrFun er90 2).trans rfl
          clear er90
          refine W.ret (retT rfl rfl (show _ = (.bool q88 : Value) from s91) ⟨?_, R77⟩)
          exact congrArg Value.bool (right_c_p4 _ _ _ _ _ _ _ _ eq19 eq25 k30 eq41 eq50 k55 eq64 k70 k82 eq87 eq88)
      · skip
        refine W.skip ?_
        refine then_n ?_
        refine W.seq ?_
        refine W.seq ?_
        refine W.reg ?_
        refine W.val rfl rfl (X.fieldAddr (ev' (.pointer (some ⟨b2, 0, none⟩)) rfl s67) fo30_7 (b := ⟨b2, 7, none⟩) (Addr.add_lit _ _ _)) ?_
        refine W.val rfl rfl (X.load (ev' (.pointer (some ⟨b2, 7, none⟩)) rfl rfl) pt3 (Blk.lc h63 (Msg.arr7 _))) ?_
        refine W.val rfl rfl (X.move (ev' (.int .i64 0) rfl s68)) ?_
        refine W.call rfl rfl (X.callF go41 (args3 (ev' (.int .i64 m.label) rfl rfl) (evc' (.int .i64 0)) (ev' (.int .i64 0) rfl rfl))) (between_c m.label 0 0 _) ?_
        rintro _ w92 ⟨rfl, g93⟩
        have R94 := R49.gr g93
        refine W.val rfl rfl (X.not (ev' (.bool (decide (0 ≤ m.label ∧ m.label ≤ 0))) rfl rfl)) ?_
        refine W.nil ?_
        refine then_n ?_
        refine W.fresh ?_
        intro r95 er96
        have s97 : r95 1 = .pointer (some ⟨b2, 0, none⟩) := (congrFun er96 1).trans s67
        have s98 : r95 61 = .bool (!(decide (0 ≤ m.label ∧ m.label ≤ 0))) := (congrFun er96 61).trans rfl
        clear er96
        refine W.cond rfl s98 (fun k99 => ?_) (fun k99 => ?_)
        · skip
          refine W.seq ?_
          refine W.reg ?_
          refine W.val rfl rfl (X.assign (evc' (.bool false))) ?_
          refine W.nil ?_
          refine then_n ?_
          refine W.fresh ?_
          intro r100 er101
          have s102 : r100 2 = .bool false := (congrFun er101 2).trans rfl
          clear er101
          refine W.ret (then_r (retT rfl rfl (show _ = (.bool false : Value) from s102) ⟨?_, R94⟩))
          exact congrArg Value.bool (right_c_p5 _ _ _ _ _ _ eq19 eq25 k30 eq41 eq50 k55 eq64 k70 k99)
        · skip
          refine W.skip ?_
          refine then_n ?_
          refine W.seq ?_
          refine W.reg ?_
          refine W.val rfl rfl (X.fieldAddr (ev' (.pointer (some ⟨b2, 0, none⟩)) rfl s97) fo30_8 (b := ⟨b2, 8, none⟩) (Addr.add_lit _ _ _)) ?_
          have h103 := h63.gr g93
          refine W.val rfl rfl (X.load (ev' (.pointer (some ⟨b2, 8, none⟩)) rfl rfl) pt25 (Blk.lc h103 (Msg.arr8 _))) ?_
          refine W.val rfl rfl (X.len (ev' (.slice m.la m.ln m.lc) rfl rfl) st25) ?_
          refine W.val rfl rfl (X.eql (ev' (.int .i64 (m.ln : Int)) rfl rfl) (evc' (.int .i64 0))) ?_
          refine W.val rfl rfl (X.move (ev' (.bool (((m.ln : Int) : Int) == (0 : Int))) rfl rfl)) ?_
          refine W.gq rfl rfl rfl rfl rfl (fun _ => (X.fieldAddr (ev' (.pointer (some ⟨b2, 0, none⟩)) rfl s97) fo30_9 (b := ⟨b2, 9, none⟩) (Addr.add_lit _ _ _))) ?_
          refine W.gq rfl rfl rfl rfl rfl (fun hc => (X.load (ev' (.pointer (some ⟨b2, 9, none⟩)) rfl (gvt hc rfl)) pt25 (Blk.lc h103 (Msg.arr9 _)))) ?_
          refine W.gq rfl rfl rfl rfl rfl (fun hc => (X.len (ev' (.slice m.va m.vn m.vc) rfl (gvt hc rfl)) st25)) ?_
          refine W.gq rfl rfl rfl rfl rfl (fun hc => (X.eql (ev' (.int .i64 (m.vn : Int)) rfl (gvt hc rfl)) (evc' (.int .i64 0)))) ?_
          refine W.valN rfl rfl (X.and (ev' (.bool (((m.ln : Int) : Int) == (0 : Int))) rfl rfl) (ev' (gv ((((m.ln : Int) : Int) == (0 : Int)) == true) (.bool (((m.vn : Int) : Int) == (0 : Int)))) rfl rfl)) ?_
          intro q104 eq104
          refine W.val rfl rfl (X.move (ev' (.bool q104) rfl rfl)) ?_
          refine W.gq rfl rfl rfl rfl rfl (fun _ => (X.fieldAddr (ev' (.pointer (some ⟨b2, 0, none⟩)) rfl s97) fo30_10 (b := ⟨b2, 10, none⟩) (Addr.add_lit _ _ _))) ?_
          refine W.gq rfl rfl rfl rfl rfl (fun hc => (X.load (ev' (.pointer (some ⟨b2, 10, none⟩)) rfl (gvt hc rfl)) pt26 (Blk.lc h103 (Msg.arr10 _)))) ?_
          refine W.gq rfl rfl rfl rfl rfl (fun hc => (X.len (ev' (.slice m.ra m.rn m.rc) rfl (gvt hc rfl)) st26)) ?_
          refine W.gq rfl rfl rfl rfl rfl (fun hc => (X.eql (ev' (.int .i64 (m.rn : Int)) rfl (gvt hc rfl)) (evc' (.int .i64 0)))) ?_
          refine W.val rfl rfl (X.and (ev' (.bool q104) rfl rfl) (ev' (gv (q104 == true) (.bool (((m.rn : Int) : Int) == (0 : Int)))) rfl rfl)) ?_
          refine W.val rfl rfl (X.move (ev' (.bool (q104 && (((m.rn : Int) : Int) == (0 : Int)))) rfl rfl)) ?_
          refine W.gq rfl rfl rfl rfl rfl (fun _ => (X.fieldAddr (ev' (.pointer (some ⟨b2, 0, none⟩)) rfl s97) fo30_11 (b := ⟨b2, 11, none⟩) (Addr.add_lit _ _ _))) ?_
          refine W.gq rfl rfl rfl rfl rfl (fun hc => (X.loadR (ev' (.pointer (some ⟨b2, 11, none⟩)) rfl (gvt hc rfl)) rt28 (row_blk_seal h103) rfl)) ?_
          refine W.gq rfl rfl rfl rfl rfl (fun _ => X.build28) ?_
          refine W.gq rfl rfl rfl rfl rfl (fun hc => (X.eqlSeal (ev' (.agg (sealArr m.sl)) rfl (gvt hc rfl)) (ev' (.agg (sealArr Msg.zero.sl)) rfl (gvt hc rfl)))) ?_
          refine W.valN rfl rfl (X.and (ev' (.bool (q104 && (((m.rn : Int) : Int) == (0 : Int)))) rfl rfl) (ev' (gv ((q104 && (((m.rn : Int) : Int) == (0 : Int))) == true) (.bool (m.sl == Msg.zero.sl))) rfl rfl)) ?_
          intro q105 eq105
          refine W.val rfl rfl (X.assign (ev' (.bool q105) rfl rfl)) ?_
          refine W.nil ?_
          refine then_n ?_
          refine W.fresh ?_
          intro r106 er107
          have s108 : r106 2 = .bool q105 := (congrFun er107 2).trans rfl
          clear er107
          refine W.ret (retT rfl rfl (show _ = (.bool q105 : Value) from s108) ⟨?_, R94⟩)
          exact congrArg Value.bool (right_c_p6 _ _ _ _ _ _ _ _ eq19 eq25 k30 eq41 eq50 k55 eq64 k70 k99 eq104 eq105)

theorem of_c_p1 : ∀ (m : Msg) (q19 q25 q33 q42 : Bool), q19 = ((!(decide (1 ≤ m.kind ∧ m.kind ≤ 4))) || (!(decide (0 ≤ m.frm ∧ m.frm ≤ 11)))) → q25 = ((q19 || (!(decide (0 ≤ m.to ∧ m.to ≤ 11)))) || ((m.frm : Int) == (m.to : Int))) → q33 = ((q25 || (!(decide (0 ≤ m.no ∧ m.no ≤ 4095)))) || (!(decide (0 ≤ m.item ∧ m.item ≤ 31)))) → q42 = ((q33 || (!(decide (1 ≤ m.amount ∧ m.amount ≤ 1048576)))) || (!(decide (0 ≤ m.day ∧ m.day ≤ 1023)))) → (q42) = true → (false) = ok m := by intros; first | grind (splits := 30) [ok, OkMsg] | (subst_vars; rw [Bool.eq_iff_iff]; simp [ok, OkMsg] at * <;> grind)
theorem of_c_p2 : ∀ (m : Msg) (q19 q25 q33 q42 q52 : Bool), q19 = ((!(decide (1 ≤ m.kind ∧ m.kind ≤ 4))) || (!(decide (0 ≤ m.frm ∧ m.frm ≤ 11)))) → q25 = ((q19 || (!(decide (0 ≤ m.to ∧ m.to ≤ 11)))) || ((m.frm : Int) == (m.to : Int))) → q33 = ((q25 || (!(decide (0 ≤ m.no ∧ m.no ≤ 4095)))) || (!(decide (0 ≤ m.item ∧ m.item ≤ 31)))) → q42 = ((q33 || (!(decide (1 ≤ m.amount ∧ m.amount ≤ 1048576)))) || (!(decide (0 ≤ m.day ∧ m.day ≤ 1023)))) → (q42) = false → q52 = (((m.kind : Int) == (1 : Int)) || ((m.kind : Int) == (2 : Int))) → (q52 && ((m.label : Int) != (0 : Int))) = true → (false) = ok m := by intros; first | grind (splits := 30) [ok, OkMsg] | (subst_vars; rw [Bool.eq_iff_iff]; simp [ok, OkMsg] at * <;> grind)
theorem of_c_p3 : ∀ (m : Msg) (q19 q25 q33 q42 q52 q65 q66 : Bool), q19 = ((!(decide (1 ≤ m.kind ∧ m.kind ≤ 4))) || (!(decide (0 ≤ m.frm ∧ m.frm ≤ 11)))) → q25 = ((q19 || (!(decide (0 ≤ m.to ∧ m.to ≤ 11)))) || ((m.frm : Int) == (m.to : Int))) → q33 = ((q25 || (!(decide (0 ≤ m.no ∧ m.no ≤ 4095)))) || (!(decide (0 ≤ m.item ∧ m.item ≤ 31)))) → q42 = ((q33 || (!(decide (1 ≤ m.amount ∧ m.amount ≤ 1048576)))) || (!(decide (0 ≤ m.day ∧ m.day ≤ 1023)))) → (q42) = false → q52 = (((m.kind : Int) == (1 : Int)) || ((m.kind : Int) == (2 : Int))) → (q52 && ((m.label : Int) != (0 : Int))) = false → q65 = ((decide (0 ≤ m.label ∧ m.label ≤ 4095)) && (((m.ln : Int) : Int) == (0 : Int))) → q66 = ((q65 && (((m.vn : Int) : Int) == (0 : Int))) && (((m.rn : Int) : Int) == (0 : Int))) → (q66 && (m.sl == Msg.zero.sl)) = ok m := by intros; first | grind (splits := 30) [ok, OkMsg] | (subst_vars; rw [Bool.eq_iff_iff]; simp [ok, OkMsg] at * <;> grind)
theorem of_c (m : Msg) (w : World) : Calls Try.prog 39 #[.agg m.arr] w (Ret fun v w' => v = .bool (ok m) ∧ Grow w w') := by
  refine enter (N := 90) Try.func39 rfl Try.ntmps39 rfl ?_
  intro ρ hρ
  have a0 : ρ 0 = .agg m.arr := hρ 0 _ rfl
  clear hρ
  have R0 : Grow w w := Chg.refl w
  refine W.seq ?_
  refine W.reg ?_
  refine W.eff rfl rfl (Y.box (cs := m.arr) (ev' (.agg m.arr) rfl a0) rfl) ?_
  rintro _ w1 ⟨b2, rfl, g3, hB4, lt5⟩
  have l6 := Nat.le_trans R0.size lt5
  have R7 := R0.gr g3
  refine W.val rfl rfl (X.assign (evc' (.bool false))) ?_
  refine W.nil ?_
  refine then_n ?_
  refine W.fresh ?_
  intro r9 er10
  have s11 : r9 1 = .pointer (some ⟨b2, 0, none⟩) := (congrFun er10 1).trans rfl
  clear er10
  refine W.seq ?_
  refine W.seq ?_
  refine W.reg ?_
  refine W.val rfl rfl (X.fieldAddr (ev' (.pointer (some ⟨b2, 0, none⟩)) rfl s11) fo30_0 (b := ⟨b2, 0, none⟩) (Addr.add_lit _ _ _)) ?_
  refine W.val rfl rfl (X.load (ev' (.pointer (some ⟨b2, 0, none⟩)) rfl rfl) pt3 (Blk.lc hB4 (Msg.arr0 _))) ?_
  refine W.call rfl rfl (X.callF go66 (args3 (ev' (.int .i64 m.kind) rfl rfl) (evc' (.int .i64 1)) (evc' (.int .i64 4)))) (in_c m.kind 1 4 _) ?_
  rintro _ w12 ⟨rfl, g13⟩
  have R14 := R7.gr g13
  refine W.val rfl rfl (X.not (ev' (.bool (decide (1 ≤ m.kind ∧ m.kind ≤ 4))) rfl rfl)) ?_
  refine W.val rfl rfl (X.move (ev' (.bool (!(decide (1 ≤ m.kind ∧ m.kind ≤ 4)))) rfl rfl)) ?_
  refine W.gq rfl rfl rfl rfl rfl (fun _ => (X.fieldAddr (ev' (.pointer (some ⟨b2, 0, none⟩)) rfl s11) fo30_1 (b := ⟨b2, 1, none⟩) (Addr.add_lit _ _ _))) ?_
  have h15 := hB4.gr g13
  refine W.gq rfl rfl rfl rfl rfl (fun hc => (X.load (ev' (.pointer (some ⟨b2, 1, none⟩)) rfl (gvt hc rfl)) pt3 (Blk.lc h15 (Msg.arr1 _)))) ?_
  refine W.gcallS rfl rfl rfl rfl rfl (fun hc => X.callF go45 (args1 (ev' (.int .i64 m.frm) rfl (gvt hc rfl)))) (fun _ => (firm_c m.frm _)) ?_
  intro w16 g17
  have R18 := R14.gr g17
  refine W.gq rfl rfl rfl rfl rfl (fun hc => (X.not (ev' (.bool (decide (0 ≤ m.frm ∧ m.frm ≤ 11))) rfl (gvt hc rfl)))) ?_
  refine W.valN rfl rfl (X.or (ev' (.bool (!(decide (1 ≤ m.kind ∧ m.kind ≤ 4)))) rfl rfl) (ev' (gv ((!(decide (1 ≤ m.kind ∧ m.kind ≤ 4))) == false) (.bool (!(decide (0 ≤ m.frm ∧ m.frm ≤ 11))))) rfl rfl)) ?_
  intro q19 eq19
  refine W.val rfl rfl (X.move (ev' (.bool q19) rfl rfl)) ?_
  refine W.gq rfl rfl rfl rfl rfl (fun _ => (X.fieldAddr (ev' (.pointer (some ⟨b2, 0, none⟩)) rfl s11) fo30_2 (b := ⟨b2, 2, none⟩) (Addr.add_lit _ _ _))) ?_
  have h20 := h15.gr g17
  refine W.gq rfl rfl rfl rfl rfl (fun hc => (X.load (ev' (.pointer (some ⟨b2, 2, none⟩)) rfl (gvt hc rfl)) pt3 (Blk.lc h20 (Msg.arr2 _)))) ?_
  refine W.gcallS rfl rfl rfl rfl rfl (fun hc => X.callF go45 (args1 (ev' (.int .i64 m.to) rfl (gvt hc rfl)))) (fun _ => (firm_c m.to _)) ?_
  intro w21 g22
  have R23 := R18.gr g22
  refine W.gq rfl rfl rfl rfl rfl (fun hc => (X.not (ev' (.bool (decide (0 ≤ m.to ∧ m.to ≤ 11))) rfl (gvt hc rfl)))) ?_
  refine W.val rfl rfl (X.or (ev' (.bool q19) rfl rfl) (ev' (gv (q19 == false) (.bool (!(decide (0 ≤ m.to ∧ m.to ≤ 11))))) rfl rfl)) ?_
  refine W.val rfl rfl (X.move (ev' (.bool (q19 || (!(decide (0 ≤ m.to ∧ m.to ≤ 11))))) rfl rfl)) ?_
  refine W.gq rfl rfl rfl rfl rfl (fun _ => (X.fieldAddr (ev' (.pointer (some ⟨b2, 0, none⟩)) rfl s11) fo30_1 (b := ⟨b2, 1, none⟩) (Addr.add_lit _ _ _))) ?_
  have h24 := h20.gr g22
  refine W.gq rfl rfl rfl rfl rfl (fun hc => (X.load (ev' (.pointer (some ⟨b2, 1, none⟩)) rfl (gvt hc rfl)) pt3 (Blk.lc h24 (Msg.arr1 _)))) ?_
  refine W.gq rfl rfl rfl rfl rfl (fun _ => (X.fieldAddr (ev' (.pointer (some ⟨b2, 0, none⟩)) rfl s11) fo30_2 (b := ⟨b2, 2, none⟩) (Addr.add_lit _ _ _))) ?_
  refine W.gq rfl rfl rfl rfl rfl (fun hc => (X.load (ev' (.pointer (some ⟨b2, 2, none⟩)) rfl (gvt hc rfl)) pt3 (Blk.lc h24 (Msg.arr2 _)))) ?_
  refine W.gq rfl rfl rfl rfl rfl (fun hc => (X.eql (ev' (.int .i64 m.frm) rfl (gvt hc rfl)) (ev' (.int .i64 m.to) rfl (gvt hc rfl)))) ?_
  refine W.valN rfl rfl (X.or (ev' (.bool (q19 || (!(decide (0 ≤ m.to ∧ m.to ≤ 11))))) rfl rfl) (ev' (gv ((q19 || (!(decide (0 ≤ m.to ∧ m.to ≤ 11)))) == false) (.bool ((m.frm : Int) == (m.to : Int)))) rfl rfl)) ?_
  intro q25 eq25
  refine W.val rfl rfl (X.move (ev' (.bool q25) rfl rfl)) ?_
  refine W.gq rfl rfl rfl rfl rfl (fun _ => (X.fieldAddr (ev' (.pointer (some ⟨b2, 0, none⟩)) rfl s11) fo30_3 (b := ⟨b2, 3, none⟩) (Addr.add_lit _ _ _))) ?_
  refine W.gq rfl rfl rfl rfl rfl (fun hc => (X.load (ev' (.pointer (some ⟨b2, 3, none⟩)) rfl (gvt hc rfl)) pt3 (Blk.lc h24 (Msg.arr3 _)))) ?_
  refine W.gcallS rfl rfl rfl rfl rfl (fun hc => X.callF go66 (args3 (ev' (.int .i64 m.no) rfl (gvt hc rfl)) (evc' (.int .i64 0)) (evc' (.int .i64 4095)))) (fun _ => (in_c m.no 0 4095 _)) ?_
  intro w26 g27
  have R28 := R23.gr g27
  refine W.gq rfl rfl rfl rfl rfl (fun hc => (X.not (ev' (.bool (decide (0 ≤ m.no ∧ m.no ≤ 4095))) rfl (gvt hc rfl)))) ?_
  refine W.val rfl rfl (X.or (ev' (.bool q25) rfl rfl) (ev' (gv (q25 == false) (.bool (!(decide (0 ≤ m.no ∧ m.no ≤ 4095))))) rfl rfl)) ?_
  refine W.val rfl rfl (X.move (ev' (.bool (q25 || (!(decide (0 ≤ m.no ∧ m.no ≤ 4095))))) rfl rfl)) ?_
  refine W.gq rfl rfl rfl rfl rfl (fun _ => (X.fieldAddr (ev' (.pointer (some ⟨b2, 0, none⟩)) rfl s11) fo30_4 (b := ⟨b2, 4, none⟩) (Addr.add_lit _ _ _))) ?_
  have h29 := h24.gr g27
  refine W.gq rfl rfl rfl rfl rfl (fun hc => (X.load (ev' (.pointer (some ⟨b2, 4, none⟩)) rfl (gvt hc rfl)) pt3 (Blk.lc h29 (Msg.arr4 _)))) ?_
  refine W.gcallS rfl rfl rfl rfl rfl (fun hc => X.callF go66 (args3 (ev' (.int .i64 m.item) rfl (gvt hc rfl)) (evc' (.int .i64 0)) (evc' (.int .i64 31)))) (fun _ => (in_c m.item 0 31 _)) ?_
  intro w30 g31
  have R32 := R28.gr g31
  refine W.gq rfl rfl rfl rfl rfl (fun hc => (X.not (ev' (.bool (decide (0 ≤ m.item ∧ m.item ≤ 31))) rfl (gvt hc rfl)))) ?_
  refine W.valN rfl rfl (X.or (ev' (.bool (q25 || (!(decide (0 ≤ m.no ∧ m.no ≤ 4095))))) rfl rfl) (ev' (gv ((q25 || (!(decide (0 ≤ m.no ∧ m.no ≤ 4095)))) == false) (.bool (!(decide (0 ≤ m.item ∧ m.item ≤ 31))))) rfl rfl)) ?_
  intro q33 eq33
  refine W.val rfl rfl (X.move (ev' (.bool q33) rfl rfl)) ?_
  refine W.gq rfl rfl rfl rfl rfl (fun _ => (X.fieldAddr (ev' (.pointer (some ⟨b2, 0, none⟩)) rfl s11) fo30_5 (b := ⟨b2, 5, none⟩) (Addr.add_lit _ _ _))) ?_
  have h34 := h29.gr g31
  refine W.gq rfl rfl rfl rfl rfl (fun hc => (X.load (ev' (.pointer (some ⟨b2, 5, none⟩)) rfl (gvt hc rfl)) pt3 (Blk.lc h34 (Msg.arr5 _)))) ?_
  refine W.gcallS rfl rfl rfl rfl rfl (fun hc => X.callF go66 (args3 (ev' (.int .i64 m.amount) rfl (gvt hc rfl)) (evc' (.int .i64 1)) (evc' (.int .i64 1048576)))) (fun _ => (in_c m.amount 1 1048576 _)) ?_
  intro w35 g36
  have R37 := R32.gr g36
  refine W.gq rfl rfl rfl rfl rfl (fun hc => (X.not (ev' (.bool (decide (1 ≤ m.amount ∧ m.amount ≤ 1048576))) rfl (gvt hc rfl)))) ?_
  refine W.val rfl rfl (X.or (ev' (.bool q33) rfl rfl) (ev' (gv (q33 == false) (.bool (!(decide (1 ≤ m.amount ∧ m.amount ≤ 1048576))))) rfl rfl)) ?_
  refine W.val rfl rfl (X.move (ev' (.bool (q33 || (!(decide (1 ≤ m.amount ∧ m.amount ≤ 1048576))))) rfl rfl)) ?_
  refine W.gq rfl rfl rfl rfl rfl (fun _ => (X.fieldAddr (ev' (.pointer (some ⟨b2, 0, none⟩)) rfl s11) fo30_6 (b := ⟨b2, 6, none⟩) (Addr.add_lit _ _ _))) ?_
  have h38 := h34.gr g36
  refine W.gq rfl rfl rfl rfl rfl (fun hc => (X.load (ev' (.pointer (some ⟨b2, 6, none⟩)) rfl (gvt hc rfl)) pt3 (Blk.lc h38 (Msg.arr6 _)))) ?_
  refine W.gcallS rfl rfl rfl rfl rfl (fun hc => X.callF go66 (args3 (ev' (.int .i64 m.day) rfl (gvt hc rfl)) (evc' (.int .i64 0)) (evc' (.int .i64 1023)))) (fun _ => (in_c m.day 0 1023 _)) ?_
  intro w39 g40
  have R41 := R37.gr g40
  refine W.gq rfl rfl rfl rfl rfl (fun hc => (X.not (ev' (.bool (decide (0 ≤ m.day ∧ m.day ≤ 1023))) rfl (gvt hc rfl)))) ?_
  refine W.valN rfl rfl (X.or (ev' (.bool (q33 || (!(decide (1 ≤ m.amount ∧ m.amount ≤ 1048576))))) rfl rfl) (ev' (gv ((q33 || (!(decide (1 ≤ m.amount ∧ m.amount ≤ 1048576)))) == false) (.bool (!(decide (0 ≤ m.day ∧ m.day ≤ 1023))))) rfl rfl)) ?_
  intro q42 eq42
  refine W.nil ?_
  refine then_n ?_
  refine W.fresh ?_
  intro r43 er44
  have s45 : r43 1 = .pointer (some ⟨b2, 0, none⟩) := (congrFun er44 1).trans s11
  have s46 : r43 49 = .bool q42 := (congrFun er44 49).trans rfl
  clear er44
  refine W.cond rfl s46 (fun k47 => ?_) (fun k47 => ?_)
  · skip
    refine W.seq ?_
    refine W.reg ?_
    refine W.val rfl rfl (X.assign (evc' (.bool false))) ?_
    refine W.nil ?_
    refine then_n ?_
    refine W.fresh ?_
    intro r48 er49
    have s50 : r48 2 = .bool false := (congrFun er49 2).trans rfl
    clear er49
    refine W.ret (then_r (retT rfl rfl (show _ = (.bool false : Value) from s50) ⟨?_, R41⟩))
    exact congrArg Value.bool (of_c_p1 _ _ _ _ _ eq19 eq25 eq33 eq42 k47)
  · skip
    refine W.skip ?_
    refine then_n ?_
    refine W.seq ?_
    refine W.seq ?_
    refine W.reg ?_
    refine W.val rfl rfl (X.fieldAddr (ev' (.pointer (some ⟨b2, 0, none⟩)) rfl s45) fo30_0 (b := ⟨b2, 0, none⟩) (Addr.add_lit _ _ _)) ?_
    have h51 := h38.gr g40
    refine W.val rfl rfl (X.load (ev' (.pointer (some ⟨b2, 0, none⟩)) rfl rfl) pt3 (Blk.lc h51 (Msg.arr0 _))) ?_
    refine W.val rfl rfl (X.eql (ev' (.int .i64 m.kind) rfl rfl) (evc' (.int .i64 1))) ?_
    refine W.val rfl rfl (X.move (ev' (.bool ((m.kind : Int) == (1 : Int))) rfl rfl)) ?_
    refine W.gq rfl rfl rfl rfl rfl (fun _ => (X.fieldAddr (ev' (.pointer (some ⟨b2, 0, none⟩)) rfl s45) fo30_0 (b := ⟨b2, 0, none⟩) (Addr.add_lit _ _ _))) ?_
    refine W.gq rfl rfl rfl rfl rfl (fun hc => (X.load (ev' (.pointer (some ⟨b2, 0, none⟩)) rfl (gvt hc rfl)) pt3 (Blk.lc h51 (Msg.arr0 _)))) ?_
    refine W.gq rfl rfl rfl rfl rfl (fun hc => (X.eql (ev' (.int .i64 m.kind) rfl (gvt hc rfl)) (evc' (.int .i64 2)))) ?_
    refine W.valN rfl rfl (X.or (ev' (.bool ((m.kind : Int) == (1 : Int))) rfl rfl) (ev' (gv (((m.kind : Int) == (1 : Int)) == false) (.bool ((m.kind : Int) == (2 : Int)))) rfl rfl)) ?_
    intro q52 eq52
    refine W.val rfl rfl (X.move (ev' (.bool q52) rfl rfl)) ?_
    refine W.gq rfl rfl rfl rfl rfl (fun _ => (X.fieldAddr (ev' (.pointer (some ⟨b2, 0, none⟩)) rfl s45) fo30_7 (b := ⟨b2, 7, none⟩) (Addr.add_lit _ _ _))) ?_
    refine W.gq rfl rfl rfl rfl rfl (fun hc => (X.load (ev' (.pointer (some ⟨b2, 7, none⟩)) rfl (gvt hc rfl)) pt3 (Blk.lc h51 (Msg.arr7 _)))) ?_
    refine W.gq rfl rfl rfl rfl rfl (fun hc => (X.neq (ev' (.int .i64 m.label) rfl (gvt hc rfl)) (evc' (.int .i64 0)))) ?_
    refine W.val rfl rfl (X.and (ev' (.bool q52) rfl rfl) (ev' (gv (q52 == true) (.bool ((m.label : Int) != (0 : Int)))) rfl rfl)) ?_
    refine W.nil ?_
    refine then_n ?_
    refine W.fresh ?_
    intro r53 er54
    have s55 : r53 1 = .pointer (some ⟨b2, 0, none⟩) := (congrFun er54 1).trans s45
    have s56 : r53 62 = .bool (q52 && ((m.label : Int) != (0 : Int))) := (congrFun er54 62).trans rfl
    clear er54
    refine W.cond rfl s56 (fun k57 => ?_) (fun k57 => ?_)
    · skip
      refine W.seq ?_
      refine W.reg ?_
      refine W.val rfl rfl (X.assign (evc' (.bool false))) ?_
      refine W.nil ?_
      refine then_n ?_
      refine W.fresh ?_
      intro r58 er59
      have s60 : r58 2 = .bool false := (congrFun er59 2).trans rfl
      clear er59
      refine W.ret (then_r (retT rfl rfl (show _ = (.bool false : Value) from s60) ⟨?_, R41⟩))
      exact congrArg Value.bool (of_c_p2 _ _ _ _ _ _ eq19 eq25 eq33 eq42 k47 eq52 k57)
    · skip
      refine W.skip ?_
      refine then_n ?_
      refine W.seq ?_
      refine W.reg ?_
      refine W.val rfl rfl (X.fieldAddr (ev' (.pointer (some ⟨b2, 0, none⟩)) rfl s55) fo30_7 (b := ⟨b2, 7, none⟩) (Addr.add_lit _ _ _)) ?_
      refine W.val rfl rfl (X.load (ev' (.pointer (some ⟨b2, 7, none⟩)) rfl rfl) pt3 (Blk.lc h51 (Msg.arr7 _))) ?_
      refine W.call rfl rfl (X.callF go66 (args3 (ev' (.int .i64 m.label) rfl rfl) (evc' (.int .i64 0)) (evc' (.int .i64 4095)))) (in_c m.label 0 4095 _) ?_
      rintro _ w61 ⟨rfl, g62⟩
      have R63 := R41.gr g62
      refine W.val rfl rfl (X.move (ev' (.bool (decide (0 ≤ m.label ∧ m.label ≤ 4095))) rfl rfl)) ?_
      refine W.gq rfl rfl rfl rfl rfl (fun _ => (X.fieldAddr (ev' (.pointer (some ⟨b2, 0, none⟩)) rfl s55) fo30_8 (b := ⟨b2, 8, none⟩) (Addr.add_lit _ _ _))) ?_
      have h64 := h51.gr g62
      refine W.gq rfl rfl rfl rfl rfl (fun hc => (X.load (ev' (.pointer (some ⟨b2, 8, none⟩)) rfl (gvt hc rfl)) pt25 (Blk.lc h64 (Msg.arr8 _)))) ?_
      refine W.gq rfl rfl rfl rfl rfl (fun hc => (X.len (ev' (.slice m.la m.ln m.lc) rfl (gvt hc rfl)) st25)) ?_
      refine W.gq rfl rfl rfl rfl rfl (fun hc => (X.eql (ev' (.int .i64 (m.ln : Int)) rfl (gvt hc rfl)) (evc' (.int .i64 0)))) ?_
      refine W.valN rfl rfl (X.and (ev' (.bool (decide (0 ≤ m.label ∧ m.label ≤ 4095))) rfl rfl) (ev' (gv ((decide (0 ≤ m.label ∧ m.label ≤ 4095)) == true) (.bool (((m.ln : Int) : Int) == (0 : Int)))) rfl rfl)) ?_
      intro q65 eq65
      refine W.val rfl rfl (X.move (ev' (.bool q65) rfl rfl)) ?_
      refine W.gq rfl rfl rfl rfl rfl (fun _ => (X.fieldAddr (ev' (.pointer (some ⟨b2, 0, none⟩)) rfl s55) fo30_9 (b := ⟨b2, 9, none⟩) (Addr.add_lit _ _ _))) ?_
      refine W.gq rfl rfl rfl rfl rfl (fun hc => (X.load (ev' (.pointer (some ⟨b2, 9, none⟩)) rfl (gvt hc rfl)) pt25 (Blk.lc h64 (Msg.arr9 _)))) ?_
      refine W.gq rfl rfl rfl rfl rfl (fun hc => (X.len (ev' (.slice m.va m.vn m.vc) rfl (gvt hc rfl)) st25)) ?_
      refine W.gq rfl rfl rfl rfl rfl (fun hc => (X.eql (ev' (.int .i64 (m.vn : Int)) rfl (gvt hc rfl)) (evc' (.int .i64 0)))) ?_
      refine W.val rfl rfl (X.and (ev' (.bool q65) rfl rfl) (ev' (gv (q65 == true) (.bool (((m.vn : Int) : Int) == (0 : Int)))) rfl rfl)) ?_
      refine W.val rfl rfl (X.move (ev' (.bool (q65 && (((m.vn : Int) : Int) == (0 : Int)))) rfl rfl)) ?_
      refine W.gq rfl rfl rfl rfl rfl (fun _ => (X.fieldAddr (ev' (.pointer (some ⟨b2, 0, none⟩)) rfl s55) fo30_10 (b := ⟨b2, 10, none⟩) (Addr.add_lit _ _ _))) ?_
      refine W.gq rfl rfl rfl rfl rfl (fun hc => (X.load (ev' (.pointer (some ⟨b2, 10, none⟩)) rfl (gvt hc rfl)) pt26 (Blk.lc h64 (Msg.arr10 _)))) ?_
      refine W.gq rfl rfl rfl rfl rfl (fun hc => (X.len (ev' (.slice m.ra m.rn m.rc) rfl (gvt hc rfl)) st26)) ?_
      refine W.gq rfl rfl rfl rfl rfl (fun hc => (X.eql (ev' (.int .i64 (m.rn : Int)) rfl (gvt hc rfl)) (evc' (.int .i64 0)))) ?_
      refine W.valN rfl rfl (X.and (ev' (.bool (q65 && (((m.vn : Int) : Int) == (0 : Int)))) rfl rfl) (ev' (gv ((q65 && (((m.vn : Int) : Int) == (0 : Int))) == true) (.bool (((m.rn : Int) : Int) == (0 : Int)))) rfl rfl)) ?_
      intro q66 eq66
      refine W.val rfl rfl (X.move (ev' (.bool q66) rfl rfl)) ?_
      refine W.gq rfl rfl rfl rfl rfl (fun _ => (X.fieldAddr (ev' (.pointer (some ⟨b2, 0, none⟩)) rfl s55) fo30_11 (b := ⟨b2, 11, none⟩) (Addr.add_lit _ _ _))) ?_
      refine W.gq rfl rfl rfl rfl rfl (fun hc => (X.loadR (ev' (.pointer (some ⟨b2, 11, none⟩)) rfl (gvt hc rfl)) rt28 (row_blk_seal h64) rfl)) ?_
      refine W.gq rfl rfl rfl rfl rfl (fun _ => X.build28) ?_
      refine W.gq rfl rfl rfl rfl rfl (fun hc => (X.eqlSeal (ev' (.agg (sealArr m.sl)) rfl (gvt hc rfl)) (ev' (.agg (sealArr Msg.zero.sl)) rfl (gvt hc rfl)))) ?_
      refine W.val rfl rfl (X.and (ev' (.bool q66) rfl rfl) (ev' (gv (q66 == true) (.bool (m.sl == Msg.zero.sl))) rfl rfl)) ?_
      refine W.val rfl rfl (X.assign (ev' (.bool (q66 && (m.sl == Msg.zero.sl))) rfl rfl)) ?_
      refine W.nil ?_
      refine then_n ?_
      refine W.fresh ?_
      intro r67 er68
      have s69 : r67 2 = .bool (q66 && (m.sl == Msg.zero.sl)) := (congrFun er68 2).trans rfl
      clear er68
      refine W.ret (retT rfl rfl (show _ = (.bool (q66 && (m.sl == Msg.zero.sl)) : Value) from s69) ⟨?_, R63⟩)
      exact congrArg Value.bool (of_c_p3 _ _ _ _ _ _ _ _ eq19 eq25 eq33 eq42 k47 eq52 k57 eq65 eq66)

theorem nums_c (m : Msg) (w : World) : Calls Try.prog 67 #[.agg m.arr] w (Ret fun v w' => v = .agg (numArr m) ∧ Grow w w') := by
  refine enter (N := 20) Try.func67 rfl Try.ntmps67 rfl ?_
  intro ρ hρ
  have a0 : ρ 0 = .agg m.arr := hρ 0 _ rfl
  clear hρ
  have R0 : Grow w w := Chg.refl w
  refine W.seq ?_
  refine W.reg ?_
  refine W.eff rfl rfl (Y.box (cs := m.arr) (ev' (.agg m.arr) rfl a0) rfl) ?_
  rintro _ w1 ⟨b2, rfl, g3, hB4, lt5⟩
  have l6 := Nat.le_trans R0.size lt5
  have R7 := R0.gr g3
  refine W.eff rfl rfl (Y.alloc (cs := numArr Msg.zero) zero118 rfl) ?_
  rintro _ w9 ⟨b10, rfl, g11, hB12, lt13⟩
  have ne14 := hB4.ne lt13
  have l15 := Nat.le_trans R7.size lt13
  have R16 := R7.gr g11
  refine W.nil ?_
  refine then_n ?_
  refine W.fresh ?_
  intro r18 er19
  have s20 : r18 1 = .pointer (some ⟨b2, 0, none⟩) := (congrFun er19 1).trans rfl
  have s21 : r18 2 = .pointer (some ⟨b10, 0, none⟩) := (congrFun er19 2).trans rfl
  clear er19
  refine W.seq ?_
  refine W.reg ?_
  refine W.val rfl rfl (X.fieldAddr (ev' (.pointer (some ⟨b2, 0, none⟩)) rfl s20) fo30_0 (b := ⟨b2, 0, none⟩) (Addr.add_lit _ _ _)) ?_
  have h22 := hB4.gr g11
  refine W.val rfl rfl (X.load (ev' (.pointer (some ⟨b2, 0, none⟩)) rfl rfl) pt3 (Blk.lc h22 (Msg.arr0 _))) ?_
  refine W.val rfl rfl (X.fieldAddr (ev' (.pointer (some ⟨b2, 0, none⟩)) rfl s20) fo30_1 (b := ⟨b2, 1, none⟩) (Addr.add_lit _ _ _)) ?_
  refine W.val rfl rfl (X.load (ev' (.pointer (some ⟨b2, 1, none⟩)) rfl rfl) pt3 (Blk.lc h22 (Msg.arr1 _))) ?_
  refine W.val rfl rfl (X.fieldAddr (ev' (.pointer (some ⟨b2, 0, none⟩)) rfl s20) fo30_2 (b := ⟨b2, 2, none⟩) (Addr.add_lit _ _ _)) ?_
  refine W.val rfl rfl (X.load (ev' (.pointer (some ⟨b2, 2, none⟩)) rfl rfl) pt3 (Blk.lc h22 (Msg.arr2 _))) ?_
  refine W.val rfl rfl (X.fieldAddr (ev' (.pointer (some ⟨b2, 0, none⟩)) rfl s20) fo30_3 (b := ⟨b2, 3, none⟩) (Addr.add_lit _ _ _)) ?_
  refine W.val rfl rfl (X.load (ev' (.pointer (some ⟨b2, 3, none⟩)) rfl rfl) pt3 (Blk.lc h22 (Msg.arr3 _))) ?_
  refine W.val rfl rfl (X.fieldAddr (ev' (.pointer (some ⟨b2, 0, none⟩)) rfl s20) fo30_4 (b := ⟨b2, 4, none⟩) (Addr.add_lit _ _ _)) ?_
  refine W.val rfl rfl (X.load (ev' (.pointer (some ⟨b2, 4, none⟩)) rfl rfl) pt3 (Blk.lc h22 (Msg.arr4 _))) ?_
  refine W.val rfl rfl (X.fieldAddr (ev' (.pointer (some ⟨b2, 0, none⟩)) rfl s20) fo30_5 (b := ⟨b2, 5, none⟩) (Addr.add_lit _ _ _)) ?_
  refine W.val rfl rfl (X.load (ev' (.pointer (some ⟨b2, 5, none⟩)) rfl rfl) pt3 (Blk.lc h22 (Msg.arr5 _))) ?_
  refine W.val rfl rfl (X.fieldAddr (ev' (.pointer (some ⟨b2, 0, none⟩)) rfl s20) fo30_6 (b := ⟨b2, 6, none⟩) (Addr.add_lit _ _ _)) ?_
  refine W.val rfl rfl (X.load (ev' (.pointer (some ⟨b2, 6, none⟩)) rfl rfl) pt3 (Blk.lc h22 (Msg.arr6 _))) ?_
  refine W.val rfl rfl (X.fieldAddr (ev' (.pointer (some ⟨b2, 0, none⟩)) rfl s20) fo30_7 (b := ⟨b2, 7, none⟩) (Addr.add_lit _ _ _)) ?_
  refine W.val rfl rfl (X.load (ev' (.pointer (some ⟨b2, 7, none⟩)) rfl rfl) pt3 (Blk.lc h22 (Msg.arr7 _))) ?_
  refine W.val rfl rfl (X.build118 (m := m) (ev' (.int .i64 m.kind) rfl rfl) (ev' (.int .i64 m.frm) rfl rfl) (ev' (.int .i64 m.to) rfl rfl) (ev' (.int .i64 m.no) rfl rfl) (ev' (.int .i64 m.item) rfl rfl) (ev' (.int .i64 m.amount) rfl rfl) (ev' (.int .i64 m.day) rfl rfl) (ev' (.int .i64 m.label) rfl rfl)) ?_
  refine W.eff0 rfl rfl (Y.storeW (ds := numArr m) (ev' (.pointer (some ⟨b10, 0, none⟩)) rfl s21) (ev' (.agg (numArr m)) rfl rfl) hB12 (n := 8) rfl sz118 rfl (numsCells _) rfl) ?_
  rintro w23 ⟨c24, hB25⟩
  have R26 := R16.stN c24 l15
  refine W.nil ?_
  refine then_n ?_
  refine W.fresh ?_
  intro r28 er29
  have s30 : r28 2 = .pointer (some ⟨b10, 0, none⟩) := (congrFun er29 2).trans s21
  clear er29
  refine W.ret (retC rfl rfl (show _ = (.pointer (some ⟨b10, 0, none⟩) : Value) from s30) (run_loadAt_row rt118 (row_blk_nums hB25)) ⟨?_, R26⟩)
  rfl

theorem ansW_c (m : Msg) (w : World) : Calls Try.prog 68 #[.agg m.arr] w (Ret fun v w' => v = .agg (ansW m).arr ∧ Grow w w') := by
  refine enter (N := 14) Try.func68 rfl Try.ntmps68 rfl ?_
  intro ρ hρ
  have a0 : ρ 0 = .agg m.arr := hρ 0 _ rfl
  clear hρ
  have R0 : Grow w w := Chg.refl w
  refine W.seq ?_
  refine W.reg ?_
  refine W.eff rfl rfl (Y.box (cs := m.arr) (ev' (.agg m.arr) rfl a0) rfl) ?_
  rintro _ w1 ⟨b2, rfl, g3, hB4, lt5⟩
  have l6 := Nat.le_trans R0.size lt5
  have R7 := R0.gr g3
  refine W.eff rfl rfl (Y.alloc (cs := Msg.zero.arr) zero30 rfl) ?_
  rintro _ w9 ⟨b10, rfl, g11, hB12, lt13⟩
  have ne14 := hB4.ne lt13
  have l15 := Nat.le_trans R7.size lt13
  have R16 := R7.gr g11
  refine W.nil ?_
  refine then_n ?_
  refine W.fresh ?_
  intro r18 er19
  have s20 : r18 1 = .pointer (some ⟨b2, 0, none⟩) := (congrFun er19 1).trans rfl
  have s21 : r18 2 = .pointer (some ⟨b10, 0, none⟩) := (congrFun er19 2).trans rfl
  clear er19
  refine W.seq ?_
  refine W.reg ?_
  refine W.val rfl rfl (X.fieldAddr (ev' (.pointer (some ⟨b2, 0, none⟩)) rfl s20) fo30_0 (b := ⟨b2, 0, none⟩) (Addr.add_lit _ _ _)) ?_
  have h22 := hB4.gr g11
  refine W.val rfl rfl (X.load (ev' (.pointer (some ⟨b2, 0, none⟩)) rfl rfl) pt3 (Blk.lc h22 (Msg.arr0 _))) ?_
  refine W.val rfl rfl (X.add (ev' (.int .i64 m.kind) rfl rfl) (evc' (.int .i64 1))) ?_
  refine W.val rfl rfl (X.fieldAddr (ev' (.pointer (some ⟨b2, 0, none⟩)) rfl s20) fo30_0 (b := ⟨b2, 0, none⟩) (Addr.add_lit _ _ _)) ?_
  refine W.eff0 rfl rfl (Y.storeC (ds := ({ m with kind := IntKind.i64.wrap (m.kind + 1) } : Msg).arr) (ev' (.pointer (some ⟨b2, 0, none⟩)) rfl rfl) (ev' (.int .i64 (IntKind.i64.wrap (m.kind + 1))) rfl rfl) h22 (by rw [Msg.size_arr]; decide) sz3 rfl rfl (Msg.set0 _ _)) ?_
  rintro w23 ⟨c24, hB25⟩
  have R26 := R16.stN c24 l6
  refine W.nil ?_
  refine then_n ?_
  refine W.fresh ?_
  intro r28 er29
  have s30 : r28 1 = .pointer (some ⟨b2, 0, none⟩) := (congrFun er29 1).trans s20
  have s31 : r28 2 = .pointer (some ⟨b10, 0, none⟩) := (congrFun er29 2).trans s21
  clear er29
  refine W.seq ?_
  refine W.reg ?_
  refine W.val rfl rfl (X.fieldAddr (ev' (.pointer (some ⟨b2, 0, none⟩)) rfl s30) fo30_2 (b := ⟨b2, 2, none⟩) (Addr.add_lit _ _ _)) ?_
  refine W.val rfl rfl (X.load (ev' (.pointer (some ⟨b2, 2, none⟩)) rfl rfl) pt3 (Blk.lc hB25 (Msg.arr2 _))) ?_
  refine W.val rfl rfl (X.fieldAddr (ev' (.pointer (some ⟨b2, 0, none⟩)) rfl s30) fo30_1 (b := ⟨b2, 1, none⟩) (Addr.add_lit _ _ _)) ?_
  refine W.val rfl rfl (X.load (ev' (.pointer (some ⟨b2, 1, none⟩)) rfl rfl) pt3 (Blk.lc hB25 (Msg.arr1 _))) ?_
  refine W.val rfl rfl (X.fieldAddr (ev' (.pointer (some ⟨b2, 0, none⟩)) rfl s30) fo30_1 (b := ⟨b2, 1, none⟩) (Addr.add_lit _ _ _)) ?_
  refine W.eff0 rfl rfl (Y.storeC (ds := ({ ({ m with kind := IntKind.i64.wrap (m.kind + 1) } : Msg) with frm := ({ m with kind := IntKind.i64.wrap (m.kind + 1) } : Msg).to } : Msg).arr) (ev' (.pointer (some ⟨b2, 1, none⟩)) rfl rfl) (ev' (.int .i64 (({ m with kind := IntKind.i64.wrap (m.kind + 1) } : Msg).to)) rfl rfl) hB25 (by rw [Msg.size_arr]; decide) sz3 rfl rfl (Msg.set1 _ _)) ?_
  rintro w32 ⟨c33, hB34⟩
  have R35 := R26.stN c33 l6
  refine W.val rfl rfl (X.fieldAddr (ev' (.pointer (some ⟨b2, 0, none⟩)) rfl s30) fo30_2 (b := ⟨b2, 2, none⟩) (Addr.add_lit _ _ _)) ?_
  refine W.eff0 rfl rfl (Y.storeC (ds := ({ ({ ({ m with kind := IntKind.i64.wrap (m.kind + 1) } : Msg) with frm := ({ m with kind := IntKind.i64.wrap (m.kind + 1) } : Msg).to } : Msg) with to := ({ m with kind := IntKind.i64.wrap (m.kind + 1) } : Msg).frm } : Msg).arr) (ev' (.pointer (some ⟨b2, 2, none⟩)) rfl rfl) (ev' (.int .i64 (({ m with kind := IntKind.i64.wrap (m.kind + 1) } : Msg).frm)) rfl rfl) hB34 (by rw [Msg.size_arr]; decide) sz3 rfl rfl (Msg.set2 _ _)) ?_
  rintro w37 ⟨c38, hB39⟩
  have R40 := R35.stN c38 l6
  refine W.nil ?_
  refine then_n ?_
  refine W.fresh ?_
  intro r42 er43
  have s44 : r42 1 = .pointer (some ⟨b2, 0, none⟩) := (congrFun er43 1).trans s30
  have s45 : r42 2 = .pointer (some ⟨b10, 0, none⟩) := (congrFun er43 2).trans s31
  clear er43
  refine W.seq ?_
  refine W.reg ?_
  refine W.val rfl rfl (X.loadR (ev' (.pointer (some ⟨b2, 0, none⟩)) rfl s44) rt30 (row_blk_msg hB39) rfl) ?_
  have h46 := hB12.st c24 ne14.symm
  have h47 := h46.st c33 ne14.symm
  have h48 := h47.st c38 ne14.symm
  refine W.eff0 rfl rfl (Y.storeW (ds := ({ ({ ({ m with kind := IntKind.i64.wrap (m.kind + 1) } : Msg) with frm := ({ m with kind := IntKind.i64.wrap (m.kind + 1) } : Msg).to } : Msg) with to := ({ m with kind := IntKind.i64.wrap (m.kind + 1) } : Msg).frm } : Msg).arr) (ev' (.pointer (some ⟨b10, 0, none⟩)) rfl s45) (ev' (.agg ({ ({ ({ m with kind := IntKind.i64.wrap (m.kind + 1) } : Msg) with frm := ({ m with kind := IntKind.i64.wrap (m.kind + 1) } : Msg).to } : Msg) with to := ({ m with kind := IntKind.i64.wrap (m.kind + 1) } : Msg).frm } : Msg).arr) rfl rfl) h48 (Msg.size_arr _) sz30 (Msg.size_arr _) (Msg.oneCellA _) rfl) ?_
  rintro w49 ⟨c50, hB51⟩
  have R52 := R40.stN c50 l15
  refine W.nil ?_
  refine then_n ?_
  refine W.fresh ?_
  intro r54 er55
  have s56 : r54 2 = .pointer (some ⟨b10, 0, none⟩) := (congrFun er55 2).trans s45
  clear er55
  refine W.ret (retC rfl rfl (show _ = (.pointer (some ⟨b10, 0, none⟩) : Value) from s56) (run_loadAt_row rt30 (row_blk_msg hB51)) ⟨?_, R52⟩)
  rfl

theorem ansR_c (m : Msg) (w : World) : Calls Try.prog 46 #[.agg m.arr] w (Ret fun v w' => v = .agg (ansR m).arr ∧ Grow w w') := by
  refine enter (N := 17) Try.func46 rfl Try.ntmps46 rfl ?_
  intro ρ hρ
  have a0 : ρ 0 = .agg m.arr := hρ 0 _ rfl
  clear hρ
  have R0 : Grow w w := Chg.refl w
  refine W.seq ?_
  refine W.reg ?_
  refine W.eff rfl rfl (Y.box (cs := m.arr) (ev' (.agg m.arr) rfl a0) rfl) ?_
  rintro _ w1 ⟨b2, rfl, g3, hB4, lt5⟩
  have l6 := Nat.le_trans R0.size lt5
  have R7 := R0.gr g3
  refine W.eff rfl rfl (Y.alloc (cs := Msg.zero.arr) zero30 rfl) ?_
  rintro _ w9 ⟨b10, rfl, g11, hB12, lt13⟩
  have ne14 := hB4.ne lt13
  have l15 := Nat.le_trans R7.size lt13
  have R16 := R7.gr g11
  refine W.nil ?_
  refine then_n ?_
  refine W.fresh ?_
  intro r18 er19
  have s20 : r18 1 = .pointer (some ⟨b2, 0, none⟩) := (congrFun er19 1).trans rfl
  have s21 : r18 2 = .pointer (some ⟨b10, 0, none⟩) := (congrFun er19 2).trans rfl
  clear er19
  refine W.seq ?_
  refine W.reg ?_
  have h22 := hB4.gr g11
  refine W.val rfl rfl (X.loadR (ev' (.pointer (some ⟨b2, 0, none⟩)) rfl s20) rt30 (row_blk_msg h22) rfl) ?_
  refine W.eff rfl rfl (Y.alloc (cs := Msg.zero.arr) zero30 rfl) ?_
  rintro _ w23 ⟨b24, rfl, g25, hB26, lt27⟩
  have ne28 := h22.ne lt27
  have ne29 := hB12.ne lt27
  have l30 := Nat.le_trans R16.size lt27
  have R31 := R16.gr g25
  refine W.eff0 rfl rfl (Y.storeW (ds := m.arr) (ev' (.pointer (some ⟨b24, 0, none⟩)) rfl rfl) (ev' (.agg m.arr) rfl rfl) hB26 (Msg.size_arr _) sz30 (Msg.size_arr _) (Msg.oneCellA _) rfl) ?_
  rintro w33 ⟨c34, hB35⟩
  have R36 := R31.stN c34 l30
  refine W.nil ?_
  refine then_n ?_
  refine W.fresh ?_
  intro r38 er39
  have s40 : r38 1 = .pointer (some ⟨b2, 0, none⟩) := (congrFun er39 1).trans s20
  have s41 : r38 2 = .pointer (some ⟨b10, 0, none⟩) := (congrFun er39 2).trans s21
  have s42 : r38 3 = .pointer (some ⟨b24, 0, none⟩) := (congrFun er39 3).trans rfl
  clear er39
  refine W.seq ?_
  refine W.reg ?_
  refine W.val rfl rfl (X.fieldAddr (ev' (.pointer (some ⟨b2, 0, none⟩)) rfl s40) fo30_2 (b := ⟨b2, 2, none⟩) (Addr.add_lit _ _ _)) ?_
  have h43 := h22.gr g25
  have h44 := h43.st c34 ne28
  refine W.val rfl rfl (X.load (ev' (.pointer (some ⟨b2, 2, none⟩)) rfl rfl) pt3 (Blk.lc h44 (Msg.arr2 _))) ?_
  refine W.val rfl rfl (X.fieldAddr (ev' (.pointer (some ⟨b24, 0, none⟩)) rfl s42) fo30_1 (b := ⟨b24, 1, none⟩) (Addr.add_lit _ _ _)) ?_
  refine W.eff0 rfl rfl (Y.storeC (ds := ({ m with frm := m.to } : Msg).arr) (ev' (.pointer (some ⟨b24, 1, none⟩)) rfl rfl) (ev' (.int .i64 m.to) rfl rfl) hB35 (by rw [Msg.size_arr]; decide) sz3 rfl rfl (Msg.set1 _ _)) ?_
  rintro w45 ⟨c46, hB47⟩
  have R48 := R36.stN c46 l30
  refine W.nil ?_
  refine then_n ?_
  refine W.fresh ?_
  intro r50 er51
  have s52 : r50 1 = .pointer (some ⟨b2, 0, none⟩) := (congrFun er51 1).trans s40
  have s53 : r50 2 = .pointer (some ⟨b10, 0, none⟩) := (congrFun er51 2).trans s41
  have s54 : r50 3 = .pointer (some ⟨b24, 0, none⟩) := (congrFun er51 3).trans s42
  clear er51
  refine W.seq ?_
  refine W.reg ?_
  refine W.val rfl rfl (X.fieldAddr (ev' (.pointer (some ⟨b2, 0, none⟩)) rfl s52) fo30_1 (b := ⟨b2, 1, none⟩) (Addr.add_lit _ _ _)) ?_
  have h55 := h44.st c46 ne28
  refine W.val rfl rfl (X.load (ev' (.pointer (some ⟨b2, 1, none⟩)) rfl rfl) pt3 (Blk.lc h55 (Msg.arr1 _))) ?_
  refine W.val rfl rfl (X.fieldAddr (ev' (.pointer (some ⟨b24, 0, none⟩)) rfl s54) fo30_2 (b := ⟨b24, 2, none⟩) (Addr.add_lit _ _ _)) ?_
  refine W.eff0 rfl rfl (Y.storeC (ds := ({ ({ m with frm := m.to } : Msg) with to := m.frm } : Msg).arr) (ev' (.pointer (some ⟨b24, 2, none⟩)) rfl rfl) (ev' (.int .i64 m.frm) rfl rfl) hB47 (by rw [Msg.size_arr]; decide) sz3 rfl rfl (Msg.set2 _ _)) ?_
  rintro w56 ⟨c57, hB58⟩
  have R59 := R48.stN c57 l30
  refine W.nil ?_
  refine then_n ?_
  refine W.fresh ?_
  intro r61 er62
  have s63 : r61 1 = .pointer (some ⟨b2, 0, none⟩) := (congrFun er62 1).trans s52
  have s64 : r61 2 = .pointer (some ⟨b10, 0, none⟩) := (congrFun er62 2).trans s53
  have s65 : r61 3 = .pointer (some ⟨b24, 0, none⟩) := (congrFun er62 3).trans s54
  clear er62
  refine W.seq ?_
  refine W.reg ?_
  refine W.val rfl rfl (X.fieldAddr (ev' (.pointer (some ⟨b24, 0, none⟩)) rfl s65) fo30_0 (b := ⟨b24, 0, none⟩) (Addr.add_lit _ _ _)) ?_
  refine W.eff0 rfl rfl (Y.storeC (ds := ({ ({ ({ m with frm := m.to } : Msg) with to := m.frm } : Msg) with kind := 4 } : Msg).arr) (ev' (.pointer (some ⟨b24, 0, none⟩)) rfl rfl) (evc' (.int .i64 4)) hB58 (by rw [Msg.size_arr]; decide) sz3 rfl rfl (Msg.set0 _ _)) ?_
  rintro w66 ⟨c67, hB68⟩
  have R69 := R59.stN c67 l30
  refine W.nil ?_
  refine then_n ?_
  refine W.fresh ?_
  intro r71 er72
  have s73 : r71 1 = .pointer (some ⟨b2, 0, none⟩) := (congrFun er72 1).trans s63
  have s74 : r71 2 = .pointer (some ⟨b10, 0, none⟩) := (congrFun er72 2).trans s64
  have s75 : r71 3 = .pointer (some ⟨b24, 0, none⟩) := (congrFun er72 3).trans s65
  clear er72
  refine W.seq ?_
  refine W.seq ?_
  refine W.reg ?_
  refine W.val rfl rfl (X.fieldAddr (ev' (.pointer (some ⟨b2, 0, none⟩)) rfl s73) fo30_0 (b := ⟨b2, 0, none⟩) (Addr.add_lit _ _ _)) ?_
  have h76 := h55.st c57 ne28
  have h77 := h76.st c67 ne28
  refine W.val rfl rfl (X.load (ev' (.pointer (some ⟨b2, 0, none⟩)) rfl rfl) pt3 (Blk.lc h77 (Msg.arr0 _))) ?_
  refine W.val rfl rfl (X.eql (ev' (.int .i64 m.kind) rfl rfl) (evc' (.int .i64 1))) ?_
  refine W.nil ?_
  refine then_n ?_
  refine W.fresh ?_
  intro r78 er79
  have s80 : r78 2 = .pointer (some ⟨b10, 0, none⟩) := (congrFun er79 2).trans s74
  have s81 : r78 3 = .pointer (some ⟨b24, 0, none⟩) := (congrFun er79 3).trans s75
  have s82 : r78 14 = .bool ((m.kind : Int) == (1 : Int)) := (congrFun er79 14).trans rfl
  clear er79
  refine W.cond rfl s82 (fun k83 => ?_) (fun k83 => ?_)
  · skip
    refine W.reg ?_
    refine W.val rfl rfl (X.fieldAddr (ev' (.pointer (some ⟨b24, 0, none⟩)) rfl s81) fo30_0 (b := ⟨b24, 0, none⟩) (Addr.add_lit _ _ _)) ?_
    refine W.eff0 rfl rfl (Y.storeC (ds := ({ ({ ({ ({ m with frm := m.to } : Msg) with to := m.frm } : Msg) with kind := 4 } : Msg) with kind := 2 } : Msg).arr) (ev' (.pointer (some ⟨b24, 0, none⟩)) rfl rfl) (evc' (.int .i64 2)) hB68 (by rw [Msg.size_arr]; decide) sz3 rfl rfl (Msg.set0 _ _)) ?_
    rintro w84 ⟨c85, hB86⟩
    have R87 := R69.stN c85 l30
    refine W.nil ?_
    refine then_n ?_
    refine W.fresh ?_
    intro r89 er90
    have s91 : r89 2 = .pointer (some ⟨b10, 0, none⟩) := (congrFun er90 2).trans s80
    have s92 : r89 3 = .pointer (some ⟨b24, 0, none⟩) := (congrFun er90 3).trans s81
    clear er90
    refine W.seq ?_
    refine W.reg ?_
    refine W.val rfl rfl (X.loadR (ev' (.pointer (some ⟨b24, 0, none⟩)) rfl s92) rt30 (row_blk_msg hB86) rfl) ?_
    have h93 := hB12.gr g25
    have h94 := h93.st c34 ne29
    have h95 := h94.st c46 ne29
    have h96 := h95.st c57 ne29
    have h97 := h96.st c67 ne29
    have h98 := h97.st c85 ne29
    refine W.eff0 rfl rfl (Y.storeW (ds := ({ ({ ({ ({ m with frm := m.to } : Msg) with to := m.frm } : Msg) with kind := 4 } : Msg) with kind := 2 } : Msg).arr) (ev' (.pointer (some ⟨b10, 0, none⟩)) rfl s91) (ev' (.agg ({ ({ ({ ({ m with frm := m.to } : Msg) with to := m.frm } : Msg) with kind := 4 } : Msg) with kind := 2 } : Msg).arr) rfl rfl) h98 (Msg.size_arr _) sz30 (Msg.size_arr _) (Msg.oneCellA _) rfl) ?_
    rintro w99 ⟨c100, hB101⟩
    have R102 := R87.stN c100 l15
    refine W.nil ?_
    refine then_n ?_
    refine W.fresh ?_
    intro r104 er105
    have s106 : r104 2 = .pointer (some ⟨b10, 0, none⟩) := (congrFun er105 2).trans s91
    clear er105
    refine W.ret (retC rfl rfl (show _ = (.pointer (some ⟨b10, 0, none⟩) : Value) from s106) (run_loadAt_row rt30 (row_blk_msg hB101)) ⟨?_, R102⟩)
    refine congrArg (fun x => Value.agg (Msg.arr x)) ?_
    have e := k83
    simp at e
    simp [ansR, e]
  · skip
    refine W.skip ?_
    refine then_n ?_
    refine W.seq ?_
    refine W.reg ?_
    refine W.val rfl rfl (X.loadR (ev' (.pointer (some ⟨b24, 0, none⟩)) rfl s81) rt30 (row_blk_msg hB68) rfl) ?_
    have h107 := hB12.gr g25
    have h108 := h107.st c34 ne29
    have h109 := h108.st c46 ne29
    have h110 := h109.st c57 ne29
    have h111 := h110.st c67 ne29
    refine W.eff0 rfl rfl (Y.storeW (ds := ({ ({ ({ m with frm := m.to } : Msg) with to := m.frm } : Msg) with kind := 4 } : Msg).arr) (ev' (.pointer (some ⟨b10, 0, none⟩)) rfl s80) (ev' (.agg ({ ({ ({ m with frm := m.to } : Msg) with to := m.frm } : Msg) with kind := 4 } : Msg).arr) rfl rfl) h111 (Msg.size_arr _) sz30 (Msg.size_arr _) (Msg.oneCellA _) rfl) ?_
    rintro w112 ⟨c113, hB114⟩
    have R115 := R69.stN c113 l15
    refine W.nil ?_
    refine then_n ?_
    refine W.fresh ?_
    intro r117 er118
    have s119 : r117 2 = .pointer (some ⟨b10, 0, none⟩) := (congrFun er118 2).trans s80
    clear er118
    refine W.ret (retC rfl rfl (show _ = (.pointer (some ⟨b10, 0, none⟩) : Value) from s119) (run_loadAt_row rt30 (row_blk_msg hB114)) ⟨?_, R115⟩)
    refine congrArg (fun x => Value.agg (Msg.arr x)) ?_
    have e := k83
    simp at e
    simp [ansR, e]

theorem clip_c {bs : List Nat} {s : SV} {ms : List Msg} (w : World) (hs : Sl bs w s ms) : Calls Try.prog 38 #[s.val] w (Ret fun v w' => v = (clip s).val ∧ Grow w w') := by
  refine enter (N := 9) Try.func38 rfl Try.ntmps38 rfl ?_
  intro ρ hρ
  have a0 : ρ 0 = s.val := hρ 0 _ rfl
  clear hρ
  have R0 : Grow w w := Chg.refl w
  refine W.seq ?_
  refine W.reg ?_
  refine W.val rfl rfl (X.assign (evc' (SV.nil.val))) ?_
  refine W.nil ?_
  refine then_n ?_
  refine W.fresh ?_
  intro r2 er3
  have s4 : r2 0 = s.val := (congrFun er3 0).trans a0
  clear er3
  refine W.seq ?_
  refine W.reg ?_
  refine W.val rfl rfl (X.move (ev' (s.val) rfl s4)) ?_
  refine W.val rfl rfl (X.move (ev' (s.val) rfl s4)) ?_
  refine W.val rfl rfl (X.len (ev' (s.val) rfl rfl) st22) ?_
  refine W.val rfl rfl (X.move (ev' (s.val) rfl s4)) ?_
  refine W.val rfl rfl (X.len (ev' (s.val) rfl rfl) st22) ?_
  refine W.val rfl rfl (X.clip (ev' (s.val) rfl rfl) (ev' (.int .i64 (s.n : Int)) rfl rfl) (ev' (.int .i64 (s.n : Int)) rfl rfl) hs.cap) ?_
  refine W.val rfl rfl (X.assign (ev' ((clip s).val) rfl rfl)) ?_
  refine W.nil ?_
  refine then_n ?_
  refine W.fresh ?_
  intro r5 er6
  have s7 : r5 2 = (clip s).val := (congrFun er6 2).trans rfl
  clear er6
  refine W.ret (retT rfl rfl (show _ = ((clip s).val : Value) from s7) ⟨?_, R0⟩)
  rfl

theorem fewL_c {bs : List Nat} {s : SV} {ms : List Msg} (w : World) (hs : Sl bs w s ms) : Calls Try.prog 35 #[s.val] w (Ret fun v w' => v = .bool (fewL ms) ∧ Grow w w') := by
  refine enter (N := 19) Try.func35 rfl Try.ntmps35 rfl ?_
  intro ρ hρ
  have a0 : ρ 0 = s.val := hρ 0 _ rfl
  clear hρ
  have R0 : Grow w w := Chg.refl w
  refine W.seq ?_
  refine W.reg ?_
  refine W.val rfl rfl (X.assign (evc' (.bool false))) ?_
  refine W.nil ?_
  refine then_n ?_
  refine W.fresh ?_
  intro r2 er3
  have s4 : r2 0 = s.val := (congrFun er3 0).trans a0
  clear er3
  refine W.seq ?_
  refine W.seq ?_
  refine W.reg ?_
  refine W.val rfl rfl (X.assign (evc' (.int .i64 0))) ?_
  refine W.nil ?_
  refine then_n ?_
  refine W.fresh ?_
  intro r5 er6
  have s7 : r5 0 = s.val := (congrFun er6 0).trans s4
  have s8 : r5 3 = .int .i64 0 := (congrFun er6 3).trans rfl
  clear er6
  refine W.block ?_
  refine W.fresh ?_
  intro r9 er10
  have s11 : r9 0 = s.val := (congrFun er10 0).trans s7
  have s12 : r9 3 = .int .i64 0 := (congrFun er10 3).trans s8
  clear er10
  refine W.count 3 s.n (fun I ρ W => I ≤ s.n ∧ ρ 3 = .int .i64 ((I : Nat) : Int) ∧ Chg [] w W ∧ ρ 0 = s.val ∧ (∀ x ∈ ms.take I, fewM x = true)) 0 rfl
    ⟨Nat.zero_le _, s12, Chg.of_refl _ _, s11, take_zero _ _⟩ (fun I ρ W hJ => ⟨hJ.2.1, hJ.1⟩) ?_
  rintro i13 r14 w15 ⟨le16, s17, R18, s19, x20⟩
  have R22 := R0.gr R18
  refine W.seq ?_
  refine W.seq ?_
  refine W.reg ?_
  refine W.val rfl rfl (X.move (ev' (.int .i64 ((i13 : Nat) : Int)) rfl s17)) ?_
  refine W.val rfl rfl (X.move (ev' (s.val) rfl s19)) ?_
  refine W.val rfl rfl (X.len (ev' (s.val) rfl rfl) st22) ?_
  refine W.val rfl rfl (X.lss (ev' (.int .i64 ((i13 : Nat) : Int)) rfl rfl) (ev' (.int .i64 (s.n : Int)) rfl rfl)) ?_
  refine W.nil ?_
  refine then_n ?_
  refine W.fresh ?_
  intro r23 er24
  have s25 : r23 0 = s.val := (congrFun er24 0).trans s19
  have s26 : r23 3 = .int .i64 ((i13 : Nat) : Int) := (congrFun er24 3).trans s17
  have s27 : r23 7 = .bool (decide ((((i13 : Nat) : Int) : Int) < ((s.n : Int) : Int))) := (congrFun er24 7).trans rfl
  clear er24
  refine W.cond rfl s27 (fun k28 => ?_) (fun k28 => ?_)
  · skip
    have lt21 : i13 < s.n := Int.ofNat_lt.1 (of_decide_eq_true k28)
    refine W.skip ?_
    refine then_n ?_
    refine W.seq ?_
    refine W.block ?_
    refine W.seq ?_
    refine W.reg ?_
    refine W.val rfl rfl (X.move (ev' (s.val) rfl s25)) ?_
    refine W.val rfl rfl (X.move (ev' (.int .i64 ((i13 : Nat) : Int)) rfl s26)) ?_
    have h31 := hs.gr R18
    obtain ⟨m29, hm30⟩ := some_of_lt (h31.len ▸ lt21)
    obtain ⟨eb32, eo33, ha34, lt35, hr36⟩ := Sl.rowAt h31 hm30
    refine W.val rfl rfl (X.idx (b := ⟨eb32, eo33 + i13 * 43, none⟩) (evs ha34 (ev' (s.val) rfl rfl)) (ev' (.int .i64 ((i13 : Nat) : Int)) rfl rfl) (Int.natCast_nonneg _) (Int.ofNat_lt.2 lt35) st22 sz30 (Addr.add_lit _ _ _)) ?_
    refine W.val rfl rfl (X.loadR (ev' (.pointer (some ⟨eb32, eo33 + i13 * 43, none⟩)) rfl rfl) rt30 hr36.r rfl) ?_
    refine W.call rfl rfl (X.callF go11 (args1 (ev' (.agg m29.arr) rfl rfl))) (fewM_c m29 _) ?_
    rintro _ w38 ⟨rfl, g39⟩
    have R40 := R18.gr g39
    refine W.val rfl rfl (X.not (ev' (.bool (fewM m29)) rfl rfl)) ?_
    refine W.nil ?_
    refine then_n ?_
    refine W.fresh ?_
    intro r41 er42
    have s43 : r41 0 = s.val := (congrFun er42 0).trans s25
    have s44 : r41 3 = .int .i64 ((i13 : Nat) : Int) := (congrFun er42 3).trans s26
    have s45 : r41 15 = .bool (!(fewM m29)) := (congrFun er42 15).trans rfl
    clear er42
    refine W.cond rfl s45 (fun k46 => ?_) (fun k46 => ?_)
    · skip
      refine W.seq ?_
      refine W.reg ?_
      refine W.val rfl rfl (X.assign (evc' (.bool false))) ?_
      refine W.nil ?_
      refine then_n ?_
      refine W.fresh ?_
      intro r47 er48
      have s49 : r47 2 = .bool false := (congrFun er48 2).trans rfl
      clear er48
      refine W.ret (inb_r (then_r (then_r (inb_r (then_r (retT rfl rfl (show _ = (.bool false : Value) from s49) ⟨?_, R40⟩))))))
      exact congrArg Value.bool (fewL_no hm30 k46)
    · skip
      refine W.skip ?_
      refine inb_n ?_
      refine then_n ?_
      refine W.reg ?_
      refine W.val rfl rfl (X.move (ev' (.int .i64 ((i13 : Nat) : Int)) rfl s44)) ?_
      refine W.val rfl rfl (X.inc (ev' (.int .i64 ((i13 : Nat) : Int)) rfl rfl) (evc' (.int .i64 1)) lt21 hs.bnd) ?_
      refine W.val rfl rfl (X.assign (ev' (.int .i64 ((i13 + 1 : Nat) : Int)) rfl rfl)) ?_
      refine W.nil ?_
      refine then_n ?_
      exact ⟨_, rfl, lt21, rfl, R40, s43, (take_step hm30 x20 (by simpa using k46))⟩
  · skip
    have ei50 : i13 = s.n := Nat.le_antisymm le16 (Nat.le_of_not_lt fun h => of_decide_eq_false k28 (Int.ofNat_lt.2 h))
    refine W.exit (then_x (then_x (inb_x ?_)))
    refine then_n ?_
    refine W.seq ?_
    refine W.reg ?_
    refine W.val rfl rfl (X.move (ev' (s.val) rfl s25)) ?_
    refine W.val rfl rfl (X.len (ev' (s.val) rfl rfl) st22) ?_
    refine W.val rfl rfl (X.leq (ev' (.int .i64 (s.n : Int)) rfl rfl) (evc' (.int .i64 20))) ?_
    refine W.val rfl rfl (X.assign (ev' (.bool (decide (((s.n : Int) : Int) ≤ (20 : Int)))) rfl rfl)) ?_
    refine W.nil ?_
    refine then_n ?_
    refine W.fresh ?_
    intro r51 er52
    have s53 : r51 2 = .bool (decide (((s.n : Int) : Int) ≤ (20 : Int))) := (congrFun er52 2).trans rfl
    clear er52
    refine W.ret (retT rfl rfl (show _ = (.bool (decide (((s.n : Int) : Int) ≤ (20 : Int))) : Value) from s53) ⟨?_, R18⟩)
    exact congrArg Value.bool (fewL_yes hs.len ei50 x20)

theorem few_c {bs : List Nat} {T : TV} {t : Trade} (w : World) (ht : Tr bs w T t) : Calls Try.prog 10 #[T.val] w (Ret fun v w' => v = .bool (few t) ∧ Grow w w') := by
  refine enter (N := 16) Try.func10 rfl Try.ntmps10 rfl ?_
  intro ρ hρ
  have a0 : ρ 0 = T.val := hρ 0 _ rfl
  clear hρ
  have R0 : Grow w w := Chg.refl w
  refine W.seq ?_
  refine W.reg ?_
  refine W.eff rfl rfl (Y.box (cs := T.arr) (ev' (T.val) rfl a0) rfl) ?_
  rintro _ w2 ⟨b3, rfl, g4, hB5, lt6⟩
  have l7 := Nat.le_trans R0.size lt6
  have R8 := R0.gr g4
  refine W.val rfl rfl (X.assign (evc' (.bool false))) ?_
  refine W.nil ?_
  refine then_n ?_
  refine W.fresh ?_
  intro r10 er11
  have s12 : r10 1 = .pointer (some ⟨b3, 0, none⟩) := (congrFun er11 1).trans rfl
  clear er11
  refine W.seq ?_
  refine W.reg ?_
  refine W.val rfl rfl (X.fieldAddr (ev' (.pointer (some ⟨b3, 0, none⟩)) rfl s12) fo24_1 (b := ⟨b3, 1, none⟩) (Addr.add_lit _ _ _)) ?_
  refine W.val rfl rfl (X.load (ev' (.pointer (some ⟨b3, 1, none⟩)) rfl rfl) pt22 (Blk.lc hB5 rfl)) ?_
  have h13 := (ht.ext lt6).gr g4
  refine W.call rfl rfl (X.callF go35 (args1 (ev' (T.p.val) rfl rfl))) (fewL_c _ h13.p) ?_
  rintro _ w14 ⟨rfl, g15⟩
  have R16 := R8.gr g15
  refine W.val rfl rfl (X.move (ev' (.bool (fewL t.placed)) rfl rfl)) ?_
  refine W.gq rfl rfl rfl rfl rfl (fun _ => (X.fieldAddr (ev' (.pointer (some ⟨b3, 0, none⟩)) rfl s12) fo24_2 (b := ⟨b3, 2, none⟩) (Addr.add_lit _ _ _))) ?_
  have h17 := hB5.gr g15
  refine W.gq rfl rfl rfl rfl rfl (fun hc => (X.load (ev' (.pointer (some ⟨b3, 2, none⟩)) rfl (gvt hc rfl)) pt22 (Blk.lc h17 rfl))) ?_
  have h18 := h13.gr g15
  refine W.gcallS rfl rfl rfl rfl rfl (fun hc => X.callF go35 (args1 (ev' (T.r.val) rfl (gvt hc rfl)))) (fun _ => (fewL_c _ h18.r)) ?_
  intro w19 g20
  have R21 := R16.gr g20
  refine W.val rfl rfl (X.and (ev' (.bool (fewL t.placed)) rfl rfl) (ev' (gv ((fewL t.placed) == true) (.bool (fewL t.received))) rfl rfl)) ?_
  refine W.val rfl rfl (X.move (ev' (.bool ((fewL t.placed) && (fewL t.received))) rfl rfl)) ?_
  refine W.gq rfl rfl rfl rfl rfl (fun _ => (X.fieldAddr (ev' (.pointer (some ⟨b3, 0, none⟩)) rfl s12) fo24_3 (b := ⟨b3, 3, none⟩) (Addr.add_lit _ _ _))) ?_
  have h22 := h17.gr g20
  refine W.gq rfl rfl rfl rfl rfl (fun hc => (X.load (ev' (.pointer (some ⟨b3, 3, none⟩)) rfl (gvt hc rfl)) pt22 (Blk.lc h22 rfl))) ?_
  have h23 := h18.gr g20
  refine W.gcallS rfl rfl rfl rfl rfl (fun hc => X.callF go35 (args1 (ev' (T.d.val) rfl (gvt hc rfl)))) (fun _ => (fewL_c _ h23.d)) ?_
  intro w24 g25
  have R26 := R21.gr g25
  refine W.val rfl rfl (X.and (ev' (.bool ((fewL t.placed) && (fewL t.received))) rfl rfl) (ev' (gv (((fewL t.placed) && (fewL t.received)) == true) (.bool (fewL t.done))) rfl rfl)) ?_
  refine W.val rfl rfl (X.assign (ev' (.bool (((fewL t.placed) && (fewL t.received)) && (fewL t.done))) rfl rfl)) ?_
  refine W.nil ?_
  refine then_n ?_
  refine W.fresh ?_
  intro r27 er28
  have s29 : r27 2 = .bool (((fewL t.placed) && (fewL t.received)) && (fewL t.done)) := (congrFun er28 2).trans rfl
  clear er28
  refine W.ret (retT rfl rfl (show _ = (.bool (((fewL t.placed) && (fewL t.received)) && (fewL t.done)) : Value) from s29) ⟨?_, R26⟩)
  rfl

theorem sameL_c {bs : List Nat} {s u : SV} {ms ns : List Msg} (w : World) (hs : Sl bs w s ms) (hu : Sl bs w u ns) : Calls Try.prog 18 #[s.val, u.val] w (Ret fun v w' => v = .bool (sameL ms ns) ∧ Grow w w') := by
  refine enter (N := 27) Try.func18 rfl Try.ntmps18 rfl ?_
  intro ρ hρ
  have a0 : ρ 0 = s.val := hρ 0 _ rfl
  have a1 : ρ 1 = u.val := hρ 1 _ rfl
  clear hρ
  have R0 : Grow w w := Chg.refl w
  refine W.seq ?_
  refine W.reg ?_
  refine W.val rfl rfl (X.assign (evc' (.bool false))) ?_
  refine W.nil ?_
  refine then_n ?_
  refine W.fresh ?_
  intro r3 er4
  have s5 : r3 0 = s.val := (congrFun er4 0).trans a0
  have s6 : r3 1 = u.val := (congrFun er4 1).trans a1
  clear er4
  refine W.seq ?_
  refine W.seq ?_
  refine W.reg ?_
  refine W.val rfl rfl (X.move (ev' (s.val) rfl s5)) ?_
  refine W.val rfl rfl (X.len (ev' (s.val) rfl rfl) st22) ?_
  refine W.val rfl rfl (X.move (ev' (u.val) rfl s6)) ?_
  refine W.val rfl rfl (X.len (ev' (u.val) rfl rfl) st22) ?_
  refine W.val rfl rfl (X.neq (ev' (.int .i64 (s.n : Int)) rfl rfl) (ev' (.int .i64 (u.n : Int)) rfl rfl)) ?_
  refine W.nil ?_
  refine then_n ?_
  refine W.fresh ?_
  intro r7 er8
  have s9 : r7 0 = s.val := (congrFun er8 0).trans s5
  have s10 : r7 1 = u.val := (congrFun er8 1).trans s6
  have s11 : r7 10 = .bool (((s.n : Int) : Int) != ((u.n : Int) : Int)) := (congrFun er8 10).trans rfl
  clear er8
  refine W.cond rfl s11 (fun k12 => ?_) (fun k12 => ?_)
  · skip
    refine W.seq ?_
    refine W.reg ?_
    refine W.val rfl rfl (X.assign (evc' (.bool false))) ?_
    refine W.nil ?_
    refine then_n ?_
    refine W.fresh ?_
    intro r13 er14
    have s15 : r13 4 = .bool false := (congrFun er14 4).trans rfl
    clear er14
    refine W.ret (then_r (retT rfl rfl (show _ = (.bool false : Value) from s15) ⟨?_, R0⟩))
    exact congrArg Value.bool (sameL_ne hs.len hu.len k12)
  · skip
    refine W.skip ?_
    refine then_n ?_
    refine W.seq ?_
    refine W.seq ?_
    refine W.reg ?_
    refine W.val rfl rfl (X.assign (evc' (.int .i64 0))) ?_
    refine W.nil ?_
    refine then_n ?_
    refine W.fresh ?_
    intro r16 er17
    have s18 : r16 0 = s.val := (congrFun er17 0).trans s9
    have s19 : r16 1 = u.val := (congrFun er17 1).trans s10
    have s20 : r16 5 = .int .i64 0 := (congrFun er17 5).trans rfl
    clear er17
    refine W.block ?_
    refine W.fresh ?_
    intro r21 er22
    have s23 : r21 0 = s.val := (congrFun er22 0).trans s18
    have s24 : r21 1 = u.val := (congrFun er22 1).trans s19
    have s25 : r21 5 = .int .i64 0 := (congrFun er22 5).trans s20
    clear er22
    refine W.count 5 s.n (fun I ρ W => I ≤ s.n ∧ ρ 5 = .int .i64 ((I : Nat) : Int) ∧ Chg [] w W ∧ ρ 0 = s.val ∧ ρ 1 = u.val ∧ Upto (fun j a => ∀ b, ns[j]? = some b → same a b = true) ms I) 0 rfl
      ⟨Nat.zero_le _, s25, Chg.of_refl _ _, s23, s24, (Upto.zero _ _)⟩ (fun I ρ W hJ => ⟨hJ.2.1, hJ.1⟩) ?_
    rintro i26 r27 w28 ⟨le29, s30, R31, s32, s33, x34⟩
    have R36 := R0.gr R31
    refine W.seq ?_
    refine W.seq ?_
    refine W.reg ?_
    refine W.val rfl rfl (X.move (ev' (.int .i64 ((i26 : Nat) : Int)) rfl s30)) ?_
    refine W.val rfl rfl (X.move (ev' (s.val) rfl s32)) ?_
    refine W.val rfl rfl (X.len (ev' (s.val) rfl rfl) st22) ?_
    refine W.val rfl rfl (X.lss (ev' (.int .i64 ((i26 : Nat) : Int)) rfl rfl) (ev' (.int .i64 (s.n : Int)) rfl rfl)) ?_
    refine W.nil ?_
    refine then_n ?_
    refine W.fresh ?_
    intro r37 er38
    have s39 : r37 0 = s.val := (congrFun er38 0).trans s32
    have s40 : r37 1 = u.val := (congrFun er38 1).trans s33
    have s41 : r37 5 = .int .i64 ((i26 : Nat) : Int) := (congrFun er38 5).trans s30
    have s42 : r37 14 = .bool (decide ((((i26 : Nat) : Int) : Int) < ((s.n : Int) : Int))) := (congrFun er38 14).trans rfl
    clear er38
    refine W.cond rfl s42 (fun k43 => ?_) (fun k43 => ?_)
    · skip
      have lt35 : i26 < s.n := Int.ofNat_lt.1 (of_decide_eq_true k43)
      refine W.skip ?_
      refine then_n ?_
      refine W.seq ?_
      refine W.block ?_
      refine W.seq ?_
      refine A.begin' (cs := []) rfl ?_
      intro w44 g45
      have R46 := R31.gr g45
      have R47 : Chg [] w44 w44 := Chg.of_refl _ _
      refine A.take (i := 0) rfl (by kernel_rfl) (by kernel_rfl) (by kernel_rfl) (fun _ _ _ h => h) R47 rfl rfl (fun _ _ => (X.move (ev' (s.val) rfl s39))) ?_
      refine A.take (i := 1) rfl (by kernel_rfl) (by kernel_rfl) (by kernel_rfl) (fun _ _ _ h => h) R47 rfl rfl (fun _ _ => (X.move (ev' (.int .i64 ((i26 : Nat) : Int)) rfl s41))) ?_
      have h50 := hs.gr R31
      have h51 := h50.gr g45
      obtain ⟨m48, hm49⟩ := some_of_lt (h51.len ▸ lt35)
      obtain ⟨eb52, eo53, ha54, lt55, hr56⟩ := Sl.rowAt h51 hm49
      refine A.take (i := 2) rfl (by kernel_rfl) (by kernel_rfl) (by kernel_rfl) (fun _ _ _ h => h) R47 rfl rfl (fun _ _ => (X.idx (b := ⟨eb52, eo53 + i26 * 43, none⟩) (evs ha54 (ev' (s.val) rfl rfl)) (ev' (.int .i64 ((i26 : Nat) : Int)) rfl rfl) (Int.natCast_nonneg _) (Int.ofNat_lt.2 lt55) st22 sz30 (Addr.add_lit _ _ _))) ?_
      refine A.take (i := 3) rfl (by kernel_rfl) (by kernel_rfl) (by kernel_rfl) (fun _ _ _ h => h) R47 rfl rfl (fun _ hw => (X.loadR (ev' (.pointer (some ⟨eb52, eo53 + i26 * 43, none⟩)) rfl rfl) rt30 (hr56.gr hw).r rfl)) ?_
      refine A.take (i := 4) rfl (by kernel_rfl) (by kernel_rfl) (by kernel_rfl) (fun _ _ _ h => h) R47 rfl rfl (fun _ _ => (X.move (ev' (u.val) rfl s40))) ?_
      refine A.take (i := 5) rfl (by kernel_rfl) (by kernel_rfl) (by kernel_rfl) (fun _ _ _ h => h) R47 rfl rfl (fun _ _ => (X.move (ev' (.int .i64 ((i26 : Nat) : Int)) rfl s41))) ?_
      have h60 := hu.gr R31
      have h61 := h60.gr g45
      obtain ⟨m58, hm59⟩ := some_of_lt (same_len hu.len k12 lt35)
      obtain ⟨eb62, eo63, ha64, lt65, hr66⟩ := Sl.rowAt h61 hm59
      refine A.take (i := 6) rfl (by kernel_rfl) (by kernel_rfl) (by kernel_rfl) (fun _ _ _ h => h) R47 rfl rfl (fun _ _ => (X.idx (b := ⟨eb62, eo63 + i26 * 43, none⟩) (evs ha64 (ev' (u.val) rfl rfl)) (ev' (.int .i64 ((i26 : Nat) : Int)) rfl rfl) (Int.natCast_nonneg _) (Int.ofNat_lt.2 lt65) st22 sz30 (Addr.add_lit _ _ _))) ?_
      refine A.take (i := 7) rfl (by kernel_rfl) (by kernel_rfl) (by kernel_rfl) (fun _ _ _ h => h) R47 rfl rfl (fun _ hw => (X.loadR (ev' (.pointer (some ⟨eb62, eo63 + i26 * 43, none⟩)) rfl rfl) rt30 (hr66.gr hw).r rfl)) ?_
      refine A.one (i := 8) (by kernel_rfl) ?_
      refine E.call (i := 8) rfl rfl rfl (X.callF go15 (args2 (ev' (.agg m48.arr) rfl rfl) (ev' (.agg m58.arr) rfl rfl))) (same_c m48 m58 _) ?_
      rintro _ w68 ⟨rfl, g69⟩
      have R70 := R46.gr g69
      have R71 := R47.gr g69
      refine ⟨R71, ?_⟩
      refine A.take (i := 9) rfl (by kernel_rfl) (by kernel_rfl) (by kernel_rfl) (fun _ _ _ h => h) R71 rfl rfl (fun _ _ => (X.not (ev' (.bool (same m48 m58)) rfl rfl))) ?_
      refine A.done (by kernel_rfl) ?_
      refine then_n ?_
      refine W.fresh ?_
      intro r72 er73
      have s74 : r72 0 = s.val := (congrFun er73 0).trans s39
      have s75 : r72 1 = u.val := (congrFun er73 1).trans s40
      have s76 : r72 5 = .int .i64 ((i26 : Nat) : Int) := (congrFun er73 5).trans s41
      have s77 : r72 26 = .bool (!(same m48 m58)) := (congrFun er73 26).trans rfl
      clear er73
      refine W.cond rfl s77 (fun k78 => ?_) (fun k78 => ?_)
      · skip
        refine W.seq ?_
        refine W.reg ?_
        refine W.val rfl rfl (X.assign (evc' (.bool false))) ?_
        refine W.nil ?_
        refine then_n ?_
        refine W.fresh ?_
        intro r79 er80
        have s81 : r79 4 = .bool false := (congrFun er80 4).trans rfl
        clear er80
        refine W.ret (inb_r (then_r (then_r (inb_r (then_r (retT rfl rfl (show _ = (.bool false : Value) from s81) ⟨?_, R70⟩))))))
        exact congrArg Value.bool (sameL_no hs.len hu.len k12 hm49 hm59 k78)
      · skip
        refine W.skip ?_
        refine inb_n ?_
        refine then_n ?_
        refine W.reg ?_
        refine W.val rfl rfl (X.move (ev' (.int .i64 ((i26 : Nat) : Int)) rfl s76)) ?_
        refine W.val rfl rfl (X.inc (ev' (.int .i64 ((i26 : Nat) : Int)) rfl rfl) (evc' (.int .i64 1)) lt35 hs.bnd) ?_
        refine W.val rfl rfl (X.assign (ev' (.int .i64 ((i26 + 1 : Nat) : Int)) rfl rfl)) ?_
        refine W.nil ?_
        refine then_n ?_
        exact ⟨_, rfl, lt35, rfl, R70, s74, s75, (Upto.step x34 hm49 (fun b hb => by rw [hm59] at hb; cases hb; simpa using k78))⟩
    · skip
      have ei82 : i26 = s.n := Nat.le_antisymm le29 (Nat.le_of_not_lt fun h => of_decide_eq_false k43 (Int.ofNat_lt.2 h))
      refine W.exit (then_x (then_x (inb_x ?_)))
      refine then_n ?_
      refine W.seq ?_
      refine W.reg ?_
      refine W.val rfl rfl (X.assign (evc' (.bool true))) ?_
      refine W.nil ?_
      refine then_n ?_
      refine W.fresh ?_
      intro r83 er84
      have s85 : r83 4 = .bool true := (congrFun er84 4).trans rfl
      clear er84
      refine W.ret (retT rfl rfl (show _ = (.bool true : Value) from s85) ⟨?_, R31⟩)
      exact congrArg Value.bool (sameL_yes hs.len hu.len k12 ei82 x34)

theorem sameT_c {bs : List Nat} {A B : TV} {a b : Trade} (w : World) (ha : Tr bs w A a) (hb : Tr bs w B b) : Calls Try.prog 14 #[A.val, B.val] w (Ret fun v w' => v = .bool (sameT a b) ∧ Grow w w') := by
  refine enter (N := 31) Try.func14 rfl Try.ntmps14 rfl ?_
  intro ρ hρ
  have a0 : ρ 0 = A.val := hρ 0 _ rfl
  have a1 : ρ 1 = B.val := hρ 1 _ rfl
  clear hρ
  have R0 : Grow w w := Chg.refl w
  refine W.seq ?_
  refine W.reg ?_
  refine W.eff rfl rfl (Y.box (cs := A.arr) (ev' (A.val) rfl a0) rfl) ?_
  rintro _ w3 ⟨b4, rfl, g5, hB6, lt7⟩
  have l8 := Nat.le_trans R0.size lt7
  have R9 := R0.gr g5
  refine W.eff rfl rfl (Y.box (cs := B.arr) (ev' (B.val) rfl a1) rfl) ?_
  rintro _ w11 ⟨b12, rfl, g13, hB14, lt15⟩
  have ne16 := hB6.ne lt15
  have l17 := Nat.le_trans R9.size lt15
  have R18 := R9.gr g13
  refine W.val rfl rfl (X.assign (evc' (.bool false))) ?_
  refine W.nil ?_
  refine then_n ?_
  refine W.fresh ?_
  intro r20 er21
  have s22 : r20 2 = .pointer (some ⟨b4, 0, none⟩) := (congrFun er21 2).trans rfl
  have s23 : r20 3 = .pointer (some ⟨b12, 0, none⟩) := (congrFun er21 3).trans rfl
  clear er21
  refine W.seq ?_
  refine W.reg ?_
  refine W.val rfl rfl (X.fieldAddr (ev' (.pointer (some ⟨b4, 0, none⟩)) rfl s22) fo24_0 (b := ⟨b4, 0, none⟩) (Addr.add_lit _ _ _)) ?_
  have h24 := hB6.gr g13
  refine W.val rfl rfl (X.load (ev' (.pointer (some ⟨b4, 0, none⟩)) rfl rfl) pt3 (Blk.lc h24 rfl)) ?_
  refine W.val rfl rfl (X.fieldAddr (ev' (.pointer (some ⟨b12, 0, none⟩)) rfl s23) fo24_0 (b := ⟨b12, 0, none⟩) (Addr.add_lit _ _ _)) ?_
  refine W.val rfl rfl (X.load (ev' (.pointer (some ⟨b12, 0, none⟩)) rfl rfl) pt3 (Blk.lc hB14 rfl)) ?_
  refine W.val rfl rfl (X.eql (ev' (.int .i64 A.next) rfl rfl) (ev' (.int .i64 B.next) rfl rfl)) ?_
  refine W.val rfl rfl (X.move (ev' (.bool ((A.next : Int) == (B.next : Int))) rfl rfl)) ?_
  refine W.gq rfl rfl rfl rfl rfl (fun _ => (X.fieldAddr (ev' (.pointer (some ⟨b4, 0, none⟩)) rfl s22) fo24_1 (b := ⟨b4, 1, none⟩) (Addr.add_lit _ _ _))) ?_
  refine W.gq rfl rfl rfl rfl rfl (fun hc => (X.load (ev' (.pointer (some ⟨b4, 1, none⟩)) rfl (gvt hc rfl)) pt22 (Blk.lc h24 rfl))) ?_
  refine W.gq rfl rfl rfl rfl rfl (fun _ => (X.fieldAddr (ev' (.pointer (some ⟨b12, 0, none⟩)) rfl s23) fo24_1 (b := ⟨b12, 1, none⟩) (Addr.add_lit _ _ _))) ?_
  refine W.gq rfl rfl rfl rfl rfl (fun hc => (X.load (ev' (.pointer (some ⟨b12, 1, none⟩)) rfl (gvt hc rfl)) pt22 (Blk.lc hB14 rfl))) ?_
  have h25 := (ha.ext lt7).gr g5
  have h26 := (h25.ext lt15).gr g13
  have h27 := (hb.ext lt7).gr g5
  have h28 := (h27.ext lt15).gr g13
  refine W.gcallS rfl rfl rfl rfl rfl (fun hc => X.callF go18 (args2 (ev' (A.p.val) rfl (gvt hc rfl)) (ev' (B.p.val) rfl (gvt hc rfl)))) (fun _ => (sameL_c _ h26.p h28.p)) ?_
  intro w29 g30
  have R31 := R18.gr g30
  refine W.valN rfl rfl (X.and (ev' (.bool ((A.next : Int) == (B.next : Int))) rfl rfl) (ev' (gv (((A.next : Int) == (B.next : Int)) == true) (.bool (sameL a.placed b.placed))) rfl rfl)) ?_
  intro q32 eq32
  refine W.val rfl rfl (X.move (ev' (.bool q32) rfl rfl)) ?_
  refine W.gq rfl rfl rfl rfl rfl (fun _ => (X.fieldAddr (ev' (.pointer (some ⟨b4, 0, none⟩)) rfl s22) fo24_2 (b := ⟨b4, 2, none⟩) (Addr.add_lit _ _ _))) ?_
  have h33 := h24.gr g30
  refine W.gq rfl rfl rfl rfl rfl (fun hc => (X.load (ev' (.pointer (some ⟨b4, 2, none⟩)) rfl (gvt hc rfl)) pt22 (Blk.lc h33 rfl))) ?_
  refine W.gq rfl rfl rfl rfl rfl (fun _ => (X.fieldAddr (ev' (.pointer (some ⟨b12, 0, none⟩)) rfl s23) fo24_2 (b := ⟨b12, 2, none⟩) (Addr.add_lit _ _ _))) ?_
  have h34 := hB14.gr g30
  refine W.gq rfl rfl rfl rfl rfl (fun hc => (X.load (ev' (.pointer (some ⟨b12, 2, none⟩)) rfl (gvt hc rfl)) pt22 (Blk.lc h34 rfl))) ?_
  have h35 := h26.gr g30
  have h36 := h28.gr g30
  refine W.gcallS rfl rfl rfl rfl rfl (fun hc => X.callF go18 (args2 (ev' (A.r.val) rfl (gvt hc rfl)) (ev' (B.r.val) rfl (gvt hc rfl)))) (fun _ => (sameL_c _ h35.r h36.r)) ?_
  intro w37 g38
  have R39 := R31.gr g38
  refine W.val rfl rfl (X.and (ev' (.bool q32) rfl rfl) (ev' (gv (q32 == true) (.bool (sameL a.received b.received))) rfl rfl)) ?_
  refine W.val rfl rfl (X.move (ev' (.bool (q32 && (sameL a.received b.received))) rfl rfl)) ?_
  refine W.gq rfl rfl rfl rfl rfl (fun _ => (X.fieldAddr (ev' (.pointer (some ⟨b4, 0, none⟩)) rfl s22) fo24_3 (b := ⟨b4, 3, none⟩) (Addr.add_lit _ _ _))) ?_
  have h40 := h33.gr g38
  refine W.gq rfl rfl rfl rfl rfl (fun hc => (X.load (ev' (.pointer (some ⟨b4, 3, none⟩)) rfl (gvt hc rfl)) pt22 (Blk.lc h40 rfl))) ?_
  refine W.gq rfl rfl rfl rfl rfl (fun _ => (X.fieldAddr (ev' (.pointer (some ⟨b12, 0, none⟩)) rfl s23) fo24_3 (b := ⟨b12, 3, none⟩) (Addr.add_lit _ _ _))) ?_
  have h41 := h34.gr g38
  refine W.gq rfl rfl rfl rfl rfl (fun hc => (X.load (ev' (.pointer (some ⟨b12, 3, none⟩)) rfl (gvt hc rfl)) pt22 (Blk.lc h41 rfl))) ?_
  have h42 := h35.gr g38
  have h43 := h36.gr g38
  refine W.gcallS rfl rfl rfl rfl rfl (fun hc => X.callF go18 (args2 (ev' (A.d.val) rfl (gvt hc rfl)) (ev' (B.d.val) rfl (gvt hc rfl)))) (fun _ => (sameL_c _ h42.d h43.d)) ?_
  intro w44 g45
  have R46 := R39.gr g45
  refine W.valN rfl rfl (X.and (ev' (.bool (q32 && (sameL a.received b.received))) rfl rfl) (ev' (gv ((q32 && (sameL a.received b.received)) == true) (.bool (sameL a.done b.done))) rfl rfl)) ?_
  intro q47 eq47
  refine W.val rfl rfl (X.assign (ev' (.bool q47) rfl rfl)) ?_
  refine W.nil ?_
  refine then_n ?_
  refine W.fresh ?_
  intro r48 er49
  have s50 : r48 4 = .bool q47 := (congrFun er49 4).trans rfl
  clear er49
  refine W.ret (retT rfl rfl (show _ = (.bool q47 : Value) from s50) ⟨?_, R46⟩)
  subst eq47
  subst eq32
  refine congrArg Value.bool ?_
  simp only [sameT, ha.next, hb.next]

theorem hasNo_c {bs : List Nat} {s : SV} {ms : List Msg} (n : Int) (w : World) (hs : Sl bs w s ms) : Calls Try.prog 47 #[s.val, .int .i64 n] w (Ret fun v w' => v = .bool (hasNo n ms) ∧ Grow w w') := by
  refine enter (N := 19) Try.func47 rfl Try.ntmps47 rfl ?_
  intro ρ hρ
  have a0 : ρ 0 = s.val := hρ 0 _ rfl
  have a1 : ρ 1 = .int .i64 n := hρ 1 _ rfl
  clear hρ
  have R0 : Grow w w := Chg.refl w
  refine W.seq ?_
  refine W.reg ?_
  refine W.val rfl rfl (X.assign (evc' (.bool false))) ?_
  refine W.nil ?_
  refine then_n ?_
  refine W.fresh ?_
  intro r2 er3
  have s4 : r2 0 = s.val := (congrFun er3 0).trans a0
  have s5 : r2 1 = .int .i64 n := (congrFun er3 1).trans a1
  clear er3
  refine W.seq ?_
  refine W.seq ?_
  refine W.reg ?_
  refine W.val rfl rfl (X.assign (evc' (.int .i64 0))) ?_
  refine W.nil ?_
  refine then_n ?_
  refine W.fresh ?_
  intro r6 er7
  have s8 : r6 0 = s.val := (congrFun er7 0).trans s4
  have s9 : r6 1 = .int .i64 n := (congrFun er7 1).trans s5
  have s10 : r6 5 = .int .i64 0 := (congrFun er7 5).trans rfl
  clear er7
  refine W.block ?_
  refine W.fresh ?_
  intro r11 er12
  have s13 : r11 0 = s.val := (congrFun er12 0).trans s8
  have s14 : r11 1 = .int .i64 n := (congrFun er12 1).trans s9
  have s15 : r11 5 = .int .i64 0 := (congrFun er12 5).trans s10
  clear er12
  refine W.count 5 s.n (fun I ρ W => I ≤ s.n ∧ ρ 5 = .int .i64 ((I : Nat) : Int) ∧ Chg [] w W ∧ ρ 0 = s.val ∧ ρ 1 = .int .i64 n ∧ (∀ x ∈ ms.take I, (x.no == n) = false)) 0 rfl
    ⟨Nat.zero_le _, s15, Chg.of_refl _ _, s13, s14, take_zero _ _⟩ (fun I ρ W hJ => ⟨hJ.2.1, hJ.1⟩) ?_
  rintro i16 r17 w18 ⟨le19, s20, R21, s22, s23, x24⟩
  have R26 := R0.gr R21
  refine W.seq ?_
  refine W.seq ?_
  refine W.reg ?_
  refine W.val rfl rfl (X.move (ev' (.int .i64 ((i16 : Nat) : Int)) rfl s20)) ?_
  refine W.val rfl rfl (X.move (ev' (s.val) rfl s22)) ?_
  refine W.val rfl rfl (X.len (ev' (s.val) rfl rfl) st22) ?_
  refine W.val rfl rfl (X.lss (ev' (.int .i64 ((i16 : Nat) : Int)) rfl rfl) (ev' (.int .i64 (s.n : Int)) rfl rfl)) ?_
  refine W.nil ?_
  refine then_n ?_
  refine W.fresh ?_
  intro r27 er28
  have s29 : r27 0 = s.val := (congrFun er28 0).trans s22
  have s30 : r27 1 = .int .i64 n := (congrFun er28 1).trans s23
  have s31 : r27 5 = .int .i64 ((i16 : Nat) : Int) := (congrFun er28 5).trans s20
  have s32 : r27 9 = .bool (decide ((((i16 : Nat) : Int) : Int) < ((s.n : Int) : Int))) := (congrFun er28 9).trans rfl
  clear er28
  refine W.cond rfl s32 (fun k33 => ?_) (fun k33 => ?_)
  · skip
    have lt25 : i16 < s.n := Int.ofNat_lt.1 (of_decide_eq_true k33)
    refine W.skip ?_
    refine then_n ?_
    refine W.seq ?_
    refine W.block ?_
    refine W.seq ?_
    refine W.reg ?_
    refine W.val rfl rfl (X.move (ev' (s.val) rfl s29)) ?_
    refine W.val rfl rfl (X.move (ev' (.int .i64 ((i16 : Nat) : Int)) rfl s31)) ?_
    have h36 := hs.gr R21
    obtain ⟨m34, hm35⟩ := some_of_lt (h36.len ▸ lt25)
    obtain ⟨eb37, eo38, ha39, lt40, hr41⟩ := Sl.rowAt h36 hm35
    refine W.val rfl rfl (X.idx (b := ⟨eb37, eo38 + i16 * 43, none⟩) (evs ha39 (ev' (s.val) rfl rfl)) (ev' (.int .i64 ((i16 : Nat) : Int)) rfl rfl) (Int.natCast_nonneg _) (Int.ofNat_lt.2 lt40) st22 sz30 (Addr.add_lit _ _ _)) ?_
    refine W.val rfl rfl (X.fieldAddr (ev' (.pointer (some ⟨eb37, eo38 + i16 * 43, none⟩)) rfl rfl) fo30_3 (b := ⟨eb37, eo38 + i16 * 43 + 3, none⟩) (Addr.add_lit _ _ _)) ?_
    refine W.val rfl rfl (X.load (ev' (.pointer (some ⟨eb37, eo38 + i16 * 43 + 3, none⟩)) rfl rfl) pt3 (cell_of_rowM (k := 3) hr41.r (Msg.arr3 _))) ?_
    refine W.val rfl rfl (X.move (ev' (.int .i64 n) rfl s30)) ?_
    refine W.val rfl rfl (X.eql (ev' (.int .i64 m34.no) rfl rfl) (ev' (.int .i64 n) rfl rfl)) ?_
    refine W.nil ?_
    refine then_n ?_
    refine W.fresh ?_
    intro r43 er44
    have s45 : r43 0 = s.val := (congrFun er44 0).trans s29
    have s46 : r43 1 = .int .i64 n := (congrFun er44 1).trans s30
    have s47 : r43 5 = .int .i64 ((i16 : Nat) : Int) := (congrFun er44 5).trans s31
    have s48 : r43 18 = .bool ((m34.no : Int) == (n : Int)) := (congrFun er44 18).trans rfl
    clear er44
    refine W.cond rfl s48 (fun k49 => ?_) (fun k49 => ?_)
    · skip
      refine W.seq ?_
      refine W.reg ?_
      refine W.val rfl rfl (X.assign (evc' (.bool true))) ?_
      refine W.nil ?_
      refine then_n ?_
      refine W.fresh ?_
      intro r50 er51
      have s52 : r50 4 = .bool true := (congrFun er51 4).trans rfl
      clear er51
      refine W.ret (inb_r (then_r (then_r (inb_r (then_r (retT rfl rfl (show _ = (.bool true : Value) from s52) ⟨?_, R21⟩))))))
      exact congrArg Value.bool (hasNo_yes hm35 k49)
    · skip
      refine W.skip ?_
      refine inb_n ?_
      refine then_n ?_
      refine W.reg ?_
      refine W.val rfl rfl (X.move (ev' (.int .i64 ((i16 : Nat) : Int)) rfl s47)) ?_
      refine W.val rfl rfl (X.inc (ev' (.int .i64 ((i16 : Nat) : Int)) rfl rfl) (evc' (.int .i64 1)) lt25 hs.bnd) ?_
      refine W.val rfl rfl (X.assign (ev' (.int .i64 ((i16 + 1 : Nat) : Int)) rfl rfl)) ?_
      refine W.nil ?_
      refine then_n ?_
      exact ⟨_, rfl, lt25, rfl, R21, s45, s46, (take_step hm35 x24 k49)⟩
  · skip
    have ei53 : i16 = s.n := Nat.le_antisymm le19 (Nat.le_of_not_lt fun h => of_decide_eq_false k33 (Int.ofNat_lt.2 h))
    refine W.exit (then_x (then_x (inb_x ?_)))
    refine then_n ?_
    refine W.seq ?_
    refine W.reg ?_
    refine W.val rfl rfl (X.assign (evc' (.bool false))) ?_
    refine W.nil ?_
    refine then_n ?_
    refine W.fresh ?_
    intro r54 er55
    have s56 : r54 4 = .bool false := (congrFun er55 4).trans rfl
    clear er55
    refine W.ret (retT rfl rfl (show _ = (.bool false : Value) from s56) ⟨?_, R21⟩)
    exact congrArg Value.bool (hasNo_no hs.len ei53 x24)

theorem notok_c (m : Msg) (w : World) : Calls Try.prog 43 #[.agg m.arr] w (Ret fun v w' => v = .bool (!ok m) ∧ Grow w w') := by
  refine enter (N := 6) Try.func43 rfl Try.ntmps43 rfl ?_
  intro ρ hρ
  have a0 : ρ 0 = .agg m.arr := hρ 0 _ rfl
  clear hρ
  have R0 : Grow w w := Chg.refl w
  refine W.seq ?_
  refine W.reg ?_
  refine W.eff rfl rfl (Y.box (cs := m.arr) (ev' (.agg m.arr) rfl a0) rfl) ?_
  rintro _ w1 ⟨b2, rfl, g3, hB4, lt5⟩
  have l6 := Nat.le_trans R0.size lt5
  have R7 := R0.gr g3
  refine W.val rfl rfl (X.assign (evc' (.bool false))) ?_
  refine W.nil ?_
  refine then_n ?_
  refine W.fresh ?_
  intro r9 er10
  have s11 : r9 1 = .pointer (some ⟨b2, 0, none⟩) := (congrFun er10 1).trans rfl
  clear er10
  refine W.seq ?_
  refine W.reg ?_
  refine W.val rfl rfl (X.loadR (ev' (.pointer (some ⟨b2, 0, none⟩)) rfl s11) rt30 (row_blk_msg hB4) rfl) ?_
  refine W.call rfl rfl (X.callF go36 (args1 (ev' (.agg m.arr) rfl rfl))) (right_c m _) ?_
  rintro _ w12 ⟨rfl, g13⟩
  have R14 := R7.gr g13
  refine W.val rfl rfl (X.not (ev' (.bool (ok m)) rfl rfl)) ?_
  refine W.val rfl rfl (X.assign (ev' (.bool (!(ok m))) rfl rfl)) ?_
  refine W.nil ?_
  refine then_n ?_
  refine W.fresh ?_
  intro r15 er16
  have s17 : r15 2 = .bool (!(ok m)) := (congrFun er16 2).trans rfl
  clear er16
  refine W.ret (retT rfl rfl (show _ = (.bool (!(ok m)) : Value) from s17) ⟨?_, R14⟩)
  rfl

theorem sameNo_c {b : Nat} (d m : Msg) (w : World) (hB : Blk w b 30 m.arr) : Calls Try.prog 49 #[.agg d.arr, .pointer (some ⟨b, 0, none⟩)] w (Ret fun v w' => v = .bool (d.no == m.no) ∧ Grow w w') := by
  refine enter (N := 9) Try.func49 rfl Try.ntmps49 rfl ?_
  intro ρ hρ
  have a0 : ρ 0 = .agg d.arr := hρ 0 _ rfl
  have a1 : ρ 1 = .pointer (some ⟨b, 0, none⟩) := hρ 1 _ rfl
  clear hρ
  have R0 : Grow w w := Chg.refl w
  refine W.seq ?_
  refine W.reg ?_
  refine W.eff rfl rfl (Y.box (cs := d.arr) (ev' (.agg d.arr) rfl a0) rfl) ?_
  rintro _ w2 ⟨b3, rfl, g4, hB5, lt6⟩
  have ne7 := hB.ne lt6
  have l8 := Nat.le_trans R0.size lt6
  have R9 := R0.gr g4
  refine W.val rfl rfl (X.assign (evc' (.bool false))) ?_
  refine W.nil ?_
  refine then_n ?_
  refine W.fresh ?_
  intro r11 er12
  have s13 : r11 1 = .pointer (some ⟨b, 0, none⟩) := (congrFun er12 1).trans a1
  have s14 : r11 2 = .pointer (some ⟨b3, 0, none⟩) := (congrFun er12 2).trans rfl
  clear er12
  refine W.seq ?_
  refine W.reg ?_
  refine W.val rfl rfl (X.fieldAddr (ev' (.pointer (some ⟨b3, 0, none⟩)) rfl s14) fo30_3 (b := ⟨b3, 3, none⟩) (Addr.add_lit _ _ _)) ?_
  refine W.val rfl rfl (X.load (ev' (.pointer (some ⟨b3, 3, none⟩)) rfl rfl) pt3 (Blk.lc hB5 (Msg.arr3 _))) ?_
  refine W.val rfl rfl (X.fieldAddr (ev' (.pointer (some ⟨b, 0, none⟩)) rfl s13) fo30_3 (b := ⟨b, 3, none⟩) (Addr.add_lit _ _ _)) ?_
  have h15 := hB.gr g4
  refine W.val rfl rfl (X.load (ev' (.pointer (some ⟨b, 3, none⟩)) rfl rfl) pt3 (Blk.lc h15 (Msg.arr3 _))) ?_
  refine W.val rfl rfl (X.eql (ev' (.int .i64 d.no) rfl rfl) (ev' (.int .i64 m.no) rfl rfl)) ?_
  refine W.val rfl rfl (X.assign (ev' (.bool ((d.no : Int) == (m.no : Int))) rfl rfl)) ?_
  refine W.nil ?_
  refine then_n ?_
  refine W.fresh ?_
  intro r16 er17
  have s18 : r16 3 = .bool ((d.no : Int) == (m.no : Int)) := (congrFun er17 3).trans rfl
  clear er17
  refine W.ret (retT rfl rfl (show _ = (.bool ((d.no : Int) == (m.no : Int)) : Value) from s18) ⟨?_, R9⟩)
  rfl

theorem sameKey_c {b : Nat} (d m : Msg) (w : World) (hB : Blk w b 30 m.arr) : Calls Try.prog 69 #[.agg d.arr, .pointer (some ⟨b, 0, none⟩)] w (Ret fun v w' => v = .bool (d.frm == m.frm && d.no == m.no) ∧ Grow w w') := by
  refine enter (N := 16) Try.func69 rfl Try.ntmps69 rfl ?_
  intro ρ hρ
  have a0 : ρ 0 = .agg d.arr := hρ 0 _ rfl
  have a1 : ρ 1 = .pointer (some ⟨b, 0, none⟩) := hρ 1 _ rfl
  clear hρ
  have R0 : Grow w w := Chg.refl w
  refine W.seq ?_
  refine W.reg ?_
  refine W.eff rfl rfl (Y.box (cs := d.arr) (ev' (.agg d.arr) rfl a0) rfl) ?_
  rintro _ w2 ⟨b3, rfl, g4, hB5, lt6⟩
  have ne7 := hB.ne lt6
  have l8 := Nat.le_trans R0.size lt6
  have R9 := R0.gr g4
  refine W.val rfl rfl (X.assign (evc' (.bool false))) ?_
  refine W.nil ?_
  refine then_n ?_
  refine W.fresh ?_
  intro r11 er12
  have s13 : r11 1 = .pointer (some ⟨b, 0, none⟩) := (congrFun er12 1).trans a1
  have s14 : r11 2 = .pointer (some ⟨b3, 0, none⟩) := (congrFun er12 2).trans rfl
  clear er12
  refine W.seq ?_
  refine W.reg ?_
  refine W.val rfl rfl (X.fieldAddr (ev' (.pointer (some ⟨b3, 0, none⟩)) rfl s14) fo30_1 (b := ⟨b3, 1, none⟩) (Addr.add_lit _ _ _)) ?_
  refine W.val rfl rfl (X.load (ev' (.pointer (some ⟨b3, 1, none⟩)) rfl rfl) pt3 (Blk.lc hB5 (Msg.arr1 _))) ?_
  refine W.val rfl rfl (X.fieldAddr (ev' (.pointer (some ⟨b, 0, none⟩)) rfl s13) fo30_1 (b := ⟨b, 1, none⟩) (Addr.add_lit _ _ _)) ?_
  have h15 := hB.gr g4
  refine W.val rfl rfl (X.load (ev' (.pointer (some ⟨b, 1, none⟩)) rfl rfl) pt3 (Blk.lc h15 (Msg.arr1 _))) ?_
  refine W.val rfl rfl (X.eql (ev' (.int .i64 d.frm) rfl rfl) (ev' (.int .i64 m.frm) rfl rfl)) ?_
  refine W.val rfl rfl (X.move (ev' (.bool ((d.frm : Int) == (m.frm : Int))) rfl rfl)) ?_
  refine W.gq rfl rfl rfl rfl rfl (fun _ => (X.fieldAddr (ev' (.pointer (some ⟨b3, 0, none⟩)) rfl s14) fo30_3 (b := ⟨b3, 3, none⟩) (Addr.add_lit _ _ _))) ?_
  refine W.gq rfl rfl rfl rfl rfl (fun hc => (X.load (ev' (.pointer (some ⟨b3, 3, none⟩)) rfl (gvt hc rfl)) pt3 (Blk.lc hB5 (Msg.arr3 _)))) ?_
  refine W.gq rfl rfl rfl rfl rfl (fun _ => (X.fieldAddr (ev' (.pointer (some ⟨b, 0, none⟩)) rfl s13) fo30_3 (b := ⟨b, 3, none⟩) (Addr.add_lit _ _ _))) ?_
  refine W.gq rfl rfl rfl rfl rfl (fun hc => (X.load (ev' (.pointer (some ⟨b, 3, none⟩)) rfl (gvt hc rfl)) pt3 (Blk.lc h15 (Msg.arr3 _)))) ?_
  refine W.gq rfl rfl rfl rfl rfl (fun hc => (X.eql (ev' (.int .i64 d.no) rfl (gvt hc rfl)) (ev' (.int .i64 m.no) rfl (gvt hc rfl)))) ?_
  refine W.valN rfl rfl (X.and (ev' (.bool ((d.frm : Int) == (m.frm : Int))) rfl rfl) (ev' (gv (((d.frm : Int) == (m.frm : Int)) == true) (.bool ((d.no : Int) == (m.no : Int)))) rfl rfl)) ?_
  intro q16 eq16
  refine W.val rfl rfl (X.assign (ev' (.bool q16) rfl rfl)) ?_
  refine W.nil ?_
  refine then_n ?_
  refine W.fresh ?_
  intro r17 er18
  have s19 : r17 3 = .bool q16 := (congrFun er18 3).trans rfl
  clear er18
  refine W.ret (retT rfl rfl (show _ = (.bool q16 : Value) from s19) ⟨?_, R9⟩)
  subst eq16
  rfl

theorem find_c {bs : List Nat} {s : SV} {ms : List Msg} {fid : FuncId} {cap : Array Value} {p : Msg → Bool} (w : World) (hgo : goB fid = true) (hs : Sl bs w s ms) (hp : ∀ (m : Msg) (w' : World), Grow w w' → Calls Try.prog fid (#[.agg m.arr] ++ cap) w' (Ret fun v w'' => v = .bool (p m) ∧ Grow w' w'')) : Calls Try.prog 42 #[s.val, .func (.func fid) #[] cap] w (Ret fun v w' => v = .int .i64 (fnd p ms) ∧ Grow w w') := by
  refine enter (N := 19) Try.func42 rfl Try.ntmps42 rfl ?_
  intro ρ hρ
  have a0 : ρ 0 = s.val := hρ 0 _ rfl
  have a1 : ρ 1 = .func (.func fid) #[] cap := hρ 1 _ rfl
  clear hρ
  have R0 : Grow w w := Chg.refl w
  refine W.seq ?_
  refine W.reg ?_
  refine W.val rfl rfl (X.assign (evc' (.int .i64 0))) ?_
  refine W.nil ?_
  refine then_n ?_
  refine W.fresh ?_
  intro r2 er3
  have s4 : r2 0 = s.val := (congrFun er3 0).trans a0
  have s5 : r2 1 = .func (.func fid) #[] cap := (congrFun er3 1).trans a1
  clear er3
  refine W.seq ?_
  refine W.seq ?_
  refine W.reg ?_
  refine W.val rfl rfl (X.move (ev' (s.val) rfl s4)) ?_
  refine W.val rfl rfl (X.len (ev' (s.val) rfl rfl) st22) ?_
  refine W.val rfl rfl (X.move (evc' (.int .i64 0))) ?_
  refine W.nil ?_
  refine then_n ?_
  refine W.fresh ?_
  intro r6 er7
  have s8 : r6 1 = .func (.func fid) #[] cap := (congrFun er7 1).trans s5
  have s9 : r6 7 = s.val := (congrFun er7 7).trans rfl
  have s10 : r6 8 = .int .i64 (s.n : Int) := (congrFun er7 8).trans rfl
  have s11 : r6 9 = .int .i64 0 := (congrFun er7 9).trans rfl
  clear er7
  refine W.block ?_
  refine W.fresh ?_
  intro r12 er13
  have s14 : r12 1 = .func (.func fid) #[] cap := (congrFun er13 1).trans s8
  have s15 : r12 7 = s.val := (congrFun er13 7).trans s9
  have s16 : r12 8 = .int .i64 (s.n : Int) := (congrFun er13 8).trans s10
  have s17 : r12 9 = .int .i64 0 := (congrFun er13 9).trans s11
  clear er13
  refine W.count 9 s.n (fun I ρ W => I ≤ s.n ∧ ρ 9 = .int .i64 ((I : Nat) : Int) ∧ Chg [] w W ∧ ρ 1 = .func (.func fid) #[] cap ∧ ρ 7 = s.val ∧ ρ 8 = .int .i64 (s.n : Int) ∧ (∀ x ∈ ms.take I, p x = false)) 0 rfl
    ⟨Nat.zero_le _, s17, Chg.of_refl _ _, s14, s15, s16, take_zero _ _⟩ (fun I ρ W hJ => ⟨hJ.2.1, hJ.1⟩) ?_
  rintro i18 r19 w20 ⟨le21, s22, R23, s24, s25, s26, x27⟩
  have R29 := R0.gr R23
  refine W.seq ?_
  refine W.reg ?_
  refine W.val rfl rfl (X.lss (ev' (.int .i64 ((i18 : Nat) : Int)) rfl s22) (ev' (.int .i64 (s.n : Int)) rfl s26)) ?_
  refine W.nil ?_
  refine then_n ?_
  refine W.fresh ?_
  intro r30 er31
  have s32 : r30 1 = .func (.func fid) #[] cap := (congrFun er31 1).trans s24
  have s33 : r30 7 = s.val := (congrFun er31 7).trans s25
  have s34 : r30 8 = .int .i64 (s.n : Int) := (congrFun er31 8).trans s26
  have s35 : r30 9 = .int .i64 ((i18 : Nat) : Int) := (congrFun er31 9).trans s22
  have s36 : r30 10 = .bool (decide ((((i18 : Nat) : Int) : Int) < ((s.n : Int) : Int))) := (congrFun er31 10).trans rfl
  clear er31
  refine W.seq ?_
  refine W.cond rfl s36 (fun k37 => ?_) (fun k37 => ?_)
  · skip
    have lt28 : i18 < s.n := Int.ofNat_lt.1 (of_decide_eq_true k37)
    refine W.skip ?_
    refine then_n ?_
    refine W.seq ?_
    refine W.block ?_
    refine W.seq ?_
    refine W.reg ?_
    refine W.val rfl rfl (X.move (ev' (.int .i64 ((i18 : Nat) : Int)) rfl s35)) ?_
    have h40 := hs.gr R23
    obtain ⟨m38, hm39⟩ := some_of_lt (h40.len ▸ lt28)
    obtain ⟨eb41, eo42, ha43, lt44, hr45⟩ := Sl.rowAt h40 hm39
    refine W.val rfl rfl (X.idx (b := ⟨eb41, eo42 + i18 * 43, none⟩) (evs ha43 (ev' (s.val) rfl s33)) (ev' (.int .i64 ((i18 : Nat) : Int)) rfl s35) (Int.natCast_nonneg _) (Int.ofNat_lt.2 lt44) st22 sz30 (Addr.add_lit _ _ _)) ?_
    refine W.val rfl rfl (X.loadR (ev' (.pointer (some ⟨eb41, eo42 + i18 * 43, none⟩)) rfl rfl) rt30 hr45.r rfl) ?_
    refine W.eff rfl rfl (Y.alloc (cs := Msg.zero.arr) zero30 rfl) ?_
    rintro _ w47 ⟨b48, rfl, g49, hB50, lt51⟩
    have l52 := Nat.le_trans R23.size lt51
    have R53 := R23.gr g49
    refine W.val rfl rfl (X.assign (ev' (.int .i64 ((i18 : Nat) : Int)) rfl rfl)) ?_
    refine W.eff0 rfl rfl (Y.storeW (ds := m38.arr) (ev' (.pointer (some ⟨b48, 0, none⟩)) rfl rfl) (ev' (.agg m38.arr) rfl rfl) hB50 (Msg.size_arr _) sz30 (Msg.size_arr _) (Msg.oneCellA _) rfl) ?_
    rintro w55 ⟨c56, hB57⟩
    have R58 := R53.stN c56 l52
    refine W.nil ?_
    refine then_n ?_
    refine W.fresh ?_
    intro r60 er61
    have s62 : r60 1 = .func (.func fid) #[] cap := (congrFun er61 1).trans s32
    have s63 : r60 5 = .int .i64 ((i18 : Nat) : Int) := (congrFun er61 5).trans rfl
    have s64 : r60 6 = .pointer (some ⟨b48, 0, none⟩) := (congrFun er61 6).trans rfl
    have s65 : r60 7 = s.val := (congrFun er61 7).trans s33
    have s66 : r60 8 = .int .i64 (s.n : Int) := (congrFun er61 8).trans s34
    have s67 : r60 9 = .int .i64 ((i18 : Nat) : Int) := (congrFun er61 9).trans s35
    clear er61
    refine W.seq ?_
    refine W.reg ?_
    refine W.val rfl rfl (X.move (ev' (.func (.func fid) #[] cap) rfl s62)) ?_
    refine W.val rfl rfl (X.loadR (ev' (.pointer (some ⟨b48, 0, none⟩)) rfl s64) rt30 (row_blk_msg hB57) rfl) ?_
    refine W.call rfl rfl (X.callV (ev' (.func (.func fid) #[] cap) rfl rfl) hgo (argsV1 (ev' (.agg m38.arr) rfl rfl))) (hp m38 _ R58) ?_
    rintro _ w68 ⟨rfl, g69⟩
    have R70 := R58.gr g69
    refine W.nil ?_
    refine then_n ?_
    refine W.fresh ?_
    intro r71 er72
    have s73 : r71 1 = .func (.func fid) #[] cap := (congrFun er72 1).trans s62
    have s74 : r71 5 = .int .i64 ((i18 : Nat) : Int) := (congrFun er72 5).trans s63
    have s75 : r71 7 = s.val := (congrFun er72 7).trans s65
    have s76 : r71 8 = .int .i64 (s.n : Int) := (congrFun er72 8).trans s66
    have s77 : r71 9 = .int .i64 ((i18 : Nat) : Int) := (congrFun er72 9).trans s67
    have s78 : r71 16 = .bool (p m38) := (congrFun er72 16).trans rfl
    clear er72
    refine W.cond rfl s78 (fun k79 => ?_) (fun k79 => ?_)
    · skip
      refine W.seq ?_
      refine W.reg ?_
      refine W.val rfl rfl (X.move (ev' (.int .i64 ((i18 : Nat) : Int)) rfl s74)) ?_
      refine W.val rfl rfl (X.assign (ev' (.int .i64 ((i18 : Nat) : Int)) rfl rfl)) ?_
      refine W.nil ?_
      refine then_n ?_
      refine W.fresh ?_
      intro r80 er81
      have s82 : r80 4 = .int .i64 ((i18 : Nat) : Int) := (congrFun er81 4).trans rfl
      clear er81
      refine W.ret (inb_r (then_r (then_r (inb_r (then_r (retT rfl rfl (show _ = (.int .i64 ((i18 : Nat) : Int) : Value) from s82) ⟨?_, R70⟩))))))
      exact congrArg (Value.int .i64) (fnd_at hm39 k79 x27)
    · skip
      refine W.skip ?_
      refine inb_n ?_
      refine then_n ?_
      refine W.reg ?_
      refine W.val rfl rfl (X.inc (ev' (.int .i64 ((i18 : Nat) : Int)) rfl s77) (evc' (.int .i64 1)) lt28 hs.bnd) ?_
      refine W.val rfl rfl (X.move (ev' (.int .i64 ((i18 + 1 : Nat) : Int)) rfl rfl)) ?_
      refine W.nil ?_
      refine then_n ?_
      exact ⟨_, rfl, lt28, rfl, R70, s73, s75, s76, (take_step hm39 x27 k79)⟩
  · skip
    have ei83 : i18 = s.n := Nat.le_antisymm le21 (Nat.le_of_not_lt fun h => of_decide_eq_false k37 (Int.ofNat_lt.2 h))
    refine W.exit (then_x (then_x (inb_x ?_)))
    refine then_n ?_
    refine W.seq ?_
    refine W.reg ?_
    refine W.val rfl rfl (X.assign (evc' (.int .i64 (-1)))) ?_
    refine W.nil ?_
    refine then_n ?_
    refine W.fresh ?_
    intro r84 er85
    have s86 : r84 4 = .int .i64 (-1) := (congrFun er85 4).trans rfl
    clear er85
    refine W.ret (retT rfl rfl (show _ = (.int .i64 (-1) : Value) from s86) ⟨?_, R23⟩)
    exact congrArg (Value.int .i64) (fnd_none hs.len ei83 x27)

theorem answ_c {bs : List Nat} {s : SV} {ms : List Msg} (m : Msg) (w : World) (hs : Sl bs w s ms) : Calls Try.prog 44 #[.agg m.arr, s.val] w (Ret fun v w' => v = .bool (answ m ms) ∧ Grow w w') := by
  refine enter (N := 32) Try.func44 rfl Try.ntmps44 rfl ?_
  intro ρ hρ
  have a0 : ρ 0 = .agg m.arr := hρ 0 _ rfl
  have a1 : ρ 1 = s.val := hρ 1 _ rfl
  clear hρ
  have R0 : Grow w w := Chg.refl w
  refine W.seq ?_
  refine W.reg ?_
  refine W.eff rfl rfl (Y.box (cs := m.arr) (ev' (.agg m.arr) rfl a0) rfl) ?_
  rintro _ w2 ⟨b3, rfl, g4, hB5, lt6⟩
  have l7 := Nat.le_trans R0.size lt6
  have R8 := R0.gr g4
  refine W.val rfl rfl (X.assign (evc' (.bool false))) ?_
  refine W.nil ?_
  refine then_n ?_
  refine W.fresh ?_
  intro r10 er11
  have s12 : r10 1 = s.val := (congrFun er11 1).trans a1
  have s13 : r10 2 = .pointer (some ⟨b3, 0, none⟩) := (congrFun er11 2).trans rfl
  clear er11
  refine W.seq ?_
  by_cases hb14 : 0 ≤ m.no ∧ m.no ≤ (ms.length : Int) - 1
  · skip
    obtain ⟨x, hx⟩ := some_of_lt (show m.no.toNat < ms.length from by omega)
    refine A.begin' (cs := []) rfl ?_
    intro w15 g16
    have R17 := R8.gr g16
    have R18 : Chg [] w15 w15 := Chg.of_refl _ _
    refine A.take (i := 0) rfl (by kernel_rfl) (by kernel_rfl) (by kernel_rfl) (fun _ _ _ h => h) R18 rfl rfl (fun _ _ => (X.fieldAddr (ev' (.pointer (some ⟨b3, 0, none⟩)) rfl s13) fo30_3 (b := ⟨b3, 3, none⟩) (Addr.add_lit _ _ _))) ?_
    have h19 := hB5.gr g16
    refine A.take (i := 1) rfl (by kernel_rfl) (by kernel_rfl) (by kernel_rfl) (fun _ _ _ h => h) R18 rfl rfl (fun _ hw => (X.load (ev' (.pointer (some ⟨b3, 3, none⟩)) rfl rfl) pt3 (Blk.lc (h19.gr hw) (Msg.arr3 _)))) ?_
    refine A.take (i := 2) rfl (by kernel_rfl) (by kernel_rfl) (by kernel_rfl) (fun _ _ _ h => h) R18 rfl rfl (fun _ _ => (X.move (ev' (s.val) rfl s12))) ?_
    refine A.take (i := 3) rfl (by kernel_rfl) (by kernel_rfl) (by kernel_rfl) (fun _ _ _ h => h) R18 rfl rfl (fun _ _ => (X.len (ev' (s.val) rfl rfl) st22)) ?_
    refine A.take (i := 4) rfl (by kernel_rfl) (by kernel_rfl) (by kernel_rfl) (fun _ _ _ h => h) R18 rfl rfl (fun _ _ => (X.subIn (ev' (.int .i64 (s.n : Int)) rfl rfl) (evc' (.int .i64 1)) (by have := hs.bnd; omega) (by have := hs.bnd; omega))) ?_
    refine A.one (i := 5) (by kernel_rfl) ?_
    refine E.call (i := 5) rfl rfl rfl (X.callF go41 (args3 (ev' (.int .i64 m.no) rfl rfl) (evc' (.int .i64 0)) (ev' (.int .i64 ((s.n : Int) - 1)) rfl rfl))) (between_c m.no 0 ((s.n : Int) - 1) _) ?_
    rintro _ w20 ⟨rfl, g21⟩
    have R22 := R17.gr g21
    have R23 := R18.gr g21
    refine ⟨R23, ?_⟩
    refine A.take (i := 6) rfl (by kernel_rfl) (by kernel_rfl) (by kernel_rfl) (fun _ _ _ h => h) R23 rfl rfl (fun _ _ => (X.move (ev' (.bool (decide (0 ≤ m.no ∧ m.no ≤ (s.n : Int) - 1))) rfl rfl))) ?_
    refine A.takeG (i := 7) rfl (by kernel_rfl) (by kernel_rfl) (by kernel_rfl) (fun _ _ _ _ h => h) R23 rfl rfl rfl rfl rfl (fun _ _ _ => (X.move (ev' (s.val) rfl s12))) ?_
    refine A.takeG (i := 8) rfl (by kernel_rfl) (by kernel_rfl) (by kernel_rfl) (fun _ _ _ _ h => h) R23 rfl rfl rfl rfl rfl (fun _ _ _ => (X.fieldAddr (ev' (.pointer (some ⟨b3, 0, none⟩)) rfl s13) fo30_3 (b := ⟨b3, 3, none⟩) (Addr.add_lit _ _ _))) ?_
    refine A.takeG (i := 9) rfl (by kernel_rfl) (by kernel_rfl) (by kernel_rfl) (fun _ _ _ _ h => h) R23 rfl rfl rfl rfl rfl (fun hc _ hw => (X.load (ev' (.pointer (some ⟨b3, 3, none⟩)) rfl (gvt hc rfl)) pt3 (Blk.lc (h19.gr hw) (Msg.arr3 _)))) ?_
    have h24 := (hs.ext lt6).gr g4
    have h25 := h24.gr g16
    obtain ⟨eb26, eo27, ha28, lt29, hr30⟩ := Sl.rowAt h25 hx
    refine A.takeG (i := 10) rfl (by kernel_rfl) (by kernel_rfl) (by kernel_rfl) (fun _ _ _ _ h => h) R23 rfl rfl rfl rfl rfl (fun hc _ _ => (X.idx (b := ⟨eb26, eo27 + m.no.toNat * 43, none⟩) (evs ha28 (ev' (s.val) rfl (gvt hc rfl))) (ev' (.int .i64 m.no) rfl (gvt hc rfl)) hb14.1 (idx_lt hb14.1 lt29) st22 sz30 (Addr.add_lit _ _ _))) ?_
    refine A.takeG (i := 11) rfl (by kernel_rfl) (by kernel_rfl) (by kernel_rfl) (fun _ _ _ _ h => h) R23 rfl rfl rfl rfl rfl (fun hc _ _ => (X.fieldAddr (ev' (.pointer (some ⟨eb26, eo27 + m.no.toNat * 43, none⟩)) rfl (gvt hc rfl)) fo30_0 (b := ⟨eb26, eo27 + m.no.toNat * 43, none⟩) (Addr.add_lit _ _ _))) ?_
    refine A.takeG (i := 12) rfl (by kernel_rfl) (by kernel_rfl) (by kernel_rfl) (fun _ _ _ _ h => h) R23 rfl rfl rfl rfl rfl (fun hc _ hw => (X.load (ev' (.pointer (some ⟨eb26, eo27 + m.no.toNat * 43, none⟩)) rfl (gvt hc rfl)) pt3 (cell_of_rowM (k := 0) (hr30.gr hw).r (Msg.arr0 _)))) ?_
    refine A.one (i := 13) (by kernel_rfl) ?_
    refine E.gcallS (i := 13) rfl rfl rfl rfl rfl rfl (fun hc => X.callF go37 (args1 (ev' (.int .i64 x.kind) rfl (gvt hc rfl)))) (fun _ => (placed_c x.kind _)) ?_
    intro w32 g33
    have R34 := R22.gr g33
    have R35 := R23.gr g33
    refine ⟨R35, ?_⟩
    refine A.take (i := 14) rfl (by kernel_rfl) (by kernel_rfl) (by kernel_rfl) (fun _ _ _ h => h) R35 rfl rfl (fun _ _ => (X.and (ev' (.bool (decide (0 ≤ m.no ∧ m.no ≤ (s.n : Int) - 1))) rfl rfl) (ev' (gv ((decide (0 ≤ m.no ∧ m.no ≤ (s.n : Int) - 1)) == true) (.bool (x.kind == 1 || x.kind == 3))) rfl rfl))) ?_
    refine A.take (i := 15) rfl (by kernel_rfl) (by kernel_rfl) (by kernel_rfl) (fun _ _ _ h => h) R35 rfl rfl (fun _ _ => (X.move (ev' (.bool ((decide (0 ≤ m.no ∧ m.no ≤ (s.n : Int) - 1)) && (x.kind == 1 || x.kind == 3))) rfl rfl))) ?_
    refine A.takeG (i := 16) rfl (by kernel_rfl) (by kernel_rfl) (by kernel_rfl) (fun _ _ _ _ h => h) R35 rfl rfl rfl rfl rfl (fun _ _ _ => (X.move (ev' (s.val) rfl s12))) ?_
    refine A.takeG (i := 17) rfl (by kernel_rfl) (by kernel_rfl) (by kernel_rfl) (fun _ _ _ _ h => h) R35 rfl rfl rfl rfl rfl (fun _ _ _ => (X.fieldAddr (ev' (.pointer (some ⟨b3, 0, none⟩)) rfl s13) fo30_3 (b := ⟨b3, 3, none⟩) (Addr.add_lit _ _ _))) ?_
    refine A.takeG (i := 18) rfl (by kernel_rfl) (by kernel_rfl) (by kernel_rfl) (fun _ _ _ _ h => h) R35 rfl rfl rfl rfl rfl (fun hc _ hw => (X.load (ev' (.pointer (some ⟨b3, 3, none⟩)) rfl (gvt hc rfl)) pt3 (Blk.lc (h19.gr hw) (Msg.arr3 _)))) ?_
    obtain ⟨eb36, eo37, ha38, lt39, hr40⟩ := Sl.rowAt h25 hx
    refine A.takeG (i := 19) rfl (by kernel_rfl) (by kernel_rfl) (by kernel_rfl) (fun _ _ _ _ h => h) R35 rfl rfl rfl rfl rfl (fun hc _ _ => (X.idx (b := ⟨eb36, eo37 + m.no.toNat * 43, none⟩) (evs ha38 (ev' (s.val) rfl (gvt hc rfl))) (ev' (.int .i64 m.no) rfl (gvt hc rfl)) hb14.1 (idx_lt hb14.1 lt39) st22 sz30 (Addr.add_lit _ _ _))) ?_
    refine A.takeG (i := 20) rfl (by kernel_rfl) (by kernel_rfl) (by kernel_rfl) (fun _ _ _ _ h => h) R35 rfl rfl rfl rfl rfl (fun hc _ hw => (X.loadR (ev' (.pointer (some ⟨eb36, eo37 + m.no.toNat * 43, none⟩)) rfl (gvt hc rfl)) rt30 (hr40.gr hw).r rfl)) ?_
    refine A.takeG (i := 23) rfl (by kernel_rfl) (by kernel_rfl) (by kernel_rfl) (fun _ _ _ _ h => h) R35 rfl rfl rfl rfl rfl (fun _ _ hw => (X.loadR (ev' (.pointer (some ⟨b3, 0, none⟩)) rfl s13) rt30 (row_blk_msg (h19.gr hw)) rfl)) ?_
    refine A.one (i := 21) (by kernel_rfl) ?_
    refine E.gcallS (i := 21) rfl rfl rfl rfl rfl rfl (fun hc => X.callF go68 (args1 (ev' (.agg x.arr) rfl (gvt hc rfl)))) (fun _ => (ansW_c x _)) ?_
    intro w42 g43
    have R44 := R34.gr g43
    have R45 := R35.gr g43
    refine ⟨R45, ?_⟩
    refine A.one (i := 22) (by kernel_rfl) ?_
    refine E.gcallS (i := 22) rfl rfl rfl rfl rfl rfl (fun hc => X.callF go67 (args1 (ev' (.agg (ansW x).arr) rfl (gvt hc rfl)))) (fun _ => (nums_c (ansW x) _)) ?_
    intro w46 g47
    have R48 := R44.gr g47
    have R49 := R45.gr g47
    refine ⟨R49, ?_⟩
    refine A.one (i := 24) (by kernel_rfl) ?_
    refine E.gcallS (i := 24) rfl rfl rfl rfl rfl rfl (fun hc => X.callF go67 (args1 (ev' (.agg m.arr) rfl (gvt hc rfl)))) (fun _ => (nums_c m _)) ?_
    intro w50 g51
    have R52 := R48.gr g51
    have R53 := R49.gr g51
    refine ⟨R53, ?_⟩
    refine A.takeG (i := 25) rfl (by kernel_rfl) (by kernel_rfl) (by kernel_rfl) (fun _ _ _ _ h => h) R53 rfl rfl rfl rfl rfl (fun hc _ _ => (X.eqlNums (ev' (.agg (numArr (ansW x))) rfl (gvt hc rfl)) (ev' (.agg (numArr m)) rfl (gvt hc rfl)))) ?_
    refine A.take (i := 26) rfl (by kernel_rfl) (by kernel_rfl) (by kernel_rfl) (fun _ _ _ h => h) R53 rfl rfl (fun _ _ => (X.and (ev' (.bool ((decide (0 ≤ m.no ∧ m.no ≤ (s.n : Int) - 1)) && (x.kind == 1 || x.kind == 3))) rfl rfl) (ev' (gv (((decide (0 ≤ m.no ∧ m.no ≤ (s.n : Int) - 1)) && (x.kind == 1 || x.kind == 3)) == true) (.bool (nums (ansW x) m))) rfl rfl))) ?_
    refine A.take (i := 27) rfl (by kernel_rfl) (by kernel_rfl) (by kernel_rfl) (fun _ _ _ h => h) R53 rfl rfl (fun _ _ => (X.assign (ev' (.bool (((decide (0 ≤ m.no ∧ m.no ≤ (s.n : Int) - 1)) && (x.kind == 1 || x.kind == 3)) && (nums (ansW x) m))) rfl rfl))) ?_
    refine A.done (by kernel_rfl) ?_
    refine then_n ?_
    refine W.fresh ?_
    intro r54 er55
    have s56 : r54 4 = .bool (((decide (0 ≤ m.no ∧ m.no ≤ (s.n : Int) - 1)) && (x.kind == 1 || x.kind == 3)) && (nums (ansW x) m)) := (congrFun er55 4).trans rfl
    clear er55
    refine W.ret (retT rfl rfl (show _ = (.bool (((decide (0 ≤ m.no ∧ m.no ≤ (s.n : Int) - 1)) && (x.kind == 1 || x.kind == 3)) && (nums (ansW x) m)) : Value) from s56) ⟨?_, R52⟩)
    refine congrArg Value.bool ?_
    simp only [answ, begins, nth_of hx, hs.len]
  · skip
    refine A.begin' (cs := []) rfl ?_
    intro w57 g58
    have R59 := R8.gr g58
    have R60 : Chg [] w57 w57 := Chg.of_refl _ _
    refine A.take (i := 0) rfl (by kernel_rfl) (by kernel_rfl) (by kernel_rfl) (fun _ _ _ h => h) R60 rfl rfl (fun _ _ => (X.fieldAddr (ev' (.pointer (some ⟨b3, 0, none⟩)) rfl s13) fo30_3 (b := ⟨b3, 3, none⟩) (Addr.add_lit _ _ _))) ?_
    have h61 := hB5.gr g58
    refine A.take (i := 1) rfl (by kernel_rfl) (by kernel_rfl) (by kernel_rfl) (fun _ _ _ h => h) R60 rfl rfl (fun _ hw => (X.load (ev' (.pointer (some ⟨b3, 3, none⟩)) rfl rfl) pt3 (Blk.lc (h61.gr hw) (Msg.arr3 _)))) ?_
    refine A.take (i := 2) rfl (by kernel_rfl) (by kernel_rfl) (by kernel_rfl) (fun _ _ _ h => h) R60 rfl rfl (fun _ _ => (X.move (ev' (s.val) rfl s12))) ?_
    refine A.take (i := 3) rfl (by kernel_rfl) (by kernel_rfl) (by kernel_rfl) (fun _ _ _ h => h) R60 rfl rfl (fun _ _ => (X.len (ev' (s.val) rfl rfl) st22)) ?_
    refine A.take (i := 4) rfl (by kernel_rfl) (by kernel_rfl) (by kernel_rfl) (fun _ _ _ h => h) R60 rfl rfl (fun _ _ => (X.subIn (ev' (.int .i64 (s.n : Int)) rfl rfl) (evc' (.int .i64 1)) (by have := hs.bnd; omega) (by have := hs.bnd; omega))) ?_
    refine A.one (i := 5) (by kernel_rfl) ?_
    refine E.call (i := 5) rfl rfl rfl (X.callF go41 (args3 (ev' (.int .i64 m.no) rfl rfl) (evc' (.int .i64 0)) (ev' (.int .i64 ((s.n : Int) - 1)) rfl rfl))) (between_c m.no 0 ((s.n : Int) - 1) _) ?_
    rintro _ w62 ⟨rfl, g63⟩
    have R64 := R59.gr g63
    have R65 := R60.gr g63
    refine ⟨R65, ?_⟩
    refine A.take (i := 6) rfl (by kernel_rfl) (by kernel_rfl) (by kernel_rfl) (fun _ _ _ h => h) R65 rfl rfl (fun _ _ => (X.move (ev' (.bool (decide (0 ≤ m.no ∧ m.no ≤ (s.n : Int) - 1))) rfl rfl))) ?_
    refine A.takeGD (i := 7) rfl (by kernel_rfl) (by kernel_rfl) (by kernel_rfl) (fun _ _ _ _ h => h) R65 rfl rfl rfl rfl rfl (by have := hs.len; simp; omega) ?_
    refine A.takeGD (i := 8) rfl (by kernel_rfl) (by kernel_rfl) (by kernel_rfl) (fun _ _ _ _ h => h) R65 rfl rfl rfl rfl rfl (by have := hs.len; simp; omega) ?_
    refine A.takeGD (i := 9) rfl (by kernel_rfl) (by kernel_rfl) (by kernel_rfl) (fun _ _ _ _ h => h) R65 rfl rfl rfl rfl rfl (by have := hs.len; simp; omega) ?_
    refine A.takeGD (i := 10) rfl (by kernel_rfl) (by kernel_rfl) (by kernel_rfl) (fun _ _ _ _ h => h) R65 rfl rfl rfl rfl rfl (by have := hs.len; simp; omega) ?_
    refine A.takeGD (i := 11) rfl (by kernel_rfl) (by kernel_rfl) (by kernel_rfl) (fun _ _ _ _ h => h) R65 rfl rfl rfl rfl rfl (by have := hs.len; simp; omega) ?_
    refine A.takeGD (i := 12) rfl (by kernel_rfl) (by kernel_rfl) (by kernel_rfl) (fun _ _ _ _ h => h) R65 rfl rfl rfl rfl rfl (by have := hs.len; simp; omega) ?_
    refine A.takeGD (i := 13) rfl (by kernel_rfl) (by kernel_rfl) (by kernel_rfl) (fun _ _ _ _ h => h) R65 rfl rfl rfl rfl rfl (by have := hs.len; simp; omega) ?_
    refine A.take (i := 14) rfl (by kernel_rfl) (by kernel_rfl) (by kernel_rfl) (fun _ _ _ h => h) R65 rfl rfl (fun _ _ => (X.and (ev' (.bool (decide (0 ≤ m.no ∧ m.no ≤ (s.n : Int) - 1))) rfl rfl) (ev' (gv ((decide (0 ≤ m.no ∧ m.no ≤ (s.n : Int) - 1)) == true) (.bool false)) rfl rfl))) ?_
    refine A.take (i := 15) rfl (by kernel_rfl) (by kernel_rfl) (by kernel_rfl) (fun _ _ _ h => h) R65 rfl rfl (fun _ _ => (X.move (ev' (.bool ((decide (0 ≤ m.no ∧ m.no ≤ (s.n : Int) - 1)) && false)) rfl rfl))) ?_
    refine A.takeGD (i := 16) rfl (by kernel_rfl) (by kernel_rfl) (by kernel_rfl) (fun _ _ _ _ h => h) R65 rfl rfl rfl rfl rfl (by simp) ?_
    refine A.takeGD (i := 17) rfl (by kernel_rfl) (by kernel_rfl) (by kernel_rfl) (fun _ _ _ _ h => h) R65 rfl rfl rfl rfl rfl (by simp) ?_
    refine A.takeGD (i := 18) rfl (by kernel_rfl) (by kernel_rfl) (by kernel_rfl) (fun _ _ _ _ h => h) R65 rfl rfl rfl rfl rfl (by simp) ?_
    refine A.takeGD (i := 19) rfl (by kernel_rfl) (by kernel_rfl) (by kernel_rfl) (fun _ _ _ _ h => h) R65 rfl rfl rfl rfl rfl (by simp) ?_
    refine A.takeGD (i := 20) rfl (by kernel_rfl) (by kernel_rfl) (by kernel_rfl) (fun _ _ _ _ h => h) R65 rfl rfl rfl rfl rfl (by simp) ?_
    refine A.takeGD (i := 21) rfl (by kernel_rfl) (by kernel_rfl) (by kernel_rfl) (fun _ _ _ _ h => h) R65 rfl rfl rfl rfl rfl (by simp) ?_
    refine A.takeGD (i := 22) rfl (by kernel_rfl) (by kernel_rfl) (by kernel_rfl) (fun _ _ _ _ h => h) R65 rfl rfl rfl rfl rfl (by simp) ?_
    refine A.takeGD (i := 23) rfl (by kernel_rfl) (by kernel_rfl) (by kernel_rfl) (fun _ _ _ _ h => h) R65 rfl rfl rfl rfl rfl (by simp) ?_
    refine A.takeGD (i := 24) rfl (by kernel_rfl) (by kernel_rfl) (by kernel_rfl) (fun _ _ _ _ h => h) R65 rfl rfl rfl rfl rfl (by simp) ?_
    refine A.takeGD (i := 25) rfl (by kernel_rfl) (by kernel_rfl) (by kernel_rfl) (fun _ _ _ _ h => h) R65 rfl rfl rfl rfl rfl (by simp) ?_
    refine A.take (i := 26) rfl (by kernel_rfl) (by kernel_rfl) (by kernel_rfl) (fun _ _ _ h => h) R65 rfl rfl (fun _ _ => (X.and (ev' (.bool ((decide (0 ≤ m.no ∧ m.no ≤ (s.n : Int) - 1)) && false)) rfl rfl) (ev' (gv (((decide (0 ≤ m.no ∧ m.no ≤ (s.n : Int) - 1)) && false) == true) (.bool false)) rfl rfl))) ?_
    refine A.take (i := 27) rfl (by kernel_rfl) (by kernel_rfl) (by kernel_rfl) (fun _ _ _ h => h) R65 rfl rfl (fun _ _ => (X.assign (ev' (.bool (((decide (0 ≤ m.no ∧ m.no ≤ (s.n : Int) - 1)) && false) && false)) rfl rfl))) ?_
    refine A.done (by kernel_rfl) ?_
    refine then_n ?_
    refine W.fresh ?_
    intro r66 er67
    have s68 : r66 4 = .bool (((decide (0 ≤ m.no ∧ m.no ≤ (s.n : Int) - 1)) && false) && false) := (congrFun er67 4).trans rfl
    clear er67
    refine W.ret (retT rfl rfl (show _ = (.bool (((decide (0 ≤ m.no ∧ m.no ≤ (s.n : Int) - 1)) && false) && false) : Value) from s68) ⟨?_, R64⟩)
    refine congrArg Value.bool ?_
    simp [answ, hb14]

end Go.Proofs.Ytigimkmkbdnlpaa
