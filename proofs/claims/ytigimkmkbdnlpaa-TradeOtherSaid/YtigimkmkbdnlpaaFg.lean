/- The chapter examples: sane. Printed by gen.py. -/
import Derived.Test.YtigimkmkbdnlpaaFd
import Derived.Test.YtigimkmkbdnlpaaFe
import Derived.Test.YtigimkmkbdnlpaaFf
import Derived.Test.YtigimkmkbdnlpaaSane
namespace Go.Proofs.Ytigimkmkbdnlpaa
open Go.RowKit

theorem new_c (w : World) : Calls Try.prog 21 #[] w (Ret fun v w' => v = TV.zero.val ∧ Grow w w') := by
  refine enter (N := 2) Try.func21 rfl Try.ntmps21 rfl ?_
  intro ρ hρ
  clear hρ
  have R0 : Grow w w := Chg.refl w
  refine W.seq ?_
  refine W.reg ?_
  refine W.eff rfl rfl (Y.alloc (cs := TV.zero.arr) zero24 rfl) ?_
  rintro _ w1 ⟨b2, rfl, g3, hB4, lt5⟩
  have l6 := Nat.le_trans R0.size lt5
  have R7 := R0.gr g3
  refine W.nil ?_
  refine then_n ?_
  refine W.fresh ?_
  intro r9 er10
  have s11 : r9 0 = .pointer (some ⟨b2, 0, none⟩) := (congrFun er10 0).trans rfl
  clear er10
  refine W.seq ?_
  refine W.reg ?_
  refine W.val rfl rfl X.build24 ?_
  refine W.eff0 rfl rfl (Y.storeW (ds := TV.zero.arr) (ev' (.pointer (some ⟨b2, 0, none⟩)) rfl s11) (ev' (TV.zero.val) rfl rfl) hB4 (n := 4) rfl sz24 rfl (TV.oneCell _) rfl) ?_
  rintro w12 ⟨c13, hB14⟩
  have R15 := R7.stN c13 l6
  refine W.nil ?_
  refine then_n ?_
  refine W.fresh ?_
  intro r17 er18
  have s19 : r17 0 = .pointer (some ⟨b2, 0, none⟩) := (congrFun er18 0).trans s11
  clear er18
  refine W.ret (retC rfl rfl (show _ = (.pointer (some ⟨b2, 0, none⟩) : Value) from s19) (run_loadAt_row rt24 (row_blk_trade hB14)) ⟨?_, R15⟩)
  rfl

theorem order_c (a b : Int) (w : World) : Calls Try.prog 34 #[.int .i64 a, .int .i64 b] w (Ret fun v w' => v = .agg (orderM a b).arr ∧ Grow w w') := by
  refine enter (N := 8) Try.func34 rfl Try.ntmps34 rfl ?_
  intro ρ hρ
  have a0 : ρ 0 = .int .i64 a := hρ 0 _ rfl
  have a1 : ρ 1 = .int .i64 b := hρ 1 _ rfl
  clear hρ
  have R0 : Grow w w := Chg.refl w
  refine W.seq ?_
  refine W.reg ?_
  refine W.eff rfl rfl (Y.alloc (cs := Msg.zero.arr) zero30 rfl) ?_
  rintro _ w1 ⟨b2, rfl, g3, hB4, lt5⟩
  have l6 := Nat.le_trans R0.size lt5
  have R7 := R0.gr g3
  refine W.nil ?_
  refine then_n ?_
  refine W.fresh ?_
  intro r9 er10
  have s11 : r9 0 = .int .i64 a := (congrFun er10 0).trans a0
  have s12 : r9 1 = .int .i64 b := (congrFun er10 1).trans a1
  have s13 : r9 4 = .pointer (some ⟨b2, 0, none⟩) := (congrFun er10 4).trans rfl
  clear er10
  refine W.seq ?_
  refine W.reg ?_
  refine W.val rfl rfl (X.move (ev' (.int .i64 a) rfl s11)) ?_
  refine W.val rfl rfl (X.move (ev' (.int .i64 b) rfl s12)) ?_
  refine W.val rfl rfl (X.build30 (m := (orderM a b)) (qs := #[(0, .int .i64 1), (1, .int .i64 a), (2, .int .i64 b), (3, .int .i64 77), (4, .int .i64 2), (5, .int .i64 5), (6, .int .i64 9)]) (by simp [evc]; exact ⟨(ev' (.int .i64 a) rfl rfl), (ev' (.int .i64 b) rfl rfl)⟩) (fun w => by kernel_rfl)) ?_
  refine W.eff0 rfl rfl (Y.storeW (ds := (orderM a b).arr) (ev' (.pointer (some ⟨b2, 0, none⟩)) rfl s13) (ev' (.agg (orderM a b).arr) rfl rfl) hB4 (Msg.size_arr _) sz30 (Msg.size_arr _) (Msg.oneCellA _) rfl) ?_
  rintro w14 ⟨c15, hB16⟩
  have R17 := R7.stN c15 l6
  refine W.nil ?_
  refine then_n ?_
  refine W.fresh ?_
  intro r19 er20
  have s21 : r19 4 = .pointer (some ⟨b2, 0, none⟩) := (congrFun er20 4).trans s13
  clear er20
  refine W.ret (retC rfl rfl (show _ = (.pointer (some ⟨b2, 0, none⟩) : Value) from s21) (run_loadAt_row rt30 (row_blk_msg hB16)) ⟨?_, R17⟩)
  rfl

theorem sane_c (w : World) : Calls Try.prog 9 #[] w (Ret fun v w' => v = .bool (true) ∧ Grow w w') := by
  refine enter (N := 248) Try.func9 rfl Try.ntmps9 rfl ?_
  intro ρ hρ
  clear hρ
  have R0 : Grow w w := Chg.refl w
  refine W.seq ?_
  refine W.reg ?_
  refine W.val rfl rfl (X.assign (evc' (.bool false))) ?_
  refine W.nil ?_
  refine then_n ?_
  refine W.fresh ?_
  intro r2 er3
  clear er3
  refine W.seq ?_
  refine W.reg ?_
  refine W.call rfl rfl (X.callF go21 (by simp)) (new_c _) ?_
  rintro _ w4 ⟨rfl, g5⟩
  have R6 := R0.gr g5
  refine W.eff rfl rfl (Y.alloc (cs := TV.zero.arr) zero24 rfl) ?_
  rintro _ w7 ⟨b8, rfl, g9, hB10, lt11⟩
  have l12 := Nat.le_trans R6.size lt11
  have R13 := R6.gr g9
  refine W.eff0 rfl rfl (Y.storeW (ds := TV.zero.arr) (ev' (.pointer (some ⟨b8, 0, none⟩)) rfl rfl) (ev' (TV.zero.val) rfl rfl) hB10 (n := 4) rfl sz24 rfl (TV.oneCell _) rfl) ?_
  rintro w15 ⟨c16, hB17⟩
  have R18 := R13.stN c16 l12
  refine W.nil ?_
  refine then_n ?_
  refine W.fresh ?_
  intro r20 er21
  have s22 : r20 1 = .pointer (some ⟨b8, 0, none⟩) := (congrFun er21 1).trans rfl
  clear er21
  refine W.seq ?_
  refine W.cut (fun a W => ∃ (ρ : Ro) (cb23 : Nat) (cb24 : Nat) (cT25 : TV), a = mk 248 ρ ∧ Chg [] w15 W ∧ ρ 1 = .pointer (some ⟨b8, 0, none⟩) ∧ ρ 2 = .pointer (some ⟨cb23, 0, none⟩) ∧ ρ 3 = .pointer (some ⟨cb24, 0, none⟩) ∧ ρ 4 = .int .i64 0 ∧ Blk W cb23 24 (TV.arr cT25) ∧ Tr (cb24 :: cb23 :: b8 :: []) W cT25 A1 ∧ Blk W cb24 30 (M1.arr) ∧ w15.heap.size ≤ cb23 ∧ w15.heap.size ≤ cb24 ∧ cb23 ≠ cb24) ?_ ?_
  · skip
    have R26 : Chg [] w15 w15 := Chg.of_refl _ _
    refine A.begin' (cs := []) rfl ?_
    intro w27 g28
    have R29 := R18.gr g28
    have R30 := R26.gr g28
    have R31 : Chg [] w27 w27 := Chg.of_refl _ _
    have h32 := hB17.gr g28
    refine A.take (i := 0) rfl (by kernel_rfl) (by kernel_rfl) (by kernel_rfl) (fun _ _ _ h => h) R31 rfl rfl (fun _ hw => (X.loadR (ev' (.pointer (some ⟨b8, 0, none⟩)) rfl s22) rt24 (row_blk_trade (h32.gr hw)) rfl)) ?_
    refine A.three (i := 1) (j := 7) (l := 8) (by kernel_rfl) ?_ ?_ ?_
    · skip
      refine E.call (i := 1) rfl rfl rfl (X.callF go34 (args2 (evc' (.int .i64 3)) (evc' (.int .i64 4)))) (order_c 3 4 _) ?_
      rintro _ w33 ⟨rfl, g34⟩
      have R35 := R29.gr g34
      have R36 := R30.gr g34
      have R37 := R31.gr g34
      refine ⟨R37, ?_⟩
      refine A.three (i := 2) (j := 7) (l := 8) (by kernel_rfl) ?_ ?_ ?_
      · skip
        have h38 := (LtAll.nil w).gr g5
        have h39 := h38.new g9 hB10.lt
        have h40 := h39.gr c16
        have h41 := h40.gr g28
        have h42 := h41.gr g34
        refine E.call (i := 2) rfl rfl rfl (X.callF go12 (args2 (ev' (TV.zero.val) rfl rfl) (ev' (.agg (orderM 3 4).arr) rfl rfl))) (tplace_c (orderM 3 4) _ (Tr.zero_ (b8 :: []) _) h42) ?_
        rintro _ w43 ⟨T44, rfl, hT45, g46⟩
        have R47 := R35.gr g46
        have R48 := R36.gr g46
        have R49 := R37.gr g46
        rw [s1]
        have hT50 : Tr (b8 :: []) w43 T44 A1 := by rw [s1] at hT45; exact hT45
        refine ⟨R49, ?_⟩
        refine A.take (i := 3) rfl (by kernel_rfl) (by kernel_rfl) (by kernel_rfl) (fun _ _ _ h => h) R49 rfl rfl (fun _ _ => (X.move (ev' (.tuple #[T44.val, .agg M1.arr, .int .i64 0]) rfl rfl))) ?_
        refine A.take (i := 4) rfl (by kernel_rfl) (by kernel_rfl) (by kernel_rfl) (fun _ _ _ h => h) R49 rfl rfl (fun _ _ => (X.extract (ev' (.tuple #[T44.val, .agg M1.arr, .int .i64 0]) rfl rfl) rfl)) ?_
        refine A.take (i := 5) rfl (by kernel_rfl) (by kernel_rfl) (by kernel_rfl) (fun _ _ _ h => h) R49 rfl rfl (fun _ _ => (X.extract (ev' (.tuple #[T44.val, .agg M1.arr, .int .i64 0]) rfl rfl) rfl)) ?_
        refine A.take (i := 6) rfl (by kernel_rfl) (by kernel_rfl) (by kernel_rfl) (fun _ _ _ h => h) R49 rfl rfl (fun _ _ => (X.extract (ev' (.tuple #[T44.val, .agg M1.arr, .int .i64 0]) rfl rfl) rfl)) ?_
        refine A.two (i := 7) (j := 8) (by kernel_rfl) ?_ ?_
        · skip
          refine E.eff (i := 7) rfl rfl rfl (Y.alloc (cs := TV.zero.arr) zero24 rfl) ?_
          rintro _ w52 ⟨b53, rfl, g54, hB55, lt56⟩
          have h57 := h32.gr g34
          have h58 := h57.gr g46
          have ne59 := h58.ne lt56
          have l60 := Nat.le_trans R47.size lt56
          have l61 := Nat.le_trans R48.size lt56
          have l62 := Nat.le_trans R49.size lt56
          have R63 := R47.gr g54
          have R64 := R48.gr g54
          have R65 := R49.gr g54
          refine ⟨R65, ?_⟩
          refine A.one (i := 8) (by kernel_rfl) ?_
          refine E.eff (i := 8) rfl rfl rfl (Y.alloc (cs := Msg.zero.arr) zero30 rfl) ?_
          rintro _ w67 ⟨b68, rfl, g69, hB70, lt71⟩
          have h72 := h58.gr g54
          have ne73 := h72.ne lt71
          have ne74 := hB55.ne lt71
          have l75 := Nat.le_trans R63.size lt71
          have l76 := Nat.le_trans R64.size lt71
          have l77 := Nat.le_trans R65.size lt71
          have R78 := R63.gr g69
          have R79 := R64.gr g69
          have R80 := R65.gr g69
          refine ⟨R80, ?_⟩
          refine A.one (i := 9) (by kernel_rfl) ?_
          have h82 := hB55.gr g69
          refine E.eff0 (i := 9) rfl rfl rfl (Y.storeW (ds := T44.arr) (ev' (.pointer (some ⟨b53, 0, none⟩)) rfl rfl) (ev' (T44.val) rfl rfl) h82 (n := 4) rfl sz24 rfl (TV.oneCell _) rfl) ?_
          rintro w83 ⟨c84, hB85⟩
          have R86 := R78.stN c84 l60
          have R87 := R79.stN c84 l61
          have R88 := R80.stN c84 l62
          refine ⟨R88, ?_⟩
          refine A.one (i := 10) (by kernel_rfl) ?_
          have h90 := hB70.st c84 ne74.symm
          refine E.eff0 (i := 10) rfl rfl rfl (Y.storeW (ds := M1.arr) (ev' (.pointer (some ⟨b68, 0, none⟩)) rfl rfl) (ev' (.agg M1.arr) rfl rfl) h90 (Msg.size_arr _) sz30 (Msg.size_arr _) (Msg.oneCellA _) rfl) ?_
          rintro w91 ⟨c92, hB93⟩
          have R94 := R86.stN c92 l75
          have R95 := R87.stN c92 l76
          have R96 := R88.stN c92 l77
          refine ⟨R96, ?_⟩
          refine A.take (i := 11) rfl (by kernel_rfl) (by kernel_rfl) (by kernel_rfl) (fun _ _ _ h => h) R96 rfl rfl (fun _ _ => (X.assign (ev' (.int .i64 0) rfl rfl))) ?_
          refine A.done (by kernel_rfl) ?_
          have h98 := hB85.st c92 ne74
          have h99 := (hT50.ext lt56).gr g54
          have h100 := (h99.ext lt71).gr g69
          have h101 := h100.st c84 (.tail _ (.head _))
          have h102 := h101.st c92 (.head _)
          exact then_n ⟨_, b53, b68, T44, rfl, R95, s22, rfl, rfl, rfl, h98, Tr.sub h102 (by intro c hc; simp only [List.mem_cons] at hc ⊢; grind), hB93, l61, l76, ne74⟩
        · skip
          refine E.eff (i := 8) rfl rfl rfl (Y.alloc (cs := Msg.zero.arr) zero30 rfl) ?_
          rintro _ w103 ⟨b104, rfl, g105, hB106, lt107⟩
          have h108 := h32.gr g34
          have h109 := h108.gr g46
          have ne110 := h109.ne lt107
          have l111 := Nat.le_trans R47.size lt107
          have l112 := Nat.le_trans R48.size lt107
          have l113 := Nat.le_trans R49.size lt107
          have R114 := R47.gr g105
          have R115 := R48.gr g105
          have R116 := R49.gr g105
          refine ⟨R116, ?_⟩
          refine A.one (i := 7) (by kernel_rfl) ?_
          refine E.eff (i := 7) rfl rfl rfl (Y.alloc (cs := TV.zero.arr) zero24 rfl) ?_
          rintro _ w118 ⟨b119, rfl, g120, hB121, lt122⟩
          have h123 := h109.gr g105
          have ne124 := h123.ne lt122
          have ne125 := hB106.ne lt122
          have l126 := Nat.le_trans R114.size lt122
          have l127 := Nat.le_trans R115.size lt122
          have l128 := Nat.le_trans R116.size lt122
          have R129 := R114.gr g120
          have R130 := R115.gr g120
          have R131 := R116.gr g120
          refine ⟨R131, ?_⟩
          refine A.one (i := 9) (by kernel_rfl) ?_
          refine E.eff0 (i := 9) rfl rfl rfl (Y.storeW (ds := T44.arr) (ev' (.pointer (some ⟨b119, 0, none⟩)) rfl rfl) (ev' (T44.val) rfl rfl) hB121 (n := 4) rfl sz24 rfl (TV.oneCell _) rfl) ?_
          rintro w133 ⟨c134, hB135⟩
          have R136 := R129.stN c134 l126
          have R137 := R130.stN c134 l127
          have R138 := R131.stN c134 l128
          refine ⟨R138, ?_⟩
          refine A.one (i := 10) (by kernel_rfl) ?_
          have h140 := hB106.gr g120
          have h141 := h140.st c134 ne125
          refine E.eff0 (i := 10) rfl rfl rfl (Y.storeW (ds := M1.arr) (ev' (.pointer (some ⟨b104, 0, none⟩)) rfl rfl) (ev' (.agg M1.arr) rfl rfl) h141 (Msg.size_arr _) sz30 (Msg.size_arr _) (Msg.oneCellA _) rfl) ?_
          rintro w142 ⟨c143, hB144⟩
          have R145 := R136.stN c143 l111
          have R146 := R137.stN c143 l112
          have R147 := R138.stN c143 l113
          refine ⟨R147, ?_⟩
          refine A.take (i := 11) rfl (by kernel_rfl) (by kernel_rfl) (by kernel_rfl) (fun _ _ _ h => h) R147 rfl rfl (fun _ _ => (X.assign (ev' (.int .i64 0) rfl rfl))) ?_
          refine A.done (by kernel_rfl) ?_
          have h149 := hB135.st c143 ne125.symm
          have h150 := (hT50.ext lt107).gr g105
          have h151 := (h150.ext lt122).gr g120
          have h152 := h151.st c134 (.head _)
          have h153 := h152.st c143 (.tail _ (.head _))
          exact then_n ⟨_, b119, b104, T44, rfl, R146, s22, rfl, rfl, rfl, h149, Tr.sub h153 (by intro c hc; simp only [List.mem_cons] at hc ⊢; grind), hB144, l127, l112, ne125.symm⟩
      · skip
        refine E.eff (i := 7) rfl rfl rfl (Y.alloc (cs := TV.zero.arr) zero24 rfl) ?_
        rintro _ w154 ⟨b155, rfl, g156, hB157, lt158⟩
        have h159 := h32.gr g34
        have ne160 := h159.ne lt158
        have l161 := Nat.le_trans R35.size lt158
        have l162 := Nat.le_trans R36.size lt158
        have l163 := Nat.le_trans R37.size lt158
        have R164 := R35.gr g156
        have R165 := R36.gr g156
        have R166 := R37.gr g156
        refine ⟨R166, ?_⟩
        refine A.two (i := 2) (j := 8) (by kernel_rfl) ?_ ?_
        · skip
          have h168 := (LtAll.nil w).gr g5
          have h169 := h168.new g9 hB10.lt
          have h170 := h169.gr c16
          have h171 := h170.gr g28
          have h172 := h171.gr g34
          have h173 := h172.new g156 hB157.lt
          refine E.call (i := 2) rfl rfl rfl (X.callF go12 (args2 (ev' (TV.zero.val) rfl rfl) (ev' (.agg (orderM 3 4).arr) rfl rfl))) (tplace_c (orderM 3 4) _ (Tr.zero_ (b155 :: b8 :: []) _) h173) ?_
          rintro _ w174 ⟨T175, rfl, hT176, g177⟩
          have R178 := R164.gr g177
          have R179 := R165.gr g177
          have R180 := R166.gr g177
          rw [s1]
          have hT181 : Tr (b155 :: b8 :: []) w174 T175 A1 := by rw [s1] at hT176; exact hT176
          refine ⟨R180, ?_⟩
          refine A.take (i := 3) rfl (by kernel_rfl) (by kernel_rfl) (by kernel_rfl) (fun _ _ _ h => h) R180 rfl rfl (fun _ _ => (X.move (ev' (.tuple #[T175.val, .agg M1.arr, .int .i64 0]) rfl rfl))) ?_
          refine A.take (i := 4) rfl (by kernel_rfl) (by kernel_rfl) (by kernel_rfl) (fun _ _ _ h => h) R180 rfl rfl (fun _ _ => (X.extract (ev' (.tuple #[T175.val, .agg M1.arr, .int .i64 0]) rfl rfl) rfl)) ?_
          refine A.take (i := 5) rfl (by kernel_rfl) (by kernel_rfl) (by kernel_rfl) (fun _ _ _ h => h) R180 rfl rfl (fun _ _ => (X.extract (ev' (.tuple #[T175.val, .agg M1.arr, .int .i64 0]) rfl rfl) rfl)) ?_
          refine A.take (i := 6) rfl (by kernel_rfl) (by kernel_rfl) (by kernel_rfl) (fun _ _ _ h => h) R180 rfl rfl (fun _ _ => (X.extract (ev' (.tuple #[T175.val, .agg M1.arr, .int .i64 0]) rfl rfl) rfl)) ?_
          refine A.one (i := 8) (by kernel_rfl) ?_
          refine E.eff (i := 8) rfl rfl rfl (Y.alloc (cs := Msg.zero.arr) zero30 rfl) ?_
          rintro _ w183 ⟨b184, rfl, g185, hB186, lt187⟩
          have h188 := h159.gr g156
          have h189 := h188.gr g177
          have ne190 := h189.ne lt187
          have h191 := hB157.gr g177
          have ne192 := h191.ne lt187
          have l193 := Nat.le_trans R178.size lt187
          have l194 := Nat.le_trans R179.size lt187
          have l195 := Nat.le_trans R180.size lt187
          have R196 := R178.gr g185
          have R197 := R179.gr g185
          have R198 := R180.gr g185
          refine ⟨R198, ?_⟩
          refine A.one (i := 9) (by kernel_rfl) ?_
          have h200 := h191.gr g185
          refine E.eff0 (i := 9) rfl rfl rfl (Y.storeW (ds := T175.arr) (ev' (.pointer (some ⟨b155, 0, none⟩)) rfl rfl) (ev' (T175.val) rfl rfl) h200 (n := 4) rfl sz24 rfl (TV.oneCell _) rfl) ?_
          rintro w201 ⟨c202, hB203⟩
          have R204 := R196.stN c202 l161
          have R205 := R197.stN c202 l162
          have R206 := R198.stN c202 l163
          refine ⟨R206, ?_⟩
          refine A.one (i := 10) (by kernel_rfl) ?_
          have h208 := hB186.st c202 ne192.symm
          refine E.eff0 (i := 10) rfl rfl rfl (Y.storeW (ds := M1.arr) (ev' (.pointer (some ⟨b184, 0, none⟩)) rfl rfl) (ev' (.agg M1.arr) rfl rfl) h208 (Msg.size_arr _) sz30 (Msg.size_arr _) (Msg.oneCellA _) rfl) ?_
          rintro w209 ⟨c210, hB211⟩
          have R212 := R204.stN c210 l193
          have R213 := R205.stN c210 l194
          have R214 := R206.stN c210 l195
          refine ⟨R214, ?_⟩
          refine A.take (i := 11) rfl (by kernel_rfl) (by kernel_rfl) (by kernel_rfl) (fun _ _ _ h => h) R214 rfl rfl (fun _ _ => (X.assign (ev' (.int .i64 0) rfl rfl))) ?_
          refine A.done (by kernel_rfl) ?_
          have h216 := hB203.st c210 ne192
          have h217 := (hT181.ext lt187).gr g185
          have h218 := h217.st c202 (.tail _ (.head _))
          have h219 := h218.st c210 (.head _)
          exact then_n ⟨_, b155, b184, T175, rfl, R213, s22, rfl, rfl, rfl, h216, Tr.sub h219 (by intro c hc; simp only [List.mem_cons] at hc ⊢; grind), hB211, l162, l194, ne192⟩
        · skip
          refine E.eff (i := 8) rfl rfl rfl (Y.alloc (cs := Msg.zero.arr) zero30 rfl) ?_
          rintro _ w220 ⟨b221, rfl, g222, hB223, lt224⟩
          have h225 := h159.gr g156
          have ne226 := h225.ne lt224
          have ne227 := hB157.ne lt224
          have l228 := Nat.le_trans R164.size lt224
          have l229 := Nat.le_trans R165.size lt224
          have l230 := Nat.le_trans R166.size lt224
          have R231 := R164.gr g222
          have R232 := R165.gr g222
          have R233 := R166.gr g222
          refine ⟨R233, ?_⟩
          refine A.one (i := 2) (by kernel_rfl) ?_
          have h235 := (LtAll.nil w).gr g5
          have h236 := h235.new g9 hB10.lt
          have h237 := h236.gr c16
          have h238 := h237.gr g28
          have h239 := h238.gr g34
          have h240 := h239.new g156 hB157.lt
          have h241 := h240.new g222 hB223.lt
          refine E.call (i := 2) rfl rfl rfl (X.callF go12 (args2 (ev' (TV.zero.val) rfl rfl) (ev' (.agg (orderM 3 4).arr) rfl rfl))) (tplace_c (orderM 3 4) _ (Tr.zero_ (b221 :: b155 :: b8 :: []) _) h241) ?_
          rintro _ w242 ⟨T243, rfl, hT244, g245⟩
          have R246 := R231.gr g245
          have R247 := R232.gr g245
          have R248 := R233.gr g245
          rw [s1]
          have hT249 : Tr (b221 :: b155 :: b8 :: []) w242 T243 A1 := by rw [s1] at hT244; exact hT244
          refine ⟨R248, ?_⟩
          refine A.take (i := 3) rfl (by kernel_rfl) (by kernel_rfl) (by kernel_rfl) (fun _ _ _ h => h) R248 rfl rfl (fun _ _ => (X.move (ev' (.tuple #[T243.val, .agg M1.arr, .int .i64 0]) rfl rfl))) ?_
          refine A.take (i := 4) rfl (by kernel_rfl) (by kernel_rfl) (by kernel_rfl) (fun _ _ _ h => h) R248 rfl rfl (fun _ _ => (X.extract (ev' (.tuple #[T243.val, .agg M1.arr, .int .i64 0]) rfl rfl) rfl)) ?_
          refine A.take (i := 5) rfl (by kernel_rfl) (by kernel_rfl) (by kernel_rfl) (fun _ _ _ h => h) R248 rfl rfl (fun _ _ => (X.extract (ev' (.tuple #[T243.val, .agg M1.arr, .int .i64 0]) rfl rfl) rfl)) ?_
          refine A.take (i := 6) rfl (by kernel_rfl) (by kernel_rfl) (by kernel_rfl) (fun _ _ _ h => h) R248 rfl rfl (fun _ _ => (X.extract (ev' (.tuple #[T243.val, .agg M1.arr, .int .i64 0]) rfl rfl) rfl)) ?_
          refine A.one (i := 9) (by kernel_rfl) ?_
          have h251 := hB157.gr g222
          have h252 := h251.gr g245
          refine E.eff0 (i := 9) rfl rfl rfl (Y.storeW (ds := T243.arr) (ev' (.pointer (some ⟨b155, 0, none⟩)) rfl rfl) (ev' (T243.val) rfl rfl) h252 (n := 4) rfl sz24 rfl (TV.oneCell _) rfl) ?_
          rintro w253 ⟨c254, hB255⟩
          have R256 := R246.stN c254 l161
          have R257 := R247.stN c254 l162
          have R258 := R248.stN c254 l163
          refine ⟨R258, ?_⟩
          refine A.one (i := 10) (by kernel_rfl) ?_
          have h260 := hB223.gr g245
          have h261 := h260.st c254 ne227.symm
          refine E.eff0 (i := 10) rfl rfl rfl (Y.storeW (ds := M1.arr) (ev' (.pointer (some ⟨b221, 0, none⟩)) rfl rfl) (ev' (.agg M1.arr) rfl rfl) h261 (Msg.size_arr _) sz30 (Msg.size_arr _) (Msg.oneCellA _) rfl) ?_
          rintro w262 ⟨c263, hB264⟩
          have R265 := R256.stN c263 l228
          have R266 := R257.stN c263 l229
          have R267 := R258.stN c263 l230
          refine ⟨R267, ?_⟩
          refine A.take (i := 11) rfl (by kernel_rfl) (by kernel_rfl) (by kernel_rfl) (fun _ _ _ h => h) R267 rfl rfl (fun _ _ => (X.assign (ev' (.int .i64 0) rfl rfl))) ?_
          refine A.done (by kernel_rfl) ?_
          have h269 := hB255.st c263 ne227
          have h270 := hT249.st c254 (.tail _ (.head _))
          have h271 := h270.st c263 (.head _)
          exact then_n ⟨_, b155, b221, T243, rfl, R266, s22, rfl, rfl, rfl, h269, Tr.sub h271 (by intro c hc; simp only [List.mem_cons] at hc ⊢; grind), hB264, l162, l229, ne227⟩
      · skip
        refine E.eff (i := 8) rfl rfl rfl (Y.alloc (cs := Msg.zero.arr) zero30 rfl) ?_
        rintro _ w272 ⟨b273, rfl, g274, hB275, lt276⟩
        have h277 := h32.gr g34
        have ne278 := h277.ne lt276
        have l279 := Nat.le_trans R35.size lt276
        have l280 := Nat.le_trans R36.size lt276
        have l281 := Nat.le_trans R37.size lt276
        have R282 := R35.gr g274
        have R283 := R36.gr g274
        have R284 := R37.gr g274
        refine ⟨R284, ?_⟩
        refine A.two (i := 2) (j := 7) (by kernel_rfl) ?_ ?_
        · skip
          have h286 := (LtAll.nil w).gr g5
          have h287 := h286.new g9 hB10.lt
          have h288 := h287.gr c16
          have h289 := h288.gr g28
          have h290 := h289.gr g34
          have h291 := h290.new g274 hB275.lt
          refine E.call (i := 2) rfl rfl rfl (X.callF go12 (args2 (ev' (TV.zero.val) rfl rfl) (ev' (.agg (orderM 3 4).arr) rfl rfl))) (tplace_c (orderM 3 4) _ (Tr.zero_ (b273 :: b8 :: []) _) h291) ?_
          rintro _ w292 ⟨T293, rfl, hT294, g295⟩
          have R296 := R282.gr g295
          have R297 := R283.gr g295
          have R298 := R284.gr g295
          rw [s1]
          have hT299 : Tr (b273 :: b8 :: []) w292 T293 A1 := by rw [s1] at hT294; exact hT294
          refine ⟨R298, ?_⟩
          refine A.take (i := 3) rfl (by kernel_rfl) (by kernel_rfl) (by kernel_rfl) (fun _ _ _ h => h) R298 rfl rfl (fun _ _ => (X.move (ev' (.tuple #[T293.val, .agg M1.arr, .int .i64 0]) rfl rfl))) ?_
          refine A.take (i := 4) rfl (by kernel_rfl) (by kernel_rfl) (by kernel_rfl) (fun _ _ _ h => h) R298 rfl rfl (fun _ _ => (X.extract (ev' (.tuple #[T293.val, .agg M1.arr, .int .i64 0]) rfl rfl) rfl)) ?_
          refine A.take (i := 5) rfl (by kernel_rfl) (by kernel_rfl) (by kernel_rfl) (fun _ _ _ h => h) R298 rfl rfl (fun _ _ => (X.extract (ev' (.tuple #[T293.val, .agg M1.arr, .int .i64 0]) rfl rfl) rfl)) ?_
          refine A.take (i := 6) rfl (by kernel_rfl) (by kernel_rfl) (by kernel_rfl) (fun _ _ _ h => h) R298 rfl rfl (fun _ _ => (X.extract (ev' (.tuple #[T293.val, .agg M1.arr, .int .i64 0]) rfl rfl) rfl)) ?_
          refine A.one (i := 7) (by kernel_rfl) ?_
          refine E.eff (i := 7) rfl rfl rfl (Y.alloc (cs := TV.zero.arr) zero24 rfl) ?_
          rintro _ w301 ⟨b302, rfl, g303, hB304, lt305⟩
          have h306 := h277.gr g274
          have h307 := h306.gr g295
          have ne308 := h307.ne lt305
          have h309 := hB275.gr g295
          have ne310 := h309.ne lt305
          have l311 := Nat.le_trans R296.size lt305
          have l312 := Nat.le_trans R297.size lt305
          have l313 := Nat.le_trans R298.size lt305
          have R314 := R296.gr g303
          have R315 := R297.gr g303
          have R316 := R298.gr g303
          refine ⟨R316, ?_⟩
          refine A.one (i := 9) (by kernel_rfl) ?_
          refine E.eff0 (i := 9) rfl rfl rfl (Y.storeW (ds := T293.arr) (ev' (.pointer (some ⟨b302, 0, none⟩)) rfl rfl) (ev' (T293.val) rfl rfl) hB304 (n := 4) rfl sz24 rfl (TV.oneCell _) rfl) ?_
          rintro w318 ⟨c319, hB320⟩
          have R321 := R314.stN c319 l311
          have R322 := R315.stN c319 l312
          have R323 := R316.stN c319 l313
          refine ⟨R323, ?_⟩
          refine A.one (i := 10) (by kernel_rfl) ?_
          have h325 := h309.gr g303
          have h326 := h325.st c319 ne310
          refine E.eff0 (i := 10) rfl rfl rfl (Y.storeW (ds := M1.arr) (ev' (.pointer (some ⟨b273, 0, none⟩)) rfl rfl) (ev' (.agg M1.arr) rfl rfl) h326 (Msg.size_arr _) sz30 (Msg.size_arr _) (Msg.oneCellA _) rfl) ?_
          rintro w327 ⟨c328, hB329⟩
          have R330 := R321.stN c328 l279
          have R331 := R322.stN c328 l280
          have R332 := R323.stN c328 l281
          refine ⟨R332, ?_⟩
          refine A.take (i := 11) rfl (by kernel_rfl) (by kernel_rfl) (by kernel_rfl) (fun _ _ _ h => h) R332 rfl rfl (fun _ _ => (X.assign (ev' (.int .i64 0) rfl rfl))) ?_
          refine A.done (by kernel_rfl) ?_
          have h334 := hB320.st c328 ne310.symm
          have h335 := (hT299.ext lt305).gr g303
          have h336 := h335.st c319 (.head _)
          have h337 := h336.st c328 (.tail _ (.head _))
          exact then_n ⟨_, b302, b273, T293, rfl, R331, s22, rfl, rfl, rfl, h334, Tr.sub h337 (by intro c hc; simp only [List.mem_cons] at hc ⊢; grind), hB329, l312, l280, ne310.symm⟩
        · skip
          refine E.eff (i := 7) rfl rfl rfl (Y.alloc (cs := TV.zero.arr) zero24 rfl) ?_
          rintro _ w338 ⟨b339, rfl, g340, hB341, lt342⟩
          have h343 := h277.gr g274
          have ne344 := h343.ne lt342
          have ne345 := hB275.ne lt342
          have l346 := Nat.le_trans R282.size lt342
          have l347 := Nat.le_trans R283.size lt342
          have l348 := Nat.le_trans R284.size lt342
          have R349 := R282.gr g340
          have R350 := R283.gr g340
          have R351 := R284.gr g340
          refine ⟨R351, ?_⟩
          refine A.one (i := 2) (by kernel_rfl) ?_
          have h353 := (LtAll.nil w).gr g5
          have h354 := h353.new g9 hB10.lt
          have h355 := h354.gr c16
          have h356 := h355.gr g28
          have h357 := h356.gr g34
          have h358 := h357.new g274 hB275.lt
          have h359 := h358.new g340 hB341.lt
          refine E.call (i := 2) rfl rfl rfl (X.callF go12 (args2 (ev' (TV.zero.val) rfl rfl) (ev' (.agg (orderM 3 4).arr) rfl rfl))) (tplace_c (orderM 3 4) _ (Tr.zero_ (b339 :: b273 :: b8 :: []) _) h359) ?_
          rintro _ w360 ⟨T361, rfl, hT362, g363⟩
          have R364 := R349.gr g363
          have R365 := R350.gr g363
          have R366 := R351.gr g363
          rw [s1]
          have hT367 : Tr (b339 :: b273 :: b8 :: []) w360 T361 A1 := by rw [s1] at hT362; exact hT362
          refine ⟨R366, ?_⟩
          refine A.take (i := 3) rfl (by kernel_rfl) (by kernel_rfl) (by kernel_rfl) (fun _ _ _ h => h) R366 rfl rfl (fun _ _ => (X.move (ev' (.tuple #[T361.val, .agg M1.arr, .int .i64 0]) rfl rfl))) ?_
          refine A.take (i := 4) rfl (by kernel_rfl) (by kernel_rfl) (by kernel_rfl) (fun _ _ _ h => h) R366 rfl rfl (fun _ _ => (X.extract (ev' (.tuple #[T361.val, .agg M1.arr, .int .i64 0]) rfl rfl) rfl)) ?_
          refine A.take (i := 5) rfl (by kernel_rfl) (by kernel_rfl) (by kernel_rfl) (fun _ _ _ h => h) R366 rfl rfl (fun _ _ => (X.extract (ev' (.tuple #[T361.val, .agg M1.arr, .int .i64 0]) rfl rfl) rfl)) ?_
          refine A.take (i := 6) rfl (by kernel_rfl) (by kernel_rfl) (by kernel_rfl) (fun _ _ _ h => h) R366 rfl rfl (fun _ _ => (X.extract (ev' (.tuple #[T361.val, .agg M1.arr, .int .i64 0]) rfl rfl) rfl)) ?_
          refine A.one (i := 9) (by kernel_rfl) ?_
          have h369 := hB341.gr g363
          refine E.eff0 (i := 9) rfl rfl rfl (Y.storeW (ds := T361.arr) (ev' (.pointer (some ⟨b339, 0, none⟩)) rfl rfl) (ev' (T361.val) rfl rfl) h369 (n := 4) rfl sz24 rfl (TV.oneCell _) rfl) ?_
          rintro w370 ⟨c371, hB372⟩
          have R373 := R364.stN c371 l346
          have R374 := R365.stN c371 l347
          have R375 := R366.stN c371 l348
          refine ⟨R375, ?_⟩
          refine A.one (i := 10) (by kernel_rfl) ?_
          have h377 := hB275.gr g340
          have h378 := h377.gr g363
          have h379 := h378.st c371 ne345
          refine E.eff0 (i := 10) rfl rfl rfl (Y.storeW (ds := M1.arr) (ev' (.pointer (some ⟨b273, 0, none⟩)) rfl rfl) (ev' (.agg M1.arr) rfl rfl) h379 (Msg.size_arr _) sz30 (Msg.size_arr _) (Msg.oneCellA _) rfl) ?_
          rintro w380 ⟨c381, hB382⟩
          have R383 := R373.stN c381 l279
          have R384 := R374.stN c381 l280
          have R385 := R375.stN c381 l281
          refine ⟨R385, ?_⟩
          refine A.take (i := 11) rfl (by kernel_rfl) (by kernel_rfl) (by kernel_rfl) (fun _ _ _ h => h) R385 rfl rfl (fun _ _ => (X.assign (ev' (.int .i64 0) rfl rfl))) ?_
          refine A.done (by kernel_rfl) ?_
          have h387 := hB372.st c381 ne345.symm
          have h388 := hT367.st c371 (.head _)
          have h389 := h388.st c381 (.tail _ (.head _))
          exact then_n ⟨_, b339, b273, T361, rfl, R384, s22, rfl, rfl, rfl, h387, Tr.sub h389 (by intro c hc; simp only [List.mem_cons] at hc ⊢; grind), hB382, l347, l280, ne345.symm⟩
    · skip
      refine E.eff (i := 7) rfl rfl rfl (Y.alloc (cs := TV.zero.arr) zero24 rfl) ?_
      rintro _ w390 ⟨b391, rfl, g392, hB393, lt394⟩
      have ne395 := h32.ne lt394
      have l396 := Nat.le_trans R29.size lt394
      have l397 := Nat.le_trans R30.size lt394
      have l398 := Nat.le_trans R31.size lt394
      have R399 := R29.gr g392
      have R400 := R30.gr g392
      have R401 := R31.gr g392
      refine ⟨R401, ?_⟩
      refine A.two (i := 1) (j := 8) (by kernel_rfl) ?_ ?_
      · skip
        refine E.call (i := 1) rfl rfl rfl (X.callF go34 (args2 (evc' (.int .i64 3)) (evc' (.int .i64 4)))) (order_c 3 4 _) ?_
        rintro _ w403 ⟨rfl, g404⟩
        have R405 := R399.gr g404
        have R406 := R400.gr g404
        have R407 := R401.gr g404
        refine ⟨R407, ?_⟩
        refine A.two (i := 2) (j := 8) (by kernel_rfl) ?_ ?_
        · skip
          have h408 := (LtAll.nil w).gr g5
          have h409 := h408.new g9 hB10.lt
          have h410 := h409.gr c16
          have h411 := h410.gr g28
          have h412 := h411.new g392 hB393.lt
          have h413 := h412.gr g404
          refine E.call (i := 2) rfl rfl rfl (X.callF go12 (args2 (ev' (TV.zero.val) rfl rfl) (ev' (.agg (orderM 3 4).arr) rfl rfl))) (tplace_c (orderM 3 4) _ (Tr.zero_ (b391 :: b8 :: []) _) h413) ?_
          rintro _ w414 ⟨T415, rfl, hT416, g417⟩
          have R418 := R405.gr g417
          have R419 := R406.gr g417
          have R420 := R407.gr g417
          rw [s1]
          have hT421 : Tr (b391 :: b8 :: []) w414 T415 A1 := by rw [s1] at hT416; exact hT416
          refine ⟨R420, ?_⟩
          refine A.take (i := 3) rfl (by kernel_rfl) (by kernel_rfl) (by kernel_rfl) (fun _ _ _ h => h) R420 rfl rfl (fun _ _ => (X.move (ev' (.tuple #[T415.val, .agg M1.arr, .int .i64 0]) rfl rfl))) ?_
          refine A.take (i := 4) rfl (by kernel_rfl) (by kernel_rfl) (by kernel_rfl) (fun _ _ _ h => h) R420 rfl rfl (fun _ _ => (X.extract (ev' (.tuple #[T415.val, .agg M1.arr, .int .i64 0]) rfl rfl) rfl)) ?_
          refine A.take (i := 5) rfl (by kernel_rfl) (by kernel_rfl) (by kernel_rfl) (fun _ _ _ h => h) R420 rfl rfl (fun _ _ => (X.extract (ev' (.tuple #[T415.val, .agg M1.arr, .int .i64 0]) rfl rfl) rfl)) ?_
          refine A.take (i := 6) rfl (by kernel_rfl) (by kernel_rfl) (by kernel_rfl) (fun _ _ _ h => h) R420 rfl rfl (fun _ _ => (X.extract (ev' (.tuple #[T415.val, .agg M1.arr, .int .i64 0]) rfl rfl) rfl)) ?_
          refine A.one (i := 8) (by kernel_rfl) ?_
          refine E.eff (i := 8) rfl rfl rfl (Y.alloc (cs := Msg.zero.arr) zero30 rfl) ?_
          rintro _ w423 ⟨b424, rfl, g425, hB426, lt427⟩
          have h428 := h32.gr g392
          have h429 := h428.gr g404
          have h430 := h429.gr g417
          have ne431 := h430.ne lt427
          have h432 := hB393.gr g404
          have h433 := h432.gr g417
          have ne434 := h433.ne lt427
          have l435 := Nat.le_trans R418.size lt427
          have l436 := Nat.le_trans R419.size lt427
          have l437 := Nat.le_trans R420.size lt427
          have R438 := R418.gr g425
          have R439 := R419.gr g425
          have R440 := R420.gr g425
          refine ⟨R440, ?_⟩
          refine A.one (i := 9) (by kernel_rfl) ?_
          have h442 := h433.gr g425
          refine E.eff0 (i := 9) rfl rfl rfl (Y.storeW (ds := T415.arr) (ev' (.pointer (some ⟨b391, 0, none⟩)) rfl rfl) (ev' (T415.val) rfl rfl) h442 (n := 4) rfl sz24 rfl (TV.oneCell _) rfl) ?_
          rintro w443 ⟨c444, hB445⟩
          have R446 := R438.stN c444 l396
          have R447 := R439.stN c444 l397
          have R448 := R440.stN c444 l398
          refine ⟨R448, ?_⟩
          refine A.one (i := 10) (by kernel_rfl) ?_
          have h450 := hB426.st c444 ne434.symm
          refine E.eff0 (i := 10) rfl rfl rfl (Y.storeW (ds := M1.arr) (ev' (.pointer (some ⟨b424, 0, none⟩)) rfl rfl) (ev' (.agg M1.arr) rfl rfl) h450 (Msg.size_arr _) sz30 (Msg.size_arr _) (Msg.oneCellA _) rfl) ?_
          rintro w451 ⟨c452, hB453⟩
          have R454 := R446.stN c452 l435
          have R455 := R447.stN c452 l436
          have R456 := R448.stN c452 l437
          refine ⟨R456, ?_⟩
          refine A.take (i := 11) rfl (by kernel_rfl) (by kernel_rfl) (by kernel_rfl) (fun _ _ _ h => h) R456 rfl rfl (fun _ _ => (X.assign (ev' (.int .i64 0) rfl rfl))) ?_
          refine A.done (by kernel_rfl) ?_
          have h458 := hB445.st c452 ne434
          have h459 := (hT421.ext lt427).gr g425
          have h460 := h459.st c444 (.tail _ (.head _))
          have h461 := h460.st c452 (.head _)
          exact then_n ⟨_, b391, b424, T415, rfl, R455, s22, rfl, rfl, rfl, h458, Tr.sub h461 (by intro c hc; simp only [List.mem_cons] at hc ⊢; grind), hB453, l397, l436, ne434⟩
        · skip
          refine E.eff (i := 8) rfl rfl rfl (Y.alloc (cs := Msg.zero.arr) zero30 rfl) ?_
          rintro _ w462 ⟨b463, rfl, g464, hB465, lt466⟩
          have h467 := h32.gr g392
          have h468 := h467.gr g404
          have ne469 := h468.ne lt466
          have h470 := hB393.gr g404
          have ne471 := h470.ne lt466
          have l472 := Nat.le_trans R405.size lt466
          have l473 := Nat.le_trans R406.size lt466
          have l474 := Nat.le_trans R407.size lt466
          have R475 := R405.gr g464
          have R476 := R406.gr g464
          have R477 := R407.gr g464
          refine ⟨R477, ?_⟩
          refine A.one (i := 2) (by kernel_rfl) ?_
          have h479 := (LtAll.nil w).gr g5
          have h480 := h479.new g9 hB10.lt
          have h481 := h480.gr c16
          have h482 := h481.gr g28
          have h483 := h482.new g392 hB393.lt
          have h484 := h483.gr g404
          have h485 := h484.new g464 hB465.lt
          refine E.call (i := 2) rfl rfl rfl (X.callF go12 (args2 (ev' (TV.zero.val) rfl rfl) (ev' (.agg (orderM 3 4).arr) rfl rfl))) (tplace_c (orderM 3 4) _ (Tr.zero_ (b463 :: b391 :: b8 :: []) _) h485) ?_
          rintro _ w486 ⟨T487, rfl, hT488, g489⟩
          have R490 := R475.gr g489
          have R491 := R476.gr g489
          have R492 := R477.gr g489
          rw [s1]
          have hT493 : Tr (b463 :: b391 :: b8 :: []) w486 T487 A1 := by rw [s1] at hT488; exact hT488
          refine ⟨R492, ?_⟩
          refine A.take (i := 3) rfl (by kernel_rfl) (by kernel_rfl) (by kernel_rfl) (fun _ _ _ h => h) R492 rfl rfl (fun _ _ => (X.move (ev' (.tuple #[T487.val, .agg M1.arr, .int .i64 0]) rfl rfl))) ?_
          refine A.take (i := 4) rfl (by kernel_rfl) (by kernel_rfl) (by kernel_rfl) (fun _ _ _ h => h) R492 rfl rfl (fun _ _ => (X.extract (ev' (.tuple #[T487.val, .agg M1.arr, .int .i64 0]) rfl rfl) rfl)) ?_
          refine A.take (i := 5) rfl (by kernel_rfl) (by kernel_rfl) (by kernel_rfl) (fun _ _ _ h => h) R492 rfl rfl (fun _ _ => (X.extract (ev' (.tuple #[T487.val, .agg M1.arr, .int .i64 0]) rfl rfl) rfl)) ?_
          refine A.take (i := 6) rfl (by kernel_rfl) (by kernel_rfl) (by kernel_rfl) (fun _ _ _ h => h) R492 rfl rfl (fun _ _ => (X.extract (ev' (.tuple #[T487.val, .agg M1.arr, .int .i64 0]) rfl rfl) rfl)) ?_
          refine A.one (i := 9) (by kernel_rfl) ?_
          have h495 := h470.gr g464
          have h496 := h495.gr g489
          refine E.eff0 (i := 9) rfl rfl rfl (Y.storeW (ds := T487.arr) (ev' (.pointer (some ⟨b391, 0, none⟩)) rfl rfl) (ev' (T487.val) rfl rfl) h496 (n := 4) rfl sz24 rfl (TV.oneCell _) rfl) ?_
          rintro w497 ⟨c498, hB499⟩
          have R500 := R490.stN c498 l396
          have R501 := R491.stN c498 l397
          have R502 := R492.stN c498 l398
          refine ⟨R502, ?_⟩
          refine A.one (i := 10) (by kernel_rfl) ?_
          have h504 := hB465.gr g489
          have h505 := h504.st c498 ne471.symm
          refine E.eff0 (i := 10) rfl rfl rfl (Y.storeW (ds := M1.arr) (ev' (.pointer (some ⟨b463, 0, none⟩)) rfl rfl) (ev' (.agg M1.arr) rfl rfl) h505 (Msg.size_arr _) sz30 (Msg.size_arr _) (Msg.oneCellA _) rfl) ?_
          rintro w506 ⟨c507, hB508⟩
          have R509 := R500.stN c507 l472
          have R510 := R501.stN c507 l473
          have R511 := R502.stN c507 l474
          refine ⟨R511, ?_⟩
          refine A.take (i := 11) rfl (by kernel_rfl) (by kernel_rfl) (by kernel_rfl) (fun _ _ _ h => h) R511 rfl rfl (fun _ _ => (X.assign (ev' (.int .i64 0) rfl rfl))) ?_
          refine A.done (by kernel_rfl) ?_
          have h513 := hB499.st c507 ne471
          have h514 := hT493.st c498 (.tail _ (.head _))
          have h515 := h514.st c507 (.head _)
          exact then_n ⟨_, b391, b463, T487, rfl, R510, s22, rfl, rfl, rfl, h513, Tr.sub h515 (by intro c hc; simp only [List.mem_cons] at hc ⊢; grind), hB508, l397, l473, ne471⟩
      · skip
        refine E.eff (i := 8) rfl rfl rfl (Y.alloc (cs := Msg.zero.arr) zero30 rfl) ?_
        rintro _ w516 ⟨b517, rfl, g518, hB519, lt520⟩
        have h521 := h32.gr g392
        have ne522 := h521.ne lt520
        have ne523 := hB393.ne lt520
        have l524 := Nat.le_trans R399.size lt520
        have l525 := Nat.le_trans R400.size lt520
        have l526 := Nat.le_trans R401.size lt520
        have R527 := R399.gr g518
        have R528 := R400.gr g518
        have R529 := R401.gr g518
        refine ⟨R529, ?_⟩
        refine A.one (i := 1) (by kernel_rfl) ?_
        refine E.call (i := 1) rfl rfl rfl (X.callF go34 (args2 (evc' (.int .i64 3)) (evc' (.int .i64 4)))) (order_c 3 4 _) ?_
        rintro _ w531 ⟨rfl, g532⟩
        have R533 := R527.gr g532
        have R534 := R528.gr g532
        have R535 := R529.gr g532
        refine ⟨R535, ?_⟩
        refine A.one (i := 2) (by kernel_rfl) ?_
        have h536 := (LtAll.nil w).gr g5
        have h537 := h536.new g9 hB10.lt
        have h538 := h537.gr c16
        have h539 := h538.gr g28
        have h540 := h539.new g392 hB393.lt
        have h541 := h540.new g518 hB519.lt
        have h542 := h541.gr g532
        refine E.call (i := 2) rfl rfl rfl (X.callF go12 (args2 (ev' (TV.zero.val) rfl rfl) (ev' (.agg (orderM 3 4).arr) rfl rfl))) (tplace_c (orderM 3 4) _ (Tr.zero_ (b517 :: b391 :: b8 :: []) _) h542) ?_
        rintro _ w543 ⟨T544, rfl, hT545, g546⟩
        have R547 := R533.gr g546
        have R548 := R534.gr g546
        have R549 := R535.gr g546
        rw [s1]
        have hT550 : Tr (b517 :: b391 :: b8 :: []) w543 T544 A1 := by rw [s1] at hT545; exact hT545
        refine ⟨R549, ?_⟩
        refine A.take (i := 3) rfl (by kernel_rfl) (by kernel_rfl) (by kernel_rfl) (fun _ _ _ h => h) R549 rfl rfl (fun _ _ => (X.move (ev' (.tuple #[T544.val, .agg M1.arr, .int .i64 0]) rfl rfl))) ?_
        refine A.take (i := 4) rfl (by kernel_rfl) (by kernel_rfl) (by kernel_rfl) (fun _ _ _ h => h) R549 rfl rfl (fun _ _ => (X.extract (ev' (.tuple #[T544.val, .agg M1.arr, .int .i64 0]) rfl rfl) rfl)) ?_
        refine A.take (i := 5) rfl (by kernel_rfl) (by kernel_rfl) (by kernel_rfl) (fun _ _ _ h => h) R549 rfl rfl (fun _ _ => (X.extract (ev' (.tuple #[T544.val, .agg M1.arr, .int .i64 0]) rfl rfl) rfl)) ?_
        refine A.take (i := 6) rfl (by kernel_rfl) (by kernel_rfl) (by kernel_rfl) (fun _ _ _ h => h) R549 rfl rfl (fun _ _ => (X.extract (ev' (.tuple #[T544.val, .agg M1.arr, .int .i64 0]) rfl rfl) rfl)) ?_
        refine A.one (i := 9) (by kernel_rfl) ?_
        have h552 := hB393.gr g518
        have h553 := h552.gr g532
        have h554 := h553.gr g546
        refine E.eff0 (i := 9) rfl rfl rfl (Y.storeW (ds := T544.arr) (ev' (.pointer (some ⟨b391, 0, none⟩)) rfl rfl) (ev' (T544.val) rfl rfl) h554 (n := 4) rfl sz24 rfl (TV.oneCell _) rfl) ?_
        rintro w555 ⟨c556, hB557⟩
        have R558 := R547.stN c556 l396
        have R559 := R548.stN c556 l397
        have R560 := R549.stN c556 l398
        refine ⟨R560, ?_⟩
        refine A.one (i := 10) (by kernel_rfl) ?_
        have h562 := hB519.gr g532
        have h563 := h562.gr g546
        have h564 := h563.st c556 ne523.symm
        refine E.eff0 (i := 10) rfl rfl rfl (Y.storeW (ds := M1.arr) (ev' (.pointer (some ⟨b517, 0, none⟩)) rfl rfl) (ev' (.agg M1.arr) rfl rfl) h564 (Msg.size_arr _) sz30 (Msg.size_arr _) (Msg.oneCellA _) rfl) ?_
        rintro w565 ⟨c566, hB567⟩
        have R568 := R558.stN c566 l524
        have R569 := R559.stN c566 l525
        have R570 := R560.stN c566 l526
        refine ⟨R570, ?_⟩
        refine A.take (i := 11) rfl (by kernel_rfl) (by kernel_rfl) (by kernel_rfl) (fun _ _ _ h => h) R570 rfl rfl (fun _ _ => (X.assign (ev' (.int .i64 0) rfl rfl))) ?_
        refine A.done (by kernel_rfl) ?_
        have h572 := hB557.st c566 ne523
        have h573 := hT550.st c556 (.tail _ (.head _))
        have h574 := h573.st c566 (.head _)
        exact then_n ⟨_, b391, b517, T544, rfl, R569, s22, rfl, rfl, rfl, h572, Tr.sub h574 (by intro c hc; simp only [List.mem_cons] at hc ⊢; grind), hB567, l397, l525, ne523⟩
    · skip
      refine E.eff (i := 8) rfl rfl rfl (Y.alloc (cs := Msg.zero.arr) zero30 rfl) ?_
      rintro _ w575 ⟨b576, rfl, g577, hB578, lt579⟩
      have ne580 := h32.ne lt579
      have l581 := Nat.le_trans R29.size lt579
      have l582 := Nat.le_trans R30.size lt579
      have l583 := Nat.le_trans R31.size lt579
      have R584 := R29.gr g577
      have R585 := R30.gr g577
      have R586 := R31.gr g577
      refine ⟨R586, ?_⟩
      refine A.two (i := 1) (j := 7) (by kernel_rfl) ?_ ?_
      · skip
        refine E.call (i := 1) rfl rfl rfl (X.callF go34 (args2 (evc' (.int .i64 3)) (evc' (.int .i64 4)))) (order_c 3 4 _) ?_
        rintro _ w588 ⟨rfl, g589⟩
        have R590 := R584.gr g589
        have R591 := R585.gr g589
        have R592 := R586.gr g589
        refine ⟨R592, ?_⟩
        refine A.two (i := 2) (j := 7) (by kernel_rfl) ?_ ?_
        · skip
          have h593 := (LtAll.nil w).gr g5
          have h594 := h593.new g9 hB10.lt
          have h595 := h594.gr c16
          have h596 := h595.gr g28
          have h597 := h596.new g577 hB578.lt
          have h598 := h597.gr g589
          refine E.call (i := 2) rfl rfl rfl (X.callF go12 (args2 (ev' (TV.zero.val) rfl rfl) (ev' (.agg (orderM 3 4).arr) rfl rfl))) (tplace_c (orderM 3 4) _ (Tr.zero_ (b576 :: b8 :: []) _) h598) ?_
          rintro _ w599 ⟨T600, rfl, hT601, g602⟩
          have R603 := R590.gr g602
          have R604 := R591.gr g602
          have R605 := R592.gr g602
          rw [s1]
          have hT606 : Tr (b576 :: b8 :: []) w599 T600 A1 := by rw [s1] at hT601; exact hT601
          refine ⟨R605, ?_⟩
          refine A.take (i := 3) rfl (by kernel_rfl) (by kernel_rfl) (by kernel_rfl) (fun _ _ _ h => h) R605 rfl rfl (fun _ _ => (X.move (ev' (.tuple #[T600.val, .agg M1.arr, .int .i64 0]) rfl rfl))) ?_
          refine A.take (i := 4) rfl (by kernel_rfl) (by kernel_rfl) (by kernel_rfl) (fun _ _ _ h => h) R605 rfl rfl (fun _ _ => (X.extract (ev' (.tuple #[T600.val, .agg M1.arr, .int .i64 0]) rfl rfl) rfl)) ?_
          refine A.take (i := 5) rfl (by kernel_rfl) (by kernel_rfl) (by kernel_rfl) (fun _ _ _ h => h) R605 rfl rfl (fun _ _ => (X.extract (ev' (.tuple #[T600.val, .agg M1.arr, .int .i64 0]) rfl rfl) rfl)) ?_
          refine A.take (i := 6) rfl (by kernel_rfl) (by kernel_rfl) (by kernel_rfl) (fun _ _ _ h => h) R605 rfl rfl (fun _ _ => (X.extract (ev' (.tuple #[T600.val, .agg M1.arr, .int .i64 0]) rfl rfl) rfl)) ?_
          refine A.one (i := 7) (by kernel_rfl) ?_
          refine E.eff (i := 7) rfl rfl rfl (Y.alloc (cs := TV.zero.arr) zero24 rfl) ?_
          rintro _ w608 ⟨b609, rfl, g610, hB611, lt612⟩
          have h613 := h32.gr g577
          have h614 := h613.gr g589
          have h615 := h614.gr g602
          have ne616 := h615.ne lt612
          have h617 := hB578.gr g589
          have h618 := h617.gr g602
          have ne619 := h618.ne lt612
          have l620 := Nat.le_trans R603.size lt612
          have l621 := Nat.le_trans R604.size lt612
          have l622 := Nat.le_trans R605.size lt612
          have R623 := R603.gr g610
          have R624 := R604.gr g610
          have R625 := R605.gr g610
          refine ⟨R625, ?_⟩
          refine A.one (i := 9) (by kernel_rfl) ?_
          refine E.eff0 (i := 9) rfl rfl rfl (Y.storeW (ds := T600.arr) (ev' (.pointer (some ⟨b609, 0, none⟩)) rfl rfl) (ev' (T600.val) rfl rfl) hB611 (n := 4) rfl sz24 rfl (TV.oneCell _) rfl) ?_
          rintro w627 ⟨c628, hB629⟩
          have R630 := R623.stN c628 l620
          have R631 := R624.stN c628 l621
          have R632 := R625.stN c628 l622
          refine ⟨R632, ?_⟩
          refine A.one (i := 10) (by kernel_rfl) ?_
          have h634 := h618.gr g610
          have h635 := h634.st c628 ne619
          refine E.eff0 (i := 10) rfl rfl rfl (Y.storeW (ds := M1.arr) (ev' (.pointer (some ⟨b576, 0, none⟩)) rfl rfl) (ev' (.agg M1.arr) rfl rfl) h635 (Msg.size_arr _) sz30 (Msg.size_arr _) (Msg.oneCellA _) rfl) ?_
          rintro w636 ⟨c637, hB638⟩
          have R639 := R630.stN c637 l581
          have R640 := R631.stN c637 l582
          have R641 := R632.stN c637 l583
          refine ⟨R641, ?_⟩
          refine A.take (i := 11) rfl (by kernel_rfl) (by kernel_rfl) (by kernel_rfl) (fun _ _ _ h => h) R641 rfl rfl (fun _ _ => (X.assign (ev' (.int .i64 0) rfl rfl))) ?_
          refine A.done (by kernel_rfl) ?_
          have h643 := hB629.st c637 ne619.symm
          have h644 := (hT606.ext lt612).gr g610
          have h645 := h644.st c628 (.head _)
          have h646 := h645.st c637 (.tail _ (.head _))
          exact then_n ⟨_, b609, b576, T600, rfl, R640, s22, rfl, rfl, rfl, h643, Tr.sub h646 (by intro c hc; simp only [List.mem_cons] at hc ⊢; grind), hB638, l621, l582, ne619.symm⟩
        · skip
          refine E.eff (i := 7) rfl rfl rfl (Y.alloc (cs := TV.zero.arr) zero24 rfl) ?_
          rintro _ w647 ⟨b648, rfl, g649, hB650, lt651⟩
          have h652 := h32.gr g577
          have h653 := h652.gr g589
          have ne654 := h653.ne lt651
          have h655 := hB578.gr g589
          have ne656 := h655.ne lt651
          have l657 := Nat.le_trans R590.size lt651
          have l658 := Nat.le_trans R591.size lt651
          have l659 := Nat.le_trans R592.size lt651
          have R660 := R590.gr g649
          have R661 := R591.gr g649
          have R662 := R592.gr g649
          refine ⟨R662, ?_⟩
          refine A.one (i := 2) (by kernel_rfl) ?_
          have h664 := (LtAll.nil w).gr g5
          have h665 := h664.new g9 hB10.lt
          have h666 := h665.gr c16
          have h667 := h666.gr g28
          have h668 := h667.new g577 hB578.lt
          have h669 := h668.gr g589
          have h670 := h669.new g649 hB650.lt
          refine E.call (i := 2) rfl rfl rfl (X.callF go12 (args2 (ev' (TV.zero.val) rfl rfl) (ev' (.agg (orderM 3 4).arr) rfl rfl))) (tplace_c (orderM 3 4) _ (Tr.zero_ (b648 :: b576 :: b8 :: []) _) h670) ?_
          rintro _ w671 ⟨T672, rfl, hT673, g674⟩
          have R675 := R660.gr g674
          have R676 := R661.gr g674
          have R677 := R662.gr g674
          rw [s1]
          have hT678 : Tr (b648 :: b576 :: b8 :: []) w671 T672 A1 := by rw [s1] at hT673; exact hT673
          refine ⟨R677, ?_⟩
          refine A.take (i := 3) rfl (by kernel_rfl) (by kernel_rfl) (by kernel_rfl) (fun _ _ _ h => h) R677 rfl rfl (fun _ _ => (X.move (ev' (.tuple #[T672.val, .agg M1.arr, .int .i64 0]) rfl rfl))) ?_
          refine A.take (i := 4) rfl (by kernel_rfl) (by kernel_rfl) (by kernel_rfl) (fun _ _ _ h => h) R677 rfl rfl (fun _ _ => (X.extract (ev' (.tuple #[T672.val, .agg M1.arr, .int .i64 0]) rfl rfl) rfl)) ?_
          refine A.take (i := 5) rfl (by kernel_rfl) (by kernel_rfl) (by kernel_rfl) (fun _ _ _ h => h) R677 rfl rfl (fun _ _ => (X.extract (ev' (.tuple #[T672.val, .agg M1.arr, .int .i64 0]) rfl rfl) rfl)) ?_
          refine A.take (i := 6) rfl (by kernel_rfl) (by kernel_rfl) (by kernel_rfl) (fun _ _ _ h => h) R677 rfl rfl (fun _ _ => (X.extract (ev' (.tuple #[T672.val, .agg M1.arr, .int .i64 0]) rfl rfl) rfl)) ?_
          refine A.one (i := 9) (by kernel_rfl) ?_
          have h680 := hB650.gr g674
          refine E.eff0 (i := 9) rfl rfl rfl (Y.storeW (ds := T672.arr) (ev' (.pointer (some ⟨b648, 0, none⟩)) rfl rfl) (ev' (T672.val) rfl rfl) h680 (n := 4) rfl sz24 rfl (TV.oneCell _) rfl) ?_
          rintro w681 ⟨c682, hB683⟩
          have R684 := R675.stN c682 l657
          have R685 := R676.stN c682 l658
          have R686 := R677.stN c682 l659
          refine ⟨R686, ?_⟩
          refine A.one (i := 10) (by kernel_rfl) ?_
          have h688 := h655.gr g649
          have h689 := h688.gr g674
          have h690 := h689.st c682 ne656
          refine E.eff0 (i := 10) rfl rfl rfl (Y.storeW (ds := M1.arr) (ev' (.pointer (some ⟨b576, 0, none⟩)) rfl rfl) (ev' (.agg M1.arr) rfl rfl) h690 (Msg.size_arr _) sz30 (Msg.size_arr _) (Msg.oneCellA _) rfl) ?_
          rintro w691 ⟨c692, hB693⟩
          have R694 := R684.stN c692 l581
          have R695 := R685.stN c692 l582
          have R696 := R686.stN c692 l583
          refine ⟨R696, ?_⟩
          refine A.take (i := 11) rfl (by kernel_rfl) (by kernel_rfl) (by kernel_rfl) (fun _ _ _ h => h) R696 rfl rfl (fun _ _ => (X.assign (ev' (.int .i64 0) rfl rfl))) ?_
          refine A.done (by kernel_rfl) ?_
          have h698 := hB683.st c692 ne656.symm
          have h699 := hT678.st c682 (.head _)
          have h700 := h699.st c692 (.tail _ (.head _))
          exact then_n ⟨_, b648, b576, T672, rfl, R695, s22, rfl, rfl, rfl, h698, Tr.sub h700 (by intro c hc; simp only [List.mem_cons] at hc ⊢; grind), hB693, l658, l582, ne656.symm⟩
      · skip
        refine E.eff (i := 7) rfl rfl rfl (Y.alloc (cs := TV.zero.arr) zero24 rfl) ?_
        rintro _ w701 ⟨b702, rfl, g703, hB704, lt705⟩
        have h706 := h32.gr g577
        have ne707 := h706.ne lt705
        have ne708 := hB578.ne lt705
        have l709 := Nat.le_trans R584.size lt705
        have l710 := Nat.le_trans R585.size lt705
        have l711 := Nat.le_trans R586.size lt705
        have R712 := R584.gr g703
        have R713 := R585.gr g703
        have R714 := R586.gr g703
        refine ⟨R714, ?_⟩
        refine A.one (i := 1) (by kernel_rfl) ?_
        refine E.call (i := 1) rfl rfl rfl (X.callF go34 (args2 (evc' (.int .i64 3)) (evc' (.int .i64 4)))) (order_c 3 4 _) ?_
        rintro _ w716 ⟨rfl, g717⟩
        have R718 := R712.gr g717
        have R719 := R713.gr g717
        have R720 := R714.gr g717
        refine ⟨R720, ?_⟩
        refine A.one (i := 2) (by kernel_rfl) ?_
        have h721 := (LtAll.nil w).gr g5
        have h722 := h721.new g9 hB10.lt
        have h723 := h722.gr c16
        have h724 := h723.gr g28
        have h725 := h724.new g577 hB578.lt
        have h726 := h725.new g703 hB704.lt
        have h727 := h726.gr g717
        refine E.call (i := 2) rfl rfl rfl (X.callF go12 (args2 (ev' (TV.zero.val) rfl rfl) (ev' (.agg (orderM 3 4).arr) rfl rfl))) (tplace_c (orderM 3 4) _ (Tr.zero_ (b702 :: b576 :: b8 :: []) _) h727) ?_
        rintro _ w728 ⟨T729, rfl, hT730, g731⟩
        have R732 := R718.gr g731
        have R733 := R719.gr g731
        have R734 := R720.gr g731
        rw [s1]
        have hT735 : Tr (b702 :: b576 :: b8 :: []) w728 T729 A1 := by rw [s1] at hT730; exact hT730
        refine ⟨R734, ?_⟩
        refine A.take (i := 3) rfl (by kernel_rfl) (by kernel_rfl) (by kernel_rfl) (fun _ _ _ h => h) R734 rfl rfl (fun _ _ => (X.move (ev' (.tuple #[T729.val, .agg M1.arr, .int .i64 0]) rfl rfl))) ?_
        refine A.take (i := 4) rfl (by kernel_rfl) (by kernel_rfl) (by kernel_rfl) (fun _ _ _ h => h) R734 rfl rfl (fun _ _ => (X.extract (ev' (.tuple #[T729.val, .agg M1.arr, .int .i64 0]) rfl rfl) rfl)) ?_
        refine A.take (i := 5) rfl (by kernel_rfl) (by kernel_rfl) (by kernel_rfl) (fun _ _ _ h => h) R734 rfl rfl (fun _ _ => (X.extract (ev' (.tuple #[T729.val, .agg M1.arr, .int .i64 0]) rfl rfl) rfl)) ?_
        refine A.take (i := 6) rfl (by kernel_rfl) (by kernel_rfl) (by kernel_rfl) (fun _ _ _ h => h) R734 rfl rfl (fun _ _ => (X.extract (ev' (.tuple #[T729.val, .agg M1.arr, .int .i64 0]) rfl rfl) rfl)) ?_
        refine A.one (i := 9) (by kernel_rfl) ?_
        have h737 := hB704.gr g717
        have h738 := h737.gr g731
        refine E.eff0 (i := 9) rfl rfl rfl (Y.storeW (ds := T729.arr) (ev' (.pointer (some ⟨b702, 0, none⟩)) rfl rfl) (ev' (T729.val) rfl rfl) h738 (n := 4) rfl sz24 rfl (TV.oneCell _) rfl) ?_
        rintro w739 ⟨c740, hB741⟩
        have R742 := R732.stN c740 l709
        have R743 := R733.stN c740 l710
        have R744 := R734.stN c740 l711
        refine ⟨R744, ?_⟩
        refine A.one (i := 10) (by kernel_rfl) ?_
        have h746 := hB578.gr g703
        have h747 := h746.gr g717
        have h748 := h747.gr g731
        have h749 := h748.st c740 ne708
        refine E.eff0 (i := 10) rfl rfl rfl (Y.storeW (ds := M1.arr) (ev' (.pointer (some ⟨b576, 0, none⟩)) rfl rfl) (ev' (.agg M1.arr) rfl rfl) h749 (Msg.size_arr _) sz30 (Msg.size_arr _) (Msg.oneCellA _) rfl) ?_
        rintro w750 ⟨c751, hB752⟩
        have R753 := R742.stN c751 l581
        have R754 := R743.stN c751 l582
        have R755 := R744.stN c751 l583
        refine ⟨R755, ?_⟩
        refine A.take (i := 11) rfl (by kernel_rfl) (by kernel_rfl) (by kernel_rfl) (fun _ _ _ h => h) R755 rfl rfl (fun _ _ => (X.assign (ev' (.int .i64 0) rfl rfl))) ?_
        refine A.done (by kernel_rfl) ?_
        have h757 := hB741.st c751 ne708.symm
        have h758 := hT735.st c740 (.head _)
        have h759 := h758.st c751 (.tail _ (.head _))
        exact then_n ⟨_, b702, b576, T729, rfl, R754, s22, rfl, rfl, rfl, h757, Tr.sub h759 (by intro c hc; simp only [List.mem_cons] at hc ⊢; grind), hB752, l710, l582, ne708.symm⟩
  · skip
    rintro _ w760 ⟨r762, cb23, cb24, cT25, rfl, R761, s763, s764, s765, s766, hB767, hT768, hB769, lt770, lt771, ne772⟩
    have ne773 := hB17.ne lt770
    have l774 := Nat.le_trans R18.size lt770
    have ne775 := hB17.ne lt771
    have l776 := Nat.le_trans R18.size lt771
    have h777 := (LtAll.nil w).gr g5
    have h778 := h777.new g9 hB10.lt
    have h779 := h778.gr c16
    have R780 := R18.gr R761
    have hl784 := LtAll.cons (LtAll.cons (h779.gr R761) hB767.lt) hB769.lt
    refine then_n ?_
    refine W.seq ?_
    refine W.reg ?_
    have h788 := hB17.gr R761
    refine W.val rfl rfl (X.loadR (ev' (.pointer (some ⟨b8, 0, none⟩)) rfl s763) rt24 (row_blk_trade h788) rfl) ?_
    refine W.val rfl rfl X.build30z ?_
    refine W.call rfl rfl (X.callF go12 (args2 (ev' (TV.zero.val) rfl rfl) (ev' (.agg Msg.zero.arr) rfl rfl))) (tplace_c Msg.zero _ (Tr.zero_ (cb24 :: cb23 :: b8 :: []) _) hl784) ?_
    rintro _ w789 ⟨T790, rfl, hT791, g792⟩
    have R793 := R780.gr g792
    rw [s2]
    have hT794 : Tr (cb24 :: cb23 :: b8 :: []) w789 T790 Trade.zero := by rw [s2] at hT791; exact hT791
    refine W.val rfl rfl (X.move (ev' (.tuple #[T790.val, .agg Msg.zero.arr, .int .i64 480]) rfl rfl)) ?_
    refine W.val rfl rfl (X.extract (ev' (.tuple #[T790.val, .agg Msg.zero.arr, .int .i64 480]) rfl rfl) rfl) ?_
    refine W.val rfl rfl (X.extract (ev' (.tuple #[T790.val, .agg Msg.zero.arr, .int .i64 480]) rfl rfl) rfl) ?_
    refine W.val rfl rfl (X.extract (ev' (.tuple #[T790.val, .agg Msg.zero.arr, .int .i64 480]) rfl rfl) rfl) ?_
    refine W.eff rfl rfl (Y.alloc (cs := TV.zero.arr) zero24 rfl) ?_
    rintro _ w796 ⟨b797, rfl, g798, hB799, lt800⟩
    have h801 := h788.gr g792
    have ne802 := h801.ne lt800
    have h803 := hB767.gr g792
    have ne804 := h803.ne lt800
    have h805 := hB769.gr g792
    have ne806 := h805.ne lt800
    have l807 := Nat.le_trans R793.size lt800
    have R808 := R793.gr g798
    refine W.eff rfl rfl (Y.alloc (cs := Msg.zero.arr) zero30 rfl) ?_
    rintro _ w810 ⟨b811, rfl, g812, hB813, lt814⟩
    have h815 := h801.gr g798
    have ne816 := h815.ne lt814
    have h817 := h803.gr g798
    have ne818 := h817.ne lt814
    have h819 := h805.gr g798
    have ne820 := h819.ne lt814
    have ne821 := hB799.ne lt814
    have l822 := Nat.le_trans R808.size lt814
    have R823 := R808.gr g812
    have h825 := hB799.gr g812
    refine W.eff0 rfl rfl (Y.storeW (ds := T790.arr) (ev' (.pointer (some ⟨b797, 0, none⟩)) rfl rfl) (ev' (T790.val) rfl rfl) h825 (n := 4) rfl sz24 rfl (TV.oneCell _) rfl) ?_
    rintro w826 ⟨c827, hB828⟩
    have R829 := R823.stN c827 l807
    have h831 := hB813.st c827 ne821.symm
    refine W.eff0 rfl rfl (Y.storeW (ds := Msg.zero.arr) (ev' (.pointer (some ⟨b811, 0, none⟩)) rfl rfl) (ev' (.agg Msg.zero.arr) rfl rfl) h831 (Msg.size_arr _) sz30 (Msg.size_arr _) (Msg.oneCellA _) rfl) ?_
    rintro w832 ⟨c833, hB834⟩
    have R835 := R829.stN c833 l822
    refine W.val rfl rfl (X.assign (ev' (.int .i64 480) rfl rfl)) ?_
    refine W.nil ?_
    refine then_n ?_
    refine W.fresh ?_
    intro r837 er838
    have s839 : r837 1 = .pointer (some ⟨b8, 0, none⟩) := (congrFun er838 1).trans s763
    have s840 : r837 2 = .pointer (some ⟨cb23, 0, none⟩) := (congrFun er838 2).trans s764
    have s841 : r837 3 = .pointer (some ⟨cb24, 0, none⟩) := (congrFun er838 3).trans s765
    have s842 : r837 4 = .int .i64 0 := (congrFun er838 4).trans s766
    have s843 : r837 7 = .int .i64 480 := (congrFun er838 7).trans rfl
    clear er838
    refine W.seq ?_
    refine W.reg ?_
    refine W.val rfl rfl (X.build30 (m := shipM) (qs := #[(0, .int .i64 3), (1, .int .i64 3), (2, .int .i64 5), (5, .int .i64 1), (7, .int .i64 8)]) (by simp [evc]) (fun w => by kernel_rfl)) ?_
    refine W.eff rfl rfl (Y.alloc (cs := Msg.zero.arr) zero30 rfl) ?_
    rintro _ w844 ⟨b845, rfl, g846, hB847, lt848⟩
    have h849 := h815.gr g812
    have h850 := h849.st c827 ne802
    have h851 := h850.st c833 ne816
    have ne852 := h851.ne lt848
    have h853 := h817.gr g812
    have h854 := h853.st c827 ne804
    have h855 := h854.st c833 ne818
    have ne856 := h855.ne lt848
    have h857 := h819.gr g812
    have h858 := h857.st c827 ne806
    have h859 := h858.st c833 ne820
    have ne860 := h859.ne lt848
    have h861 := hB828.st c833 ne821
    have ne862 := h861.ne lt848
    have ne863 := hB834.ne lt848
    have l864 := Nat.le_trans R835.size lt848
    have R865 := R835.gr g846
    refine W.eff0 rfl rfl (Y.storeW (ds := shipM.arr) (ev' (.pointer (some ⟨b845, 0, none⟩)) rfl rfl) (ev' (.agg shipM.arr) rfl rfl) hB847 (Msg.size_arr _) sz30 (Msg.size_arr _) (Msg.oneCellA _) rfl) ?_
    rintro w867 ⟨c868, hB869⟩
    have R870 := R865.stN c868 l864
    refine W.nil ?_
    refine then_n ?_
    refine W.fresh ?_
    intro r872 er873
    have s874 : r872 1 = .pointer (some ⟨b8, 0, none⟩) := (congrFun er873 1).trans s839
    have s875 : r872 2 = .pointer (some ⟨cb23, 0, none⟩) := (congrFun er873 2).trans s840
    have s876 : r872 3 = .pointer (some ⟨cb24, 0, none⟩) := (congrFun er873 3).trans s841
    have s877 : r872 4 = .int .i64 0 := (congrFun er873 4).trans s842
    have s878 : r872 7 = .int .i64 480 := (congrFun er873 7).trans s843
    have s879 : r872 8 = .pointer (some ⟨b845, 0, none⟩) := (congrFun er873 8).trans rfl
    clear er873
    refine W.seq ?_
    refine W.reg ?_
    have h880 := h855.gr g846
    have h881 := h880.st c868 ne856
    refine W.val rfl rfl (X.loadR (ev' (.pointer (some ⟨cb23, 0, none⟩)) rfl s875) rt24 (row_blk_trade h881) rfl) ?_
    refine W.val rfl rfl (X.loadR (ev' (.pointer (some ⟨b845, 0, none⟩)) rfl s879) rt30 (row_blk_msg hB869) rfl) ?_
    have h882 := hT768.gr g792
    have h883 := (h882.ext lt800).gr g798
    have h884 := (h883.ext lt814).gr g812
    have h885 := h884.st c827 (.tail _ (.head _))
    have h886 := h885.st c833 (.head _)
    have h887 := (h886.ext lt848).gr g846
    have h888 := h887.st c868 (.head _)
    have h889 := hl784.gr g792
    have h890 := h889.new g798 hB799.lt
    have h891 := h890.new g812 hB813.lt
    have h892 := h891.gr c827
    have h893 := h892.gr c833
    have h894 := h893.new g846 hB847.lt
    have h895 := h894.gr c868
    refine W.call rfl rfl (X.callF go12 (args2 (ev' (cT25.val) rfl rfl) (ev' (.agg shipM.arr) rfl rfl))) (tplace_c shipM _ h888 h895) ?_
    rintro _ w896 ⟨T897, rfl, hT898, g899⟩
    have R900 := R870.gr g899
    rw [s3]
    have hT901 : Tr (b845 :: b811 :: b797 :: cb24 :: cb23 :: b8 :: []) w896 T897 A2 := by rw [s3] at hT898; exact hT898
    refine W.val rfl rfl (X.move (ev' (.tuple #[T897.val, .agg N1.arr, .int .i64 0]) rfl rfl)) ?_
    refine W.val rfl rfl (X.extract (ev' (.tuple #[T897.val, .agg N1.arr, .int .i64 0]) rfl rfl) rfl) ?_
    refine W.val rfl rfl (X.extract (ev' (.tuple #[T897.val, .agg N1.arr, .int .i64 0]) rfl rfl) rfl) ?_
    refine W.val rfl rfl (X.extract (ev' (.tuple #[T897.val, .agg N1.arr, .int .i64 0]) rfl rfl) rfl) ?_
    refine W.eff rfl rfl (Y.alloc (cs := Msg.zero.arr) zero30 rfl) ?_
    rintro _ w903 ⟨b904, rfl, g905, hB906, lt907⟩
    have h908 := h851.gr g846
    have h909 := h908.st c868 ne852
    have h910 := h909.gr g899
    have ne911 := h910.ne lt907
    have h912 := h881.gr g899
    have ne913 := h912.ne lt907
    have h914 := h859.gr g846
    have h915 := h914.st c868 ne860
    have h916 := h915.gr g899
    have ne917 := h916.ne lt907
    have h918 := h861.gr g846
    have h919 := h918.st c868 ne862
    have h920 := h919.gr g899
    have ne921 := h920.ne lt907
    have h922 := hB834.gr g846
    have h923 := h922.st c868 ne863
    have h924 := h923.gr g899
    have ne925 := h924.ne lt907
    have h926 := hB869.gr g899
    have ne927 := h926.ne lt907
    have l928 := Nat.le_trans R900.size lt907
    have R929 := R900.gr g905
    have h931 := h912.gr g905
    refine W.eff0 rfl rfl (Y.storeW (ds := T897.arr) (ev' (.pointer (some ⟨cb23, 0, none⟩)) rfl s875) (ev' (T897.val) rfl rfl) h931 (n := 4) rfl sz24 rfl (TV.oneCell _) rfl) ?_
    rintro w932 ⟨c933, hB934⟩
    have R935 := R929.stN c933 l774
    have h937 := hB906.st c933 ne913.symm
    refine W.eff0 rfl rfl (Y.storeW (ds := N1.arr) (ev' (.pointer (some ⟨b904, 0, none⟩)) rfl rfl) (ev' (.agg N1.arr) rfl rfl) h937 (Msg.size_arr _) sz30 (Msg.size_arr _) (Msg.oneCellA _) rfl) ?_
    rintro w938 ⟨c939, hB940⟩
    have R941 := R935.stN c939 l928
    refine W.val rfl rfl (X.assign (ev' (.int .i64 0) rfl rfl)) ?_
    refine W.nil ?_
    refine then_n ?_
    refine W.fresh ?_
    intro r943 er944
    have s945 : r943 1 = .pointer (some ⟨b8, 0, none⟩) := (congrFun er944 1).trans s874
    have s946 : r943 2 = .pointer (some ⟨cb23, 0, none⟩) := (congrFun er944 2).trans s875
    have s947 : r943 3 = .pointer (some ⟨cb24, 0, none⟩) := (congrFun er944 3).trans s876
    have s948 : r943 4 = .int .i64 0 := (congrFun er944 4).trans s877
    have s949 : r943 7 = .int .i64 480 := (congrFun er944 7).trans s878
    have s950 : r943 9 = .pointer (some ⟨b904, 0, none⟩) := (congrFun er944 9).trans rfl
    have s951 : r943 10 = .int .i64 0 := (congrFun er944 10).trans rfl
    clear er944
    refine W.seq ?_
    refine W.reg ?_
    have h952 := h910.gr g905
    have h953 := h952.st c933 ne773
    have h954 := h953.st c939 ne911
    refine W.val rfl rfl (X.loadR (ev' (.pointer (some ⟨b8, 0, none⟩)) rfl s945) rt24 (row_blk_trade h954) rfl) ?_
    have h955 := h916.gr g905
    have h956 := h955.st c933 ne772.symm
    have h957 := h956.st c939 ne917
    refine W.val rfl rfl (X.loadR (ev' (.pointer (some ⟨cb24, 0, none⟩)) rfl s947) rt30 (row_blk_msg h957) rfl) ?_
    have h958 := h895.gr g899
    have h959 := h958.new g905 hB906.lt
    have h960 := h959.gr c933
    have h961 := h960.gr c939
    refine W.call rfl rfl (X.callF go22 (args3 (ev' (TV.zero.val) rfl rfl) (ev' (.agg M1.arr) rfl rfl) (evc' (.int .i64 4)))) (ttake_c M1 4 _ (Tr.zero_ (b904 :: b845 :: b811 :: b797 :: cb24 :: cb23 :: b8 :: []) _) h961) ?_
    rintro _ w962 ⟨T963, s964, rfl, hT965, hS966, g967⟩
    have R968 := R941.gr g967
    rw [s4]
    have hT969 : Tr (b904 :: b845 :: b811 :: b797 :: cb24 :: cb23 :: b8 :: []) w962 T963 B1 := by rw [s4] at hT965; exact hT965
    have hS970 : Sl (b904 :: b845 :: b811 :: b797 :: cb24 :: cb23 :: b8 :: []) w962 s964 ([W1]) := by rw [s4] at hS966; exact hS966
    refine W.val rfl rfl (X.move (ev' (.tuple #[T963.val, s964.val, .bool true, .int .i64 0]) rfl rfl)) ?_
    refine W.val rfl rfl (X.extract (ev' (.tuple #[T963.val, s964.val, .bool true, .int .i64 0]) rfl rfl) rfl) ?_
    refine W.val rfl rfl (X.extract (ev' (.tuple #[T963.val, s964.val, .bool true, .int .i64 0]) rfl rfl) rfl) ?_
    refine W.val rfl rfl (X.extract (ev' (.tuple #[T963.val, s964.val, .bool true, .int .i64 0]) rfl rfl) rfl) ?_
    refine W.val rfl rfl (X.extract (ev' (.tuple #[T963.val, s964.val, .bool true, .int .i64 0]) rfl rfl) rfl) ?_
    refine W.eff rfl rfl (Y.alloc (cs := TV.zero.arr) zero24 rfl) ?_
    rintro _ w973 ⟨b974, rfl, g975, hB976, lt977⟩
    have h978 := h954.gr g967
    have ne979 := h978.ne lt977
    have h980 := hB934.st c939 ne913
    have h981 := h980.gr g967
    have ne982 := h981.ne lt977
    have h983 := h957.gr g967
    have ne984 := h983.ne lt977
    have h985 := h920.gr g905
    have h986 := h985.st c933 ne804.symm
    have h987 := h986.st c939 ne921
    have h988 := h987.gr g967
    have ne989 := h988.ne lt977
    have h990 := h924.gr g905
    have h991 := h990.st c933 ne818.symm
    have h992 := h991.st c939 ne925
    have h993 := h992.gr g967
    have ne994 := h993.ne lt977
    have h995 := h926.gr g905
    have h996 := h995.st c933 ne856.symm
    have h997 := h996.st c939 ne927
    have h998 := h997.gr g967
    have ne999 := h998.ne lt977
    have h1000 := hB940.gr g967
    have ne1001 := h1000.ne lt977
    have l1002 := Nat.le_trans R968.size lt977
    have R1003 := R968.gr g975
    refine W.eff0 rfl rfl (Y.storeW (ds := T963.arr) (ev' (.pointer (some ⟨b974, 0, none⟩)) rfl rfl) (ev' (T963.val) rfl rfl) hB976 (n := 4) rfl sz24 rfl (TV.oneCell _) rfl) ?_
    rintro w1005 ⟨c1006, hB1007⟩
    have R1008 := R1003.stN c1006 l1002
    refine W.val rfl rfl (X.assign (ev' (s964.val) rfl rfl)) ?_
    refine W.val rfl rfl (X.assign (ev' (.bool true) rfl rfl)) ?_
    refine W.val rfl rfl (X.assign (ev' (.int .i64 0) rfl rfl)) ?_
    refine W.nil ?_
    refine then_n ?_
    refine W.fresh ?_
    intro r1010 er1011
    have s1012 : r1010 1 = .pointer (some ⟨b8, 0, none⟩) := (congrFun er1011 1).trans s945
    have s1013 : r1010 2 = .pointer (some ⟨cb23, 0, none⟩) := (congrFun er1011 2).trans s946
    have s1014 : r1010 3 = .pointer (some ⟨cb24, 0, none⟩) := (congrFun er1011 3).trans s947
    have s1015 : r1010 4 = .int .i64 0 := (congrFun er1011 4).trans s948
    have s1016 : r1010 7 = .int .i64 480 := (congrFun er1011 7).trans s949
    have s1017 : r1010 9 = .pointer (some ⟨b904, 0, none⟩) := (congrFun er1011 9).trans s950
    have s1018 : r1010 10 = .int .i64 0 := (congrFun er1011 10).trans s951
    have s1019 : r1010 11 = .pointer (some ⟨b974, 0, none⟩) := (congrFun er1011 11).trans rfl
    have s1020 : r1010 12 = s964.val := (congrFun er1011 12).trans rfl
    have s1021 : r1010 13 = .bool true := (congrFun er1011 13).trans rfl
    have s1022 : r1010 14 = .int .i64 0 := (congrFun er1011 14).trans rfl
    clear er1011
    refine W.seq ?_
    refine W.reg ?_
    refine W.val rfl rfl (X.loadR (ev' (.pointer (some ⟨b974, 0, none⟩)) rfl s1019) rt24 (row_blk_trade hB1007) rfl) ?_
    have h1023 := h983.gr g975
    have h1024 := h1023.st c1006 ne984
    refine W.val rfl rfl (X.loadR (ev' (.pointer (some ⟨cb24, 0, none⟩)) rfl s1014) rt30 (row_blk_msg h1024) rfl) ?_
    have h1025 := (hT969.ext lt977).gr g975
    have h1026 := h1025.st c1006 (.head _)
    have h1027 := h961.gr g967
    have h1028 := h1027.new g975 hB976.lt
    have h1029 := h1028.gr c1006
    refine W.call rfl rfl (X.callF go22 (args3 (ev' (T963.val) rfl rfl) (ev' (.agg M1.arr) rfl rfl) (evc' (.int .i64 4)))) (ttake_c M1 4 _ h1026 h1029) ?_
    rintro _ w1030 ⟨T1031, s1032, rfl, hT1033, hS1034, g1035⟩
    have R1036 := R1008.gr g1035
    rw [s5]
    have hT1037 : Tr (b974 :: b904 :: b845 :: b811 :: b797 :: cb24 :: cb23 :: b8 :: []) w1030 T1031 B1 := by rw [s5] at hT1033; exact hT1033
    have hS1038 : Sl (b974 :: b904 :: b845 :: b811 :: b797 :: cb24 :: cb23 :: b8 :: []) w1030 s1032 ([W1]) := by rw [s5] at hS1034; exact hS1034
    refine W.val rfl rfl (X.move (ev' (.tuple #[T1031.val, s1032.val, .bool false, .int .i64 0]) rfl rfl)) ?_
    refine W.val rfl rfl (X.extract (ev' (.tuple #[T1031.val, s1032.val, .bool false, .int .i64 0]) rfl rfl) rfl) ?_
    refine W.val rfl rfl (X.extract (ev' (.tuple #[T1031.val, s1032.val, .bool false, .int .i64 0]) rfl rfl) rfl) ?_
    refine W.val rfl rfl (X.extract (ev' (.tuple #[T1031.val, s1032.val, .bool false, .int .i64 0]) rfl rfl) rfl) ?_
    refine W.val rfl rfl (X.extract (ev' (.tuple #[T1031.val, s1032.val, .bool false, .int .i64 0]) rfl rfl) rfl) ?_
    refine W.eff rfl rfl (Y.alloc (cs := TV.zero.arr) zero24 rfl) ?_
    rintro _ w1041 ⟨b1042, rfl, g1043, hB1044, lt1045⟩
    have h1046 := h978.gr g975
    have h1047 := h1046.st c1006 ne979
    have h1048 := h1047.gr g1035
    have ne1049 := h1048.ne lt1045
    have h1050 := h981.gr g975
    have h1051 := h1050.st c1006 ne982
    have h1052 := h1051.gr g1035
    have ne1053 := h1052.ne lt1045
    have h1054 := h1024.gr g1035
    have ne1055 := h1054.ne lt1045
    have h1056 := h988.gr g975
    have h1057 := h1056.st c1006 ne989
    have h1058 := h1057.gr g1035
    have ne1059 := h1058.ne lt1045
    have h1060 := h993.gr g975
    have h1061 := h1060.st c1006 ne994
    have h1062 := h1061.gr g1035
    have ne1063 := h1062.ne lt1045
    have h1064 := h998.gr g975
    have h1065 := h1064.st c1006 ne999
    have h1066 := h1065.gr g1035
    have ne1067 := h1066.ne lt1045
    have h1068 := h1000.gr g975
    have h1069 := h1068.st c1006 ne1001
    have h1070 := h1069.gr g1035
    have ne1071 := h1070.ne lt1045
    have h1072 := hB1007.gr g1035
    have ne1073 := h1072.ne lt1045
    have l1074 := Nat.le_trans R1036.size lt1045
    have R1075 := R1036.gr g1043
    refine W.eff0 rfl rfl (Y.storeW (ds := T1031.arr) (ev' (.pointer (some ⟨b1042, 0, none⟩)) rfl rfl) (ev' (T1031.val) rfl rfl) hB1044 (n := 4) rfl sz24 rfl (TV.oneCell _) rfl) ?_
    rintro w1077 ⟨c1078, hB1079⟩
    have R1080 := R1075.stN c1078 l1074
    refine W.val rfl rfl (X.assign (ev' (s1032.val) rfl rfl)) ?_
    refine W.val rfl rfl (X.assign (ev' (.bool false) rfl rfl)) ?_
    refine W.val rfl rfl (X.assign (ev' (.int .i64 0) rfl rfl)) ?_
    refine W.nil ?_
    refine then_n ?_
    refine W.fresh ?_
    intro r1082 er1083
    have s1084 : r1082 1 = .pointer (some ⟨b8, 0, none⟩) := (congrFun er1083 1).trans s1012
    have s1085 : r1082 2 = .pointer (some ⟨cb23, 0, none⟩) := (congrFun er1083 2).trans s1013
    have s1086 : r1082 3 = .pointer (some ⟨cb24, 0, none⟩) := (congrFun er1083 3).trans s1014
    have s1087 : r1082 4 = .int .i64 0 := (congrFun er1083 4).trans s1015
    have s1088 : r1082 7 = .int .i64 480 := (congrFun er1083 7).trans s1016
    have s1089 : r1082 9 = .pointer (some ⟨b904, 0, none⟩) := (congrFun er1083 9).trans s1017
    have s1090 : r1082 10 = .int .i64 0 := (congrFun er1083 10).trans s1018
    have s1091 : r1082 11 = .pointer (some ⟨b974, 0, none⟩) := (congrFun er1083 11).trans s1019
    have s1092 : r1082 12 = s964.val := (congrFun er1083 12).trans s1020
    have s1093 : r1082 13 = .bool true := (congrFun er1083 13).trans s1021
    have s1094 : r1082 14 = .int .i64 0 := (congrFun er1083 14).trans s1022
    have s1095 : r1082 15 = .pointer (some ⟨b1042, 0, none⟩) := (congrFun er1083 15).trans rfl
    have s1096 : r1082 16 = s1032.val := (congrFun er1083 16).trans rfl
    have s1097 : r1082 17 = .bool false := (congrFun er1083 17).trans rfl
    have s1098 : r1082 18 = .int .i64 0 := (congrFun er1083 18).trans rfl
    clear er1083
    refine W.seq ?_
    refine W.reg ?_
    have h1099 := h1054.gr g1043
    have h1100 := h1099.st c1078 ne1055
    refine W.val rfl rfl (X.loadR (ev' (.pointer (some ⟨cb24, 0, none⟩)) rfl s1086) rt30 (row_blk_msg h1100) rfl) ?_
    refine W.eff rfl rfl (Y.alloc (cs := Msg.zero.arr) zero30 rfl) ?_
    rintro _ w1101 ⟨b1102, rfl, g1103, hB1104, lt1105⟩
    have h1106 := h1048.gr g1043
    have h1107 := h1106.st c1078 ne1049
    have ne1108 := h1107.ne lt1105
    have h1109 := h1052.gr g1043
    have h1110 := h1109.st c1078 ne1053
    have ne1111 := h1110.ne lt1105
    have ne1112 := h1100.ne lt1105
    have h1113 := h1058.gr g1043
    have h1114 := h1113.st c1078 ne1059
    have ne1115 := h1114.ne lt1105
    have h1116 := h1062.gr g1043
    have h1117 := h1116.st c1078 ne1063
    have ne1118 := h1117.ne lt1105
    have h1119 := h1066.gr g1043
    have h1120 := h1119.st c1078 ne1067
    have ne1121 := h1120.ne lt1105
    have h1122 := h1070.gr g1043
    have h1123 := h1122.st c1078 ne1071
    have ne1124 := h1123.ne lt1105
    have h1125 := h1072.gr g1043
    have h1126 := h1125.st c1078 ne1073
    have ne1127 := h1126.ne lt1105
    have ne1128 := hB1079.ne lt1105
    have l1129 := Nat.le_trans R1080.size lt1105
    have R1130 := R1080.gr g1103
    refine W.eff0 rfl rfl (Y.storeW (ds := M1.arr) (ev' (.pointer (some ⟨b1102, 0, none⟩)) rfl rfl) (ev' (.agg M1.arr) rfl rfl) hB1104 (Msg.size_arr _) sz30 (Msg.size_arr _) (Msg.oneCellA _) rfl) ?_
    rintro w1132 ⟨c1133, hB1134⟩
    have R1135 := R1130.stN c1133 l1129
    refine W.nil ?_
    refine then_n ?_
    refine W.fresh ?_
    intro r1137 er1138
    have s1139 : r1137 1 = .pointer (some ⟨b8, 0, none⟩) := (congrFun er1138 1).trans s1084
    have s1140 : r1137 2 = .pointer (some ⟨cb23, 0, none⟩) := (congrFun er1138 2).trans s1085
    have s1141 : r1137 3 = .pointer (some ⟨cb24, 0, none⟩) := (congrFun er1138 3).trans s1086
    have s1142 : r1137 4 = .int .i64 0 := (congrFun er1138 4).trans s1087
    have s1143 : r1137 7 = .int .i64 480 := (congrFun er1138 7).trans s1088
    have s1144 : r1137 9 = .pointer (some ⟨b904, 0, none⟩) := (congrFun er1138 9).trans s1089
    have s1145 : r1137 10 = .int .i64 0 := (congrFun er1138 10).trans s1090
    have s1146 : r1137 11 = .pointer (some ⟨b974, 0, none⟩) := (congrFun er1138 11).trans s1091
    have s1147 : r1137 12 = s964.val := (congrFun er1138 12).trans s1092
    have s1148 : r1137 13 = .bool true := (congrFun er1138 13).trans s1093
    have s1149 : r1137 14 = .int .i64 0 := (congrFun er1138 14).trans s1094
    have s1150 : r1137 15 = .pointer (some ⟨b1042, 0, none⟩) := (congrFun er1138 15).trans s1095
    have s1151 : r1137 16 = s1032.val := (congrFun er1138 16).trans s1096
    have s1152 : r1137 17 = .bool false := (congrFun er1138 17).trans s1097
    have s1153 : r1137 18 = .int .i64 0 := (congrFun er1138 18).trans s1098
    have s1154 : r1137 19 = .pointer (some ⟨b1102, 0, none⟩) := (congrFun er1138 19).trans rfl
    clear er1138
    refine W.seq ?_
    refine W.reg ?_
    refine W.val rfl rfl (X.fieldAddr (ev' (.pointer (some ⟨b1102, 0, none⟩)) rfl s1154) fo30_5 (b := ⟨b1102, 5, none⟩) (Addr.add_lit _ _ _)) ?_
    refine W.eff0 rfl rfl (Y.storeC (ds := ({ M1 with amount := 6 } : Msg).arr) (ev' (.pointer (some ⟨b1102, 5, none⟩)) rfl rfl) (evc' (.int .i64 6)) hB1134 (by rw [Msg.size_arr]; decide) sz3 rfl rfl (Msg.set5 _ _)) ?_
    rintro w1155 ⟨c1156, hB1157⟩
    have R1158 := R1135.stN c1156 l1129
    refine W.nil ?_
    refine then_n ?_
    refine W.fresh ?_
    intro r1160 er1161
    have s1162 : r1160 1 = .pointer (some ⟨b8, 0, none⟩) := (congrFun er1161 1).trans s1139
    have s1163 : r1160 2 = .pointer (some ⟨cb23, 0, none⟩) := (congrFun er1161 2).trans s1140
    have s1164 : r1160 3 = .pointer (some ⟨cb24, 0, none⟩) := (congrFun er1161 3).trans s1141
    have s1165 : r1160 4 = .int .i64 0 := (congrFun er1161 4).trans s1142
    have s1166 : r1160 7 = .int .i64 480 := (congrFun er1161 7).trans s1143
    have s1167 : r1160 9 = .pointer (some ⟨b904, 0, none⟩) := (congrFun er1161 9).trans s1144
    have s1168 : r1160 10 = .int .i64 0 := (congrFun er1161 10).trans s1145
    have s1169 : r1160 11 = .pointer (some ⟨b974, 0, none⟩) := (congrFun er1161 11).trans s1146
    have s1170 : r1160 12 = s964.val := (congrFun er1161 12).trans s1147
    have s1171 : r1160 13 = .bool true := (congrFun er1161 13).trans s1148
    have s1172 : r1160 14 = .int .i64 0 := (congrFun er1161 14).trans s1149
    have s1173 : r1160 15 = .pointer (some ⟨b1042, 0, none⟩) := (congrFun er1161 15).trans s1150
    have s1174 : r1160 16 = s1032.val := (congrFun er1161 16).trans s1151
    have s1175 : r1160 17 = .bool false := (congrFun er1161 17).trans s1152
    have s1176 : r1160 18 = .int .i64 0 := (congrFun er1161 18).trans s1153
    have s1177 : r1160 19 = .pointer (some ⟨b1102, 0, none⟩) := (congrFun er1161 19).trans s1154
    clear er1161
    refine W.seq ?_
    refine W.reg ?_
    have h1178 := h1126.gr g1103
    have h1179 := h1178.st c1133 ne1127
    have h1180 := h1179.st c1156 ne1127
    refine W.val rfl rfl (X.loadR (ev' (.pointer (some ⟨b974, 0, none⟩)) rfl s1169) rt24 (row_blk_trade h1180) rfl) ?_
    refine W.val rfl rfl (X.loadR (ev' (.pointer (some ⟨b1102, 0, none⟩)) rfl s1177) rt30 (row_blk_msg hB1157) rfl) ?_
    have h1181 := h1026.gr g1035
    have h1182 := (h1181.ext lt1045).gr g1043
    have h1183 := h1182.st c1078 (.head _)
    have h1184 := (h1183.ext lt1105).gr g1103
    have h1185 := h1184.st c1133 (.head _)
    have h1186 := h1185.st c1156 (.head _)
    have h1187 := h1029.gr g1035
    have h1188 := h1187.new g1043 hB1044.lt
    have h1189 := h1188.gr c1078
    have h1190 := h1189.new g1103 hB1104.lt
    have h1191 := h1190.gr c1133
    have h1192 := h1191.gr c1156
    refine W.call rfl rfl (X.callF go22 (args3 (ev' (T963.val) rfl rfl) (ev' (.agg ({ M1 with amount := 6 } : Msg).arr) rfl rfl) (evc' (.int .i64 4)))) (ttake_c ({ M1 with amount := 6 } : Msg) 4 _ h1186 h1192) ?_
    rintro _ w1193 ⟨T1194, s1195, rfl, hT1196, hS1197, g1198⟩
    have R1199 := R1158.gr g1198
    rw [s6']
    have hT1200 : Tr (b1102 :: b1042 :: b974 :: b904 :: b845 :: b811 :: b797 :: cb24 :: cb23 :: b8 :: []) w1193 T1194 Trade.zero := by rw [s6'] at hT1196; exact hT1196
    have hS1201 : Sl (b1102 :: b1042 :: b974 :: b904 :: b845 :: b811 :: b797 :: cb24 :: cb23 :: b8 :: []) w1193 s1195 ([]) := by rw [s6'] at hS1197; exact hS1197
    refine W.val rfl rfl (X.move (ev' (.tuple #[T1194.val, s1195.val, .bool false, .int .i64 480]) rfl rfl)) ?_
    refine W.val rfl rfl (X.extract (ev' (.tuple #[T1194.val, s1195.val, .bool false, .int .i64 480]) rfl rfl) rfl) ?_
    refine W.val rfl rfl (X.extract (ev' (.tuple #[T1194.val, s1195.val, .bool false, .int .i64 480]) rfl rfl) rfl) ?_
    refine W.val rfl rfl (X.extract (ev' (.tuple #[T1194.val, s1195.val, .bool false, .int .i64 480]) rfl rfl) rfl) ?_
    refine W.val rfl rfl (X.extract (ev' (.tuple #[T1194.val, s1195.val, .bool false, .int .i64 480]) rfl rfl) rfl) ?_
    refine W.eff rfl rfl (Y.alloc (cs := TV.zero.arr) zero24 rfl) ?_
    rintro _ w1204 ⟨b1205, rfl, g1206, hB1207, lt1208⟩
    have h1209 := h1107.gr g1103
    have h1210 := h1209.st c1133 ne1108
    have h1211 := h1210.st c1156 ne1108
    have h1212 := h1211.gr g1198
    have ne1213 := h1212.ne lt1208
    have h1214 := h1110.gr g1103
    have h1215 := h1214.st c1133 ne1111
    have h1216 := h1215.st c1156 ne1111
    have h1217 := h1216.gr g1198
    have ne1218 := h1217.ne lt1208
    have h1219 := h1100.gr g1103
    have h1220 := h1219.st c1133 ne1112
    have h1221 := h1220.st c1156 ne1112
    have h1222 := h1221.gr g1198
    have ne1223 := h1222.ne lt1208
    have h1224 := h1114.gr g1103
    have h1225 := h1224.st c1133 ne1115
    have h1226 := h1225.st c1156 ne1115
    have h1227 := h1226.gr g1198
    have ne1228 := h1227.ne lt1208
    have h1229 := h1117.gr g1103
    have h1230 := h1229.st c1133 ne1118
    have h1231 := h1230.st c1156 ne1118
    have h1232 := h1231.gr g1198
    have ne1233 := h1232.ne lt1208
    have h1234 := h1120.gr g1103
    have h1235 := h1234.st c1133 ne1121
    have h1236 := h1235.st c1156 ne1121
    have h1237 := h1236.gr g1198
    have ne1238 := h1237.ne lt1208
    have h1239 := h1123.gr g1103
    have h1240 := h1239.st c1133 ne1124
    have h1241 := h1240.st c1156 ne1124
    have h1242 := h1241.gr g1198
    have ne1243 := h1242.ne lt1208
    have h1244 := h1180.gr g1198
    have ne1245 := h1244.ne lt1208
    have h1246 := hB1079.gr g1103
    have h1247 := h1246.st c1133 ne1128
    have h1248 := h1247.st c1156 ne1128
    have h1249 := h1248.gr g1198
    have ne1250 := h1249.ne lt1208
    have h1251 := hB1157.gr g1198
    have ne1252 := h1251.ne lt1208
    have l1253 := Nat.le_trans R1199.size lt1208
    have R1254 := R1199.gr g1206
    refine W.eff0 rfl rfl (Y.storeW (ds := T1194.arr) (ev' (.pointer (some ⟨b1205, 0, none⟩)) rfl rfl) (ev' (T1194.val) rfl rfl) hB1207 (n := 4) rfl sz24 rfl (TV.oneCell _) rfl) ?_
    rintro w1256 ⟨c1257, hB1258⟩
    have R1259 := R1254.stN c1257 l1253
    refine W.val rfl rfl (X.assign (ev' (s1195.val) rfl rfl)) ?_
    refine W.val rfl rfl (X.assign (ev' (.bool false) rfl rfl)) ?_
    refine W.val rfl rfl (X.assign (ev' (.int .i64 480) rfl rfl)) ?_
    refine W.nil ?_
    refine then_n ?_
    refine W.fresh ?_
    intro r1261 er1262
    have s1263 : r1261 1 = .pointer (some ⟨b8, 0, none⟩) := (congrFun er1262 1).trans s1162
    have s1264 : r1261 2 = .pointer (some ⟨cb23, 0, none⟩) := (congrFun er1262 2).trans s1163
    have s1265 : r1261 3 = .pointer (some ⟨cb24, 0, none⟩) := (congrFun er1262 3).trans s1164
    have s1266 : r1261 4 = .int .i64 0 := (congrFun er1262 4).trans s1165
    have s1267 : r1261 7 = .int .i64 480 := (congrFun er1262 7).trans s1166
    have s1268 : r1261 9 = .pointer (some ⟨b904, 0, none⟩) := (congrFun er1262 9).trans s1167
    have s1269 : r1261 10 = .int .i64 0 := (congrFun er1262 10).trans s1168
    have s1270 : r1261 11 = .pointer (some ⟨b974, 0, none⟩) := (congrFun er1262 11).trans s1169
    have s1271 : r1261 12 = s964.val := (congrFun er1262 12).trans s1170
    have s1272 : r1261 13 = .bool true := (congrFun er1262 13).trans s1171
    have s1273 : r1261 14 = .int .i64 0 := (congrFun er1262 14).trans s1172
    have s1274 : r1261 15 = .pointer (some ⟨b1042, 0, none⟩) := (congrFun er1262 15).trans s1173
    have s1275 : r1261 16 = s1032.val := (congrFun er1262 16).trans s1174
    have s1276 : r1261 17 = .bool false := (congrFun er1262 17).trans s1175
    have s1277 : r1261 18 = .int .i64 0 := (congrFun er1262 18).trans s1176
    have s1278 : r1261 23 = .int .i64 480 := (congrFun er1262 23).trans rfl
    clear er1262
    refine W.seq ?_
    refine W.seq ?_
    refine W.reg ?_
    refine W.val rfl rfl (X.move (ev' (.int .i64 0) rfl s1266)) ?_
    refine W.val rfl rfl (eqv (X.neq (ev' (.int .i64 0) rfl rfl) (evc' (.int .i64 0))) (show ((0 : Int) != (0 : Int)) = false from by decide)) ?_
    refine W.val rfl rfl (X.move (ev' (.bool false) rfl rfl)) ?_
    refine W.valL rfl rfl rfl rfl rfl rfl (X.move (ev' (.int .i64 480) rfl s1267)) ?_
    refine W.valL rfl rfl rfl rfl rfl rfl (eqv (X.neq (ev' (.int .i64 480) rfl rfl) (evc' (.int .i64 480))) (show ((480 : Int) != (480 : Int)) = false from by decide)) ?_
    refine W.val rfl rfl (X.or (ev' (.bool false) rfl rfl) (ev' (gv (false == false) (.bool false)) rfl rfl)) ?_
    refine W.val rfl rfl (X.move (ev' (.bool false) rfl rfl)) ?_
    refine W.valL rfl rfl rfl rfl rfl rfl (X.move (ev' (.int .i64 0) rfl s1269)) ?_
    refine W.valL rfl rfl rfl rfl rfl rfl (eqv (X.neq (ev' (.int .i64 0) rfl rfl) (evc' (.int .i64 0))) (show ((0 : Int) != (0 : Int)) = false from by decide)) ?_
    refine W.val rfl rfl (X.or (ev' (.bool false) rfl rfl) (ev' (gv (false == false) (.bool false)) rfl rfl)) ?_
    refine W.val rfl rfl (X.move (ev' (.bool false) rfl rfl)) ?_
    refine W.valL rfl rfl rfl rfl rfl rfl (X.move (ev' (.int .i64 0) rfl s1273)) ?_
    refine W.valL rfl rfl rfl rfl rfl rfl (eqv (X.neq (ev' (.int .i64 0) rfl rfl) (evc' (.int .i64 0))) (show ((0 : Int) != (0 : Int)) = false from by decide)) ?_
    refine W.val rfl rfl (X.or (ev' (.bool false) rfl rfl) (ev' (gv (false == false) (.bool false)) rfl rfl)) ?_
    refine W.val rfl rfl (X.move (ev' (.bool false) rfl rfl)) ?_
    refine W.valL rfl rfl rfl rfl rfl rfl (X.move (ev' (.int .i64 0) rfl s1277)) ?_
    refine W.valL rfl rfl rfl rfl rfl rfl (eqv (X.neq (ev' (.int .i64 0) rfl rfl) (evc' (.int .i64 0))) (show ((0 : Int) != (0 : Int)) = false from by decide)) ?_
    refine W.val rfl rfl (X.or (ev' (.bool false) rfl rfl) (ev' (gv (false == false) (.bool false)) rfl rfl)) ?_
    refine W.val rfl rfl (X.move (ev' (.bool false) rfl rfl)) ?_
    refine W.valL rfl rfl rfl rfl rfl rfl (X.move (ev' (.int .i64 480) rfl s1278)) ?_
    refine W.valL rfl rfl rfl rfl rfl rfl (eqv (X.neq (ev' (.int .i64 480) rfl rfl) (evc' (.int .i64 480))) (show ((480 : Int) != (480 : Int)) = false from by decide)) ?_
    refine W.val rfl rfl (X.or (ev' (.bool false) rfl rfl) (ev' (gv (false == false) (.bool false)) rfl rfl)) ?_
    refine W.val rfl rfl (X.move (ev' (.bool false) rfl rfl)) ?_
    refine W.valL rfl rfl rfl rfl rfl rfl (X.move (ev' (s964.val) rfl s1271)) ?_
    have h1279 := (hS970.ext lt977).gr g975
    have h1280 := h1279.st c1006 (.head _)
    have h1281 := h1280.gr g1035
    have h1282 := (h1281.ext lt1045).gr g1043
    have h1283 := h1282.st c1078 (.head _)
    have h1284 := (h1283.ext lt1105).gr g1103
    have h1285 := h1284.st c1133 (.head _)
    have h1286 := h1285.st c1156 (.head _)
    have h1287 := h1286.gr g1198
    have h1288 := (h1287.ext lt1208).gr g1206
    have h1289 := h1288.st c1257 (.head _)
    refine W.valL rfl rfl rfl rfl rfl rfl (eqvI (X.len (ev' (s964.val) rfl rfl) st22) (congrArg (fun n : Nat => (n : Int)) h1289.len)) ?_
    refine W.valL rfl rfl rfl rfl rfl rfl (eqv (X.neq (ev' (.int .i64 1) rfl rfl) (evc' (.int .i64 1))) (show ((1 : Int) != (1 : Int)) = false from by decide)) ?_
    refine W.val rfl rfl (X.or (ev' (.bool false) rfl rfl) (ev' (gv (false == false) (.bool false)) rfl rfl)) ?_
    refine W.val rfl rfl (X.move (ev' (.bool false) rfl rfl)) ?_
    refine W.valL rfl rfl rfl rfl rfl rfl (X.move (ev' (s1032.val) rfl s1275)) ?_
    have h1290 := (hS1038.ext lt1045).gr g1043
    have h1291 := h1290.st c1078 (.head _)
    have h1292 := (h1291.ext lt1105).gr g1103
    have h1293 := h1292.st c1133 (.head _)
    have h1294 := h1293.st c1156 (.head _)
    have h1295 := h1294.gr g1198
    have h1296 := (h1295.ext lt1208).gr g1206
    have h1297 := h1296.st c1257 (.head _)
    refine W.valL rfl rfl rfl rfl rfl rfl (eqvI (X.len (ev' (s1032.val) rfl rfl) st22) (congrArg (fun n : Nat => (n : Int)) h1297.len)) ?_
    refine W.valL rfl rfl rfl rfl rfl rfl (eqv (X.neq (ev' (.int .i64 1) rfl rfl) (evc' (.int .i64 1))) (show ((1 : Int) != (1 : Int)) = false from by decide)) ?_
    refine W.val rfl rfl (X.or (ev' (.bool false) rfl rfl) (ev' (gv (false == false) (.bool false)) rfl rfl)) ?_
    refine W.nil ?_
    refine then_n ?_
    refine W.fresh ?_
    intro r1298 er1299
    have s1300 : r1298 1 = .pointer (some ⟨b8, 0, none⟩) := (congrFun er1299 1).trans s1263
    have s1301 : r1298 2 = .pointer (some ⟨cb23, 0, none⟩) := (congrFun er1299 2).trans s1264
    have s1302 : r1298 3 = .pointer (some ⟨cb24, 0, none⟩) := (congrFun er1299 3).trans s1265
    have s1303 : r1298 9 = .pointer (some ⟨b904, 0, none⟩) := (congrFun er1299 9).trans s1268
    have s1304 : r1298 11 = .pointer (some ⟨b974, 0, none⟩) := (congrFun er1299 11).trans s1270
    have s1305 : r1298 12 = s964.val := (congrFun er1299 12).trans s1271
    have s1306 : r1298 13 = .bool true := (congrFun er1299 13).trans s1272
    have s1307 : r1298 15 = .pointer (some ⟨b1042, 0, none⟩) := (congrFun er1299 15).trans s1274
    have s1308 : r1298 16 = s1032.val := (congrFun er1299 16).trans s1275
    have s1309 : r1298 17 = .bool false := (congrFun er1299 17).trans s1276
    have s1310 : r1298 115 = .bool false := (congrFun er1299 115).trans rfl
    clear er1299
    refine W.condF rfl s1310 ?_
    refine W.skip ?_
    refine then_n ?_
    refine W.seq ?_
    refine W.cut (fun a W => ∃ (ρ : Ro) (cb1312 : Nat) (cT1316 : TV) (cs1313 : SV) (cs1314 : SV) (cs1315 : SV), a = mk 248 ρ ∧ Chg [] w1256 W ∧ ρ 1 = .pointer (some ⟨b8, 0, none⟩) ∧ ρ 2 = .pointer (some ⟨cb23, 0, none⟩) ∧ ρ 3 = .pointer (some ⟨cb24, 0, none⟩) ∧ ρ 9 = .pointer (some ⟨b904, 0, none⟩) ∧ ρ 11 = .pointer (some ⟨b974, 0, none⟩) ∧ ρ 12 = cs1313.val ∧ ρ 13 = .bool true ∧ ρ 15 = .pointer (some ⟨b1042, 0, none⟩) ∧ ρ 16 = cs1314.val ∧ ρ 17 = .bool false ∧ ρ 24 = .pointer (some ⟨cb1312, 0, none⟩) ∧ ρ 25 = cs1315.val ∧ ρ 26 = .bool true ∧ ρ 27 = .int .i64 0 ∧ Blk W cb1312 24 (TV.arr cT1316) ∧ Tr (cb1312 :: b1205 :: b1102 :: b1042 :: b974 :: b904 :: b845 :: b811 :: b797 :: cb24 :: cb23 :: b8 :: []) W cT1316 D1 ∧ Sl (cb1312 :: b1205 :: b1102 :: b1042 :: b974 :: b904 :: b845 :: b811 :: b797 :: cb24 :: cb23 :: b8 :: []) W cs1313 ([W1]) ∧ Sl (cb1312 :: b1205 :: b1102 :: b1042 :: b974 :: b904 :: b845 :: b811 :: b797 :: cb24 :: cb23 :: b8 :: []) W cs1314 ([W1]) ∧ Sl (cb1312 :: b1205 :: b1102 :: b1042 :: b974 :: b904 :: b845 :: b811 :: b797 :: cb24 :: cb23 :: b8 :: []) W cs1315 ([]) ∧ w1256.heap.size ≤ cb1312) ?_ ?_
    · skip
      have R1317 : Chg [] w1256 w1256 := Chg.of_refl _ _
      refine A.begin' (cs := []) rfl ?_
      intro w1318 g1319
      have R1320 := R1259.gr g1319
      have R1321 := R1317.gr g1319
      have R1322 : Chg [] w1318 w1318 := Chg.of_refl _ _
      have h1323 := h1217.gr g1206
      have h1324 := h1323.st c1257 ne1218
      have h1325 := h1324.gr g1319
      refine A.take (i := 0) rfl (by kernel_rfl) (by kernel_rfl) (by kernel_rfl) (fun _ _ _ h => h) R1322 rfl rfl (fun _ hw => (X.loadR (ev' (.pointer (some ⟨cb23, 0, none⟩)) rfl s1301) rt24 (row_blk_trade (h1325.gr hw)) rfl)) ?_
      refine A.take (i := 1) rfl (by kernel_rfl) (by kernel_rfl) (by kernel_rfl) (fun _ _ _ h => h) R1322 rfl rfl (fun _ _ => (X.move (ev' (s964.val) rfl s1305))) ?_
      have h1326 := h1289.gr g1319
      obtain ⟨eb1327, eo1328, ha1329, lt1330, hr1331⟩ := Sl.rowAt h1326 (show [W1][0]? = some W1 from rfl)
      refine A.take (i := 2) rfl (by kernel_rfl) (by kernel_rfl) (by kernel_rfl) (fun _ _ _ h => h) R1322 rfl rfl (fun _ _ => (X.idx (b := ⟨eb1327, eo1328 + 0 * 43, none⟩) (evs ha1329 (ev' (s964.val) rfl rfl)) (evc' (.int .i64 0)) (Int.le_refl 0) (idx_lt (Int.le_refl 0) lt1330) st22 sz30 (Addr.add_lit _ _ _))) ?_
      refine A.take (i := 3) rfl (by kernel_rfl) (by kernel_rfl) (by kernel_rfl) (fun _ _ _ h => h) R1322 rfl rfl (fun _ hw => (X.loadR (ev' (.pointer (some ⟨eb1327, eo1328 + 0 * 43, none⟩)) rfl rfl) rt30 (hr1331.gr hw).r rfl)) ?_
      refine A.two (i := 4) (j := 10) (by kernel_rfl) ?_ ?_
      · skip
        have h1333 := (hT901.ext lt907).gr g905
        have h1334 := h1333.st c933 (.tail _ (.tail _ (.tail _ (.tail _ (.tail _ (.head _))))))
        have h1335 := h1334.st c939 (.head _)
        have h1336 := h1335.gr g967
        have h1337 := (h1336.ext lt977).gr g975
        have h1338 := h1337.st c1006 (.head _)
        have h1339 := h1338.gr g1035
        have h1340 := (h1339.ext lt1045).gr g1043
        have h1341 := h1340.st c1078 (.head _)
        have h1342 := (h1341.ext lt1105).gr g1103
        have h1343 := h1342.st c1133 (.head _)
        have h1344 := h1343.st c1156 (.head _)
        have h1345 := h1344.gr g1198
        have h1346 := (h1345.ext lt1208).gr g1206
        have h1347 := h1346.st c1257 (.head _)
        have h1348 := h1347.gr g1319
        have h1349 := h1192.gr g1198
        have h1350 := h1349.new g1206 hB1207.lt
        have h1351 := h1350.gr c1257
        have h1352 := h1351.gr g1319
        refine E.call (i := 4) rfl rfl rfl (X.callF go22 (args3 (ev' (T897.val) rfl rfl) (ev' (.agg W1.arr) rfl rfl) (evc' (.int .i64 3)))) (ttake_c W1 3 _ h1348 h1352) ?_
        rintro _ w1353 ⟨T1354, s1355, rfl, hT1356, hS1357, g1358⟩
        have R1359 := R1320.gr g1358
        have R1360 := R1321.gr g1358
        have R1361 := R1322.gr g1358
        rw [s7]
        have hT1362 : Tr (b1205 :: b1102 :: b1042 :: b974 :: b904 :: b845 :: b811 :: b797 :: cb24 :: cb23 :: b8 :: []) w1353 T1354 D1 := by rw [s7] at hT1356; exact hT1356
        have hS1363 : Sl (b1205 :: b1102 :: b1042 :: b974 :: b904 :: b845 :: b811 :: b797 :: cb24 :: cb23 :: b8 :: []) w1353 s1355 ([]) := by rw [s7] at hS1357; exact hS1357
        refine ⟨R1361, ?_⟩
        refine A.take (i := 5) rfl (by kernel_rfl) (by kernel_rfl) (by kernel_rfl) (fun _ _ _ h => h) R1361 rfl rfl (fun _ _ => (X.move (ev' (.tuple #[T1354.val, s1355.val, .bool true, .int .i64 0]) rfl rfl))) ?_
        refine A.take (i := 6) rfl (by kernel_rfl) (by kernel_rfl) (by kernel_rfl) (fun _ _ _ h => h) R1361 rfl rfl (fun _ _ => (X.extract (ev' (.tuple #[T1354.val, s1355.val, .bool true, .int .i64 0]) rfl rfl) rfl)) ?_
        refine A.take (i := 7) rfl (by kernel_rfl) (by kernel_rfl) (by kernel_rfl) (fun _ _ _ h => h) R1361 rfl rfl (fun _ _ => (X.extract (ev' (.tuple #[T1354.val, s1355.val, .bool true, .int .i64 0]) rfl rfl) rfl)) ?_
        refine A.take (i := 8) rfl (by kernel_rfl) (by kernel_rfl) (by kernel_rfl) (fun _ _ _ h => h) R1361 rfl rfl (fun _ _ => (X.extract (ev' (.tuple #[T1354.val, s1355.val, .bool true, .int .i64 0]) rfl rfl) rfl)) ?_
        refine A.take (i := 9) rfl (by kernel_rfl) (by kernel_rfl) (by kernel_rfl) (fun _ _ _ h => h) R1361 rfl rfl (fun _ _ => (X.extract (ev' (.tuple #[T1354.val, s1355.val, .bool true, .int .i64 0]) rfl rfl) rfl)) ?_
        refine A.one (i := 10) (by kernel_rfl) ?_
        refine E.eff (i := 10) rfl rfl rfl (Y.alloc (cs := TV.zero.arr) zero24 rfl) ?_
        rintro _ w1366 ⟨b1367, rfl, g1368, hB1369, lt1370⟩
        have h1371 := h1212.gr g1206
        have h1372 := h1371.st c1257 ne1213
        have h1373 := h1372.gr g1319
        have h1374 := h1373.gr g1358
        have ne1375 := h1374.ne lt1370
        have h1376 := h1325.gr g1358
        have ne1377 := h1376.ne lt1370
        have h1378 := h1222.gr g1206
        have h1379 := h1378.st c1257 ne1223
        have h1380 := h1379.gr g1319
        have h1381 := h1380.gr g1358
        have ne1382 := h1381.ne lt1370
        have h1383 := h1227.gr g1206
        have h1384 := h1383.st c1257 ne1228
        have h1385 := h1384.gr g1319
        have h1386 := h1385.gr g1358
        have ne1387 := h1386.ne lt1370
        have h1388 := h1232.gr g1206
        have h1389 := h1388.st c1257 ne1233
        have h1390 := h1389.gr g1319
        have h1391 := h1390.gr g1358
        have ne1392 := h1391.ne lt1370
        have h1393 := h1237.gr g1206
        have h1394 := h1393.st c1257 ne1238
        have h1395 := h1394.gr g1319
        have h1396 := h1395.gr g1358
        have ne1397 := h1396.ne lt1370
        have h1398 := h1242.gr g1206
        have h1399 := h1398.st c1257 ne1243
        have h1400 := h1399.gr g1319
        have h1401 := h1400.gr g1358
        have ne1402 := h1401.ne lt1370
        have h1403 := h1244.gr g1206
        have h1404 := h1403.st c1257 ne1245
        have h1405 := h1404.gr g1319
        have h1406 := h1405.gr g1358
        have ne1407 := h1406.ne lt1370
        have h1408 := h1249.gr g1206
        have h1409 := h1408.st c1257 ne1250
        have h1410 := h1409.gr g1319
        have h1411 := h1410.gr g1358
        have ne1412 := h1411.ne lt1370
        have h1413 := h1251.gr g1206
        have h1414 := h1413.st c1257 ne1252
        have h1415 := h1414.gr g1319
        have h1416 := h1415.gr g1358
        have ne1417 := h1416.ne lt1370
        have h1418 := hB1258.gr g1319
        have h1419 := h1418.gr g1358
        have ne1420 := h1419.ne lt1370
        have l1421 := Nat.le_trans R1359.size lt1370
        have l1422 := Nat.le_trans R1360.size lt1370
        have l1423 := Nat.le_trans R1361.size lt1370
        have R1424 := R1359.gr g1368
        have R1425 := R1360.gr g1368
        have R1426 := R1361.gr g1368
        refine ⟨R1426, ?_⟩
        refine A.one (i := 11) (by kernel_rfl) ?_
        refine E.eff0 (i := 11) rfl rfl rfl (Y.storeW (ds := T1354.arr) (ev' (.pointer (some ⟨b1367, 0, none⟩)) rfl rfl) (ev' (T1354.val) rfl rfl) hB1369 (n := 4) rfl sz24 rfl (TV.oneCell _) rfl) ?_
        rintro w1428 ⟨c1429, hB1430⟩
        have R1431 := R1424.stN c1429 l1421
        have R1432 := R1425.stN c1429 l1422
        have R1433 := R1426.stN c1429 l1423
        refine ⟨R1433, ?_⟩
        refine A.take (i := 12) rfl (by kernel_rfl) (by kernel_rfl) (by kernel_rfl) (fun _ _ _ h => h) R1433 rfl rfl (fun _ _ => (X.assign (ev' (s1355.val) rfl rfl))) ?_
        refine A.take (i := 13) rfl (by kernel_rfl) (by kernel_rfl) (by kernel_rfl) (fun _ _ _ h => h) R1433 rfl rfl (fun _ _ => (X.assign (ev' (.bool true) rfl rfl))) ?_
        refine A.take (i := 14) rfl (by kernel_rfl) (by kernel_rfl) (by kernel_rfl) (fun _ _ _ h => h) R1433 rfl rfl (fun _ _ => (X.assign (ev' (.int .i64 0) rfl rfl))) ?_
        refine A.done (by kernel_rfl) ?_
        have h1435 := (hT1362.ext lt1370).gr g1368
        have h1436 := h1435.st c1429 (.head _)
        have h1437 := h1326.gr g1358
        have h1438 := (h1437.ext lt1370).gr g1368
        have h1439 := h1438.st c1429 (.head _)
        have h1440 := h1297.gr g1319
        have h1441 := h1440.gr g1358
        have h1442 := (h1441.ext lt1370).gr g1368
        have h1443 := h1442.st c1429 (.head _)
        have h1444 := (hS1363.ext lt1370).gr g1368
        have h1445 := h1444.st c1429 (.head _)
        exact then_n ⟨_, b1367, T1354, s964, s1032, s1355, rfl, R1432, s1300, s1301, s1302, s1303, s1304, s1305, s1306, s1307, s1308, s1309, rfl, rfl, rfl, rfl, hB1430, Tr.sub h1436 (by intro c hc; simp only [List.mem_cons] at hc ⊢; grind), Sl.sub h1439 (by intro c hc; simp only [List.mem_cons] at hc ⊢; grind), Sl.sub h1443 (by intro c hc; simp only [List.mem_cons] at hc ⊢; grind), Sl.sub h1445 (by intro c hc; simp only [List.mem_cons] at hc ⊢; grind), l1422⟩
      · skip
        refine E.eff (i := 10) rfl rfl rfl (Y.alloc (cs := TV.zero.arr) zero24 rfl) ?_
        rintro _ w1446 ⟨b1447, rfl, g1448, hB1449, lt1450⟩
        have h1451 := h1212.gr g1206
        have h1452 := h1451.st c1257 ne1213
        have h1453 := h1452.gr g1319
        have ne1454 := h1453.ne lt1450
        have ne1455 := h1325.ne lt1450
        have h1456 := h1222.gr g1206
        have h1457 := h1456.st c1257 ne1223
        have h1458 := h1457.gr g1319
        have ne1459 := h1458.ne lt1450
        have h1460 := h1227.gr g1206
        have h1461 := h1460.st c1257 ne1228
        have h1462 := h1461.gr g1319
        have ne1463 := h1462.ne lt1450
        have h1464 := h1232.gr g1206
        have h1465 := h1464.st c1257 ne1233
        have h1466 := h1465.gr g1319
        have ne1467 := h1466.ne lt1450
        have h1468 := h1237.gr g1206
        have h1469 := h1468.st c1257 ne1238
        have h1470 := h1469.gr g1319
        have ne1471 := h1470.ne lt1450
        have h1472 := h1242.gr g1206
        have h1473 := h1472.st c1257 ne1243
        have h1474 := h1473.gr g1319
        have ne1475 := h1474.ne lt1450
        have h1476 := h1244.gr g1206
        have h1477 := h1476.st c1257 ne1245
        have h1478 := h1477.gr g1319
        have ne1479 := h1478.ne lt1450
        have h1480 := h1249.gr g1206
        have h1481 := h1480.st c1257 ne1250
        have h1482 := h1481.gr g1319
        have ne1483 := h1482.ne lt1450
        have h1484 := h1251.gr g1206
        have h1485 := h1484.st c1257 ne1252
        have h1486 := h1485.gr g1319
        have ne1487 := h1486.ne lt1450
        have h1488 := hB1258.gr g1319
        have ne1489 := h1488.ne lt1450
        have l1490 := Nat.le_trans R1320.size lt1450
        have l1491 := Nat.le_trans R1321.size lt1450
        have l1492 := Nat.le_trans R1322.size lt1450
        have R1493 := R1320.gr g1448
        have R1494 := R1321.gr g1448
        have R1495 := R1322.gr g1448
        refine ⟨R1495, ?_⟩
        refine A.one (i := 4) (by kernel_rfl) ?_
        have h1497 := (hT901.ext lt907).gr g905
        have h1498 := h1497.st c933 (.tail _ (.tail _ (.tail _ (.tail _ (.tail _ (.head _))))))
        have h1499 := h1498.st c939 (.head _)
        have h1500 := h1499.gr g967
        have h1501 := (h1500.ext lt977).gr g975
        have h1502 := h1501.st c1006 (.head _)
        have h1503 := h1502.gr g1035
        have h1504 := (h1503.ext lt1045).gr g1043
        have h1505 := h1504.st c1078 (.head _)
        have h1506 := (h1505.ext lt1105).gr g1103
        have h1507 := h1506.st c1133 (.head _)
        have h1508 := h1507.st c1156 (.head _)
        have h1509 := h1508.gr g1198
        have h1510 := (h1509.ext lt1208).gr g1206
        have h1511 := h1510.st c1257 (.head _)
        have h1512 := h1511.gr g1319
        have h1513 := (h1512.ext lt1450).gr g1448
        have h1514 := h1192.gr g1198
        have h1515 := h1514.new g1206 hB1207.lt
        have h1516 := h1515.gr c1257
        have h1517 := h1516.gr g1319
        have h1518 := h1517.new g1448 hB1449.lt
        refine E.call (i := 4) rfl rfl rfl (X.callF go22 (args3 (ev' (T897.val) rfl rfl) (ev' (.agg W1.arr) rfl rfl) (evc' (.int .i64 3)))) (ttake_c W1 3 _ h1513 h1518) ?_
        rintro _ w1519 ⟨T1520, s1521, rfl, hT1522, hS1523, g1524⟩
        have R1525 := R1493.gr g1524
        have R1526 := R1494.gr g1524
        have R1527 := R1495.gr g1524
        rw [s7]
        have hT1528 : Tr (b1447 :: b1205 :: b1102 :: b1042 :: b974 :: b904 :: b845 :: b811 :: b797 :: cb24 :: cb23 :: b8 :: []) w1519 T1520 D1 := by rw [s7] at hT1522; exact hT1522
        have hS1529 : Sl (b1447 :: b1205 :: b1102 :: b1042 :: b974 :: b904 :: b845 :: b811 :: b797 :: cb24 :: cb23 :: b8 :: []) w1519 s1521 ([]) := by rw [s7] at hS1523; exact hS1523
        refine ⟨R1527, ?_⟩
        refine A.take (i := 5) rfl (by kernel_rfl) (by kernel_rfl) (by kernel_rfl) (fun _ _ _ h => h) R1527 rfl rfl (fun _ _ => (X.move (ev' (.tuple #[T1520.val, s1521.val, .bool true, .int .i64 0]) rfl rfl))) ?_
        refine A.take (i := 6) rfl (by kernel_rfl) (by kernel_rfl) (by kernel_rfl) (fun _ _ _ h => h) R1527 rfl rfl (fun _ _ => (X.extract (ev' (.tuple #[T1520.val, s1521.val, .bool true, .int .i64 0]) rfl rfl) rfl)) ?_
        refine A.take (i := 7) rfl (by kernel_rfl) (by kernel_rfl) (by kernel_rfl) (fun _ _ _ h => h) R1527 rfl rfl (fun _ _ => (X.extract (ev' (.tuple #[T1520.val, s1521.val, .bool true, .int .i64 0]) rfl rfl) rfl)) ?_
        refine A.take (i := 8) rfl (by kernel_rfl) (by kernel_rfl) (by kernel_rfl) (fun _ _ _ h => h) R1527 rfl rfl (fun _ _ => (X.extract (ev' (.tuple #[T1520.val, s1521.val, .bool true, .int .i64 0]) rfl rfl) rfl)) ?_
        refine A.take (i := 9) rfl (by kernel_rfl) (by kernel_rfl) (by kernel_rfl) (fun _ _ _ h => h) R1527 rfl rfl (fun _ _ => (X.extract (ev' (.tuple #[T1520.val, s1521.val, .bool true, .int .i64 0]) rfl rfl) rfl)) ?_
        refine A.one (i := 11) (by kernel_rfl) ?_
        have h1532 := hB1449.gr g1524
        refine E.eff0 (i := 11) rfl rfl rfl (Y.storeW (ds := T1520.arr) (ev' (.pointer (some ⟨b1447, 0, none⟩)) rfl rfl) (ev' (T1520.val) rfl rfl) h1532 (n := 4) rfl sz24 rfl (TV.oneCell _) rfl) ?_
        rintro w1533 ⟨c1534, hB1535⟩
        have R1536 := R1525.stN c1534 l1490
        have R1537 := R1526.stN c1534 l1491
        have R1538 := R1527.stN c1534 l1492
        refine ⟨R1538, ?_⟩
        refine A.take (i := 12) rfl (by kernel_rfl) (by kernel_rfl) (by kernel_rfl) (fun _ _ _ h => h) R1538 rfl rfl (fun _ _ => (X.assign (ev' (s1521.val) rfl rfl))) ?_
        refine A.take (i := 13) rfl (by kernel_rfl) (by kernel_rfl) (by kernel_rfl) (fun _ _ _ h => h) R1538 rfl rfl (fun _ _ => (X.assign (ev' (.bool true) rfl rfl))) ?_
        refine A.take (i := 14) rfl (by kernel_rfl) (by kernel_rfl) (by kernel_rfl) (fun _ _ _ h => h) R1538 rfl rfl (fun _ _ => (X.assign (ev' (.int .i64 0) rfl rfl))) ?_
        refine A.done (by kernel_rfl) ?_
        have h1540 := hT1528.st c1534 (.head _)
        have h1541 := (h1326.ext lt1450).gr g1448
        have h1542 := h1541.gr g1524
        have h1543 := h1542.st c1534 (.head _)
        have h1544 := h1297.gr g1319
        have h1545 := (h1544.ext lt1450).gr g1448
        have h1546 := h1545.gr g1524
        have h1547 := h1546.st c1534 (.head _)
        have h1548 := hS1529.st c1534 (.head _)
        exact then_n ⟨_, b1447, T1520, s964, s1032, s1521, rfl, R1537, s1300, s1301, s1302, s1303, s1304, s1305, s1306, s1307, s1308, s1309, rfl, rfl, rfl, rfl, hB1535, Tr.sub h1540 (by intro c hc; simp only [List.mem_cons] at hc ⊢; grind), Sl.sub h1543 (by intro c hc; simp only [List.mem_cons] at hc ⊢; grind), Sl.sub h1547 (by intro c hc; simp only [List.mem_cons] at hc ⊢; grind), Sl.sub h1548 (by intro c hc; simp only [List.mem_cons] at hc ⊢; grind), l1491⟩
    · skip
      rintro _ w1549 ⟨r1551, cb1312, cT1316, cs1313, cs1314, cs1315, rfl, R1550, s1552, s1553, s1554, s1555, s1556, s1557, s1558, s1559, s1560, s1561, s1562, s1563, s1564, s1565, hB1566, hT1567, hs1568, hs1569, hs1570, lt1571⟩
      have h1572 := h1212.gr g1206
      have h1573 := h1572.st c1257 ne1213
      have ne1574 := h1573.ne lt1571
      have h1575 := h1217.gr g1206
      have h1576 := h1575.st c1257 ne1218
      have ne1577 := h1576.ne lt1571
      have h1578 := h1222.gr g1206
      have h1579 := h1578.st c1257 ne1223
      have ne1580 := h1579.ne lt1571
      have h1581 := h1227.gr g1206
      have h1582 := h1581.st c1257 ne1228
      have ne1583 := h1582.ne lt1571
      have h1584 := h1232.gr g1206
      have h1585 := h1584.st c1257 ne1233
      have ne1586 := h1585.ne lt1571
      have h1587 := h1237.gr g1206
      have h1588 := h1587.st c1257 ne1238
      have ne1589 := h1588.ne lt1571
      have h1590 := h1242.gr g1206
      have h1591 := h1590.st c1257 ne1243
      have ne1592 := h1591.ne lt1571
      have h1593 := h1244.gr g1206
      have h1594 := h1593.st c1257 ne1245
      have ne1595 := h1594.ne lt1571
      have h1596 := h1249.gr g1206
      have h1597 := h1596.st c1257 ne1250
      have ne1598 := h1597.ne lt1571
      have h1599 := h1251.gr g1206
      have h1600 := h1599.st c1257 ne1252
      have ne1601 := h1600.ne lt1571
      have ne1602 := hB1258.ne lt1571
      have l1603 := Nat.le_trans R1259.size lt1571
      have h1604 := h1192.gr g1198
      have h1605 := h1604.new g1206 hB1207.lt
      have h1606 := h1605.gr c1257
      have R1607 := R1259.gr R1550
      have hl1610 := LtAll.cons (h1606.gr R1550) hB1566.lt
      refine then_n ?_
      refine W.seq ?_
      refine W.cut (fun a W => ∃ (ρ : Ro) (cs1615 : SV) (cs1616 : SV) (cs1617 : SV), a = mk 248 ρ ∧ Chg [] w1549 W ∧ ρ 1 = .pointer (some ⟨b8, 0, none⟩) ∧ ρ 2 = .pointer (some ⟨cb23, 0, none⟩) ∧ ρ 3 = .pointer (some ⟨cb24, 0, none⟩) ∧ ρ 9 = .pointer (some ⟨b904, 0, none⟩) ∧ ρ 11 = .pointer (some ⟨b974, 0, none⟩) ∧ ρ 12 = cs1615.val ∧ ρ 13 = .bool true ∧ ρ 15 = .pointer (some ⟨b1042, 0, none⟩) ∧ ρ 16 = cs1616.val ∧ ρ 17 = .bool false ∧ ρ 24 = .pointer (some ⟨cb1312, 0, none⟩) ∧ ρ 25 = cs1617.val ∧ ρ 26 = .bool true ∧ ρ 27 = .int .i64 0 ∧ ρ 31 = .int .i64 480 ∧ Sl (cb1312 :: b1205 :: b1102 :: b1042 :: b974 :: b904 :: b845 :: b811 :: b797 :: cb24 :: cb23 :: b8 :: []) W cs1615 ([W1]) ∧ Sl (cb1312 :: b1205 :: b1102 :: b1042 :: b974 :: b904 :: b845 :: b811 :: b797 :: cb24 :: cb23 :: b8 :: []) W cs1616 ([W1]) ∧ Sl (cb1312 :: b1205 :: b1102 :: b1042 :: b974 :: b904 :: b845 :: b811 :: b797 :: cb24 :: cb23 :: b8 :: []) W cs1617 ([])) ?_ ?_
      · skip
        have R1618 : Chg [] w1549 w1549 := Chg.of_refl _ _
        refine A.begin' (cs := []) rfl ?_
        intro w1619 g1620
        have R1621 := R1607.gr g1620
        have R1622 := R1618.gr g1620
        have R1623 : Chg [] w1619 w1619 := Chg.of_refl _ _
        have h1625 := h1573.gr R1550
        have h1626 := h1625.gr g1620
        refine A.take (i := 0) rfl (by kernel_rfl) (by kernel_rfl) (by kernel_rfl) (fun _ _ _ h => h) R1623 rfl rfl (fun _ hw => (X.loadR (ev' (.pointer (some ⟨b8, 0, none⟩)) rfl s1552) rt24 (row_blk_trade (h1626.gr hw)) rfl)) ?_
        refine A.take (i := 1) rfl (by kernel_rfl) (by kernel_rfl) (by kernel_rfl) (fun _ _ _ h => h) R1623 rfl rfl (fun _ _ => (X.move (ev' (cs1313.val) rfl s1557))) ?_
        have h1627 := hs1568.gr g1620
        obtain ⟨eb1628, eo1629, ha1630, lt1631, hr1632⟩ := Sl.rowAt h1627 (show [W1][0]? = some W1 from rfl)
        refine A.take (i := 2) rfl (by kernel_rfl) (by kernel_rfl) (by kernel_rfl) (fun _ _ _ h => h) R1623 rfl rfl (fun _ _ => (X.idx (b := ⟨eb1628, eo1629 + 0 * 43, none⟩) (evs ha1630 (ev' (cs1313.val) rfl rfl)) (evc' (.int .i64 0)) (Int.le_refl 0) (idx_lt (Int.le_refl 0) lt1631) st22 sz30 (Addr.add_lit _ _ _))) ?_
        refine A.take (i := 3) rfl (by kernel_rfl) (by kernel_rfl) (by kernel_rfl) (fun _ _ _ h => h) R1623 rfl rfl (fun _ hw => (X.loadR (ev' (.pointer (some ⟨eb1628, eo1629 + 0 * 43, none⟩)) rfl rfl) rt30 (hr1632.gr hw).r rfl)) ?_
        refine A.two (i := 4) (j := 10) (by kernel_rfl) ?_ ?_
        · skip
          have h1634 := hl1610.gr g1620
          refine E.call (i := 4) rfl rfl rfl (X.callF go22 (args3 (ev' (TV.zero.val) rfl rfl) (ev' (.agg W1.arr) rfl rfl) (evc' (.int .i64 3)))) (ttake_c W1 3 _ (Tr.zero_ (cb1312 :: b1205 :: b1102 :: b1042 :: b974 :: b904 :: b845 :: b811 :: b797 :: cb24 :: cb23 :: b8 :: []) _) h1634) ?_
          rintro _ w1635 ⟨T1636, s1637, rfl, hT1638, hS1639, g1640⟩
          have R1641 := R1621.gr g1640
          have R1642 := R1622.gr g1640
          have R1643 := R1623.gr g1640
          rw [s8]
          have hT1644 : Tr (cb1312 :: b1205 :: b1102 :: b1042 :: b974 :: b904 :: b845 :: b811 :: b797 :: cb24 :: cb23 :: b8 :: []) w1635 T1636 Trade.zero := by rw [s8] at hT1638; exact hT1638
          have hS1645 : Sl (cb1312 :: b1205 :: b1102 :: b1042 :: b974 :: b904 :: b845 :: b811 :: b797 :: cb24 :: cb23 :: b8 :: []) w1635 s1637 ([]) := by rw [s8] at hS1639; exact hS1639
          refine ⟨R1643, ?_⟩
          refine A.take (i := 5) rfl (by kernel_rfl) (by kernel_rfl) (by kernel_rfl) (fun _ _ _ h => h) R1643 rfl rfl (fun _ _ => (X.move (ev' (.tuple #[T1636.val, s1637.val, .bool false, .int .i64 480]) rfl rfl))) ?_
          refine A.take (i := 6) rfl (by kernel_rfl) (by kernel_rfl) (by kernel_rfl) (fun _ _ _ h => h) R1643 rfl rfl (fun _ _ => (X.extract (ev' (.tuple #[T1636.val, s1637.val, .bool false, .int .i64 480]) rfl rfl) rfl)) ?_
          refine A.take (i := 7) rfl (by kernel_rfl) (by kernel_rfl) (by kernel_rfl) (fun _ _ _ h => h) R1643 rfl rfl (fun _ _ => (X.extract (ev' (.tuple #[T1636.val, s1637.val, .bool false, .int .i64 480]) rfl rfl) rfl)) ?_
          refine A.take (i := 8) rfl (by kernel_rfl) (by kernel_rfl) (by kernel_rfl) (fun _ _ _ h => h) R1643 rfl rfl (fun _ _ => (X.extract (ev' (.tuple #[T1636.val, s1637.val, .bool false, .int .i64 480]) rfl rfl) rfl)) ?_
          refine A.take (i := 9) rfl (by kernel_rfl) (by kernel_rfl) (by kernel_rfl) (fun _ _ _ h => h) R1643 rfl rfl (fun _ _ => (X.extract (ev' (.tuple #[T1636.val, s1637.val, .bool false, .int .i64 480]) rfl rfl) rfl)) ?_
          refine A.one (i := 10) (by kernel_rfl) ?_
          refine E.eff (i := 10) rfl rfl rfl (Y.alloc (cs := TV.zero.arr) zero24 rfl) ?_
          rintro _ w1648 ⟨b1649, rfl, g1650, hB1651, lt1652⟩
          have h1653 := h1626.gr g1640
          have ne1654 := h1653.ne lt1652
          have h1656 := h1576.gr R1550
          have h1657 := h1656.gr g1620
          have h1658 := h1657.gr g1640
          have ne1659 := h1658.ne lt1652
          have h1661 := h1579.gr R1550
          have h1662 := h1661.gr g1620
          have h1663 := h1662.gr g1640
          have ne1664 := h1663.ne lt1652
          have h1666 := h1582.gr R1550
          have h1667 := h1666.gr g1620
          have h1668 := h1667.gr g1640
          have ne1669 := h1668.ne lt1652
          have h1671 := h1585.gr R1550
          have h1672 := h1671.gr g1620
          have h1673 := h1672.gr g1640
          have ne1674 := h1673.ne lt1652
          have h1676 := h1588.gr R1550
          have h1677 := h1676.gr g1620
          have h1678 := h1677.gr g1640
          have ne1679 := h1678.ne lt1652
          have h1681 := h1591.gr R1550
          have h1682 := h1681.gr g1620
          have h1683 := h1682.gr g1640
          have ne1684 := h1683.ne lt1652
          have h1686 := h1594.gr R1550
          have h1687 := h1686.gr g1620
          have h1688 := h1687.gr g1640
          have ne1689 := h1688.ne lt1652
          have h1691 := h1597.gr R1550
          have h1692 := h1691.gr g1620
          have h1693 := h1692.gr g1640
          have ne1694 := h1693.ne lt1652
          have h1696 := h1600.gr R1550
          have h1697 := h1696.gr g1620
          have h1698 := h1697.gr g1640
          have ne1699 := h1698.ne lt1652
          have h1701 := hB1258.gr R1550
          have h1702 := h1701.gr g1620
          have h1703 := h1702.gr g1640
          have ne1704 := h1703.ne lt1652
          have h1705 := hB1566.gr g1620
          have h1706 := h1705.gr g1640
          have ne1707 := h1706.ne lt1652
          have l1708 := Nat.le_trans R1641.size lt1652
          have l1709 := Nat.le_trans R1642.size lt1652
          have l1710 := Nat.le_trans R1643.size lt1652
          have R1711 := R1641.gr g1650
          have R1712 := R1642.gr g1650
          have R1713 := R1643.gr g1650
          refine ⟨R1713, ?_⟩
          refine A.one (i := 11) (by kernel_rfl) ?_
          refine E.eff0 (i := 11) rfl rfl rfl (Y.storeW (ds := T1636.arr) (ev' (.pointer (some ⟨b1649, 0, none⟩)) rfl rfl) (ev' (T1636.val) rfl rfl) hB1651 (n := 4) rfl sz24 rfl (TV.oneCell _) rfl) ?_
          rintro w1715 ⟨c1716, hB1717⟩
          have R1718 := R1711.stN c1716 l1708
          have R1719 := R1712.stN c1716 l1709
          have R1720 := R1713.stN c1716 l1710
          refine ⟨R1720, ?_⟩
          refine A.take (i := 12) rfl (by kernel_rfl) (by kernel_rfl) (by kernel_rfl) (fun _ _ _ h => h) R1720 rfl rfl (fun _ _ => (X.assign (ev' (s1637.val) rfl rfl))) ?_
          refine A.take (i := 13) rfl (by kernel_rfl) (by kernel_rfl) (by kernel_rfl) (fun _ _ _ h => h) R1720 rfl rfl (fun _ _ => (X.assign (ev' (.bool false) rfl rfl))) ?_
          refine A.take (i := 14) rfl (by kernel_rfl) (by kernel_rfl) (by kernel_rfl) (fun _ _ _ h => h) R1720 rfl rfl (fun _ _ => (X.assign (ev' (.int .i64 480) rfl rfl))) ?_
          refine A.done (by kernel_rfl) ?_
          have h1722 := h1627.gr g1640
          have h1723 := (h1722.ext lt1652).gr g1650
          have h1724 := h1723.st c1716 (.head _)
          have h1725 := hs1569.gr g1620
          have h1726 := h1725.gr g1640
          have h1727 := (h1726.ext lt1652).gr g1650
          have h1728 := h1727.st c1716 (.head _)
          have h1729 := hs1570.gr g1620
          have h1730 := h1729.gr g1640
          have h1731 := (h1730.ext lt1652).gr g1650
          have h1732 := h1731.st c1716 (.head _)
          exact then_n ⟨_, cs1313, cs1314, cs1315, rfl, R1719, s1552, s1553, s1554, s1555, s1556, s1557, s1558, s1559, s1560, s1561, s1562, s1563, s1564, s1565, rfl, Sl.sub h1724 (by intro c hc; simp only [List.mem_cons] at hc ⊢; grind), Sl.sub h1728 (by intro c hc; simp only [List.mem_cons] at hc ⊢; grind), Sl.sub h1732 (by intro c hc; simp only [List.mem_cons] at hc ⊢; grind)⟩
        · skip
          refine E.eff (i := 10) rfl rfl rfl (Y.alloc (cs := TV.zero.arr) zero24 rfl) ?_
          rintro _ w1733 ⟨b1734, rfl, g1735, hB1736, lt1737⟩
          have ne1738 := h1626.ne lt1737
          have h1740 := h1576.gr R1550
          have h1741 := h1740.gr g1620
          have ne1742 := h1741.ne lt1737
          have h1744 := h1579.gr R1550
          have h1745 := h1744.gr g1620
          have ne1746 := h1745.ne lt1737
          have h1748 := h1582.gr R1550
          have h1749 := h1748.gr g1620
          have ne1750 := h1749.ne lt1737
          have h1752 := h1585.gr R1550
          have h1753 := h1752.gr g1620
          have ne1754 := h1753.ne lt1737
          have h1756 := h1588.gr R1550
          have h1757 := h1756.gr g1620
          have ne1758 := h1757.ne lt1737
          have h1760 := h1591.gr R1550
          have h1761 := h1760.gr g1620
          have ne1762 := h1761.ne lt1737
          have h1764 := h1594.gr R1550
          have h1765 := h1764.gr g1620
          have ne1766 := h1765.ne lt1737
          have h1768 := h1597.gr R1550
          have h1769 := h1768.gr g1620
          have ne1770 := h1769.ne lt1737
          have h1772 := h1600.gr R1550
          have h1773 := h1772.gr g1620
          have ne1774 := h1773.ne lt1737
          have h1776 := hB1258.gr R1550
          have h1777 := h1776.gr g1620
          have ne1778 := h1777.ne lt1737
          have h1779 := hB1566.gr g1620
          have ne1780 := h1779.ne lt1737
          have l1781 := Nat.le_trans R1621.size lt1737
          have l1782 := Nat.le_trans R1622.size lt1737
          have l1783 := Nat.le_trans R1623.size lt1737
          have R1784 := R1621.gr g1735
          have R1785 := R1622.gr g1735
          have R1786 := R1623.gr g1735
          refine ⟨R1786, ?_⟩
          refine A.one (i := 4) (by kernel_rfl) ?_
          have h1788 := hl1610.gr g1620
          have h1789 := h1788.new g1735 hB1736.lt
          refine E.call (i := 4) rfl rfl rfl (X.callF go22 (args3 (ev' (TV.zero.val) rfl rfl) (ev' (.agg W1.arr) rfl rfl) (evc' (.int .i64 3)))) (ttake_c W1 3 _ (Tr.zero_ (b1734 :: cb1312 :: b1205 :: b1102 :: b1042 :: b974 :: b904 :: b845 :: b811 :: b797 :: cb24 :: cb23 :: b8 :: []) _) h1789) ?_
          rintro _ w1790 ⟨T1791, s1792, rfl, hT1793, hS1794, g1795⟩
          have R1796 := R1784.gr g1795
          have R1797 := R1785.gr g1795
          have R1798 := R1786.gr g1795
          rw [s8]
          have hT1799 : Tr (b1734 :: cb1312 :: b1205 :: b1102 :: b1042 :: b974 :: b904 :: b845 :: b811 :: b797 :: cb24 :: cb23 :: b8 :: []) w1790 T1791 Trade.zero := by rw [s8] at hT1793; exact hT1793
          have hS1800 : Sl (b1734 :: cb1312 :: b1205 :: b1102 :: b1042 :: b974 :: b904 :: b845 :: b811 :: b797 :: cb24 :: cb23 :: b8 :: []) w1790 s1792 ([]) := by rw [s8] at hS1794; exact hS1794
          refine ⟨R1798, ?_⟩
          refine A.take (i := 5) rfl (by kernel_rfl) (by kernel_rfl) (by kernel_rfl) (fun _ _ _ h => h) R1798 rfl rfl (fun _ _ => (X.move (ev' (.tuple #[T1791.val, s1792.val, .bool false, .int .i64 480]) rfl rfl))) ?_
          refine A.take (i := 6) rfl (by kernel_rfl) (by kernel_rfl) (by kernel_rfl) (fun _ _ _ h => h) R1798 rfl rfl (fun _ _ => (X.extract (ev' (.tuple #[T1791.val, s1792.val, .bool false, .int .i64 480]) rfl rfl) rfl)) ?_
          refine A.take (i := 7) rfl (by kernel_rfl) (by kernel_rfl) (by kernel_rfl) (fun _ _ _ h => h) R1798 rfl rfl (fun _ _ => (X.extract (ev' (.tuple #[T1791.val, s1792.val, .bool false, .int .i64 480]) rfl rfl) rfl)) ?_
          refine A.take (i := 8) rfl (by kernel_rfl) (by kernel_rfl) (by kernel_rfl) (fun _ _ _ h => h) R1798 rfl rfl (fun _ _ => (X.extract (ev' (.tuple #[T1791.val, s1792.val, .bool false, .int .i64 480]) rfl rfl) rfl)) ?_
          refine A.take (i := 9) rfl (by kernel_rfl) (by kernel_rfl) (by kernel_rfl) (fun _ _ _ h => h) R1798 rfl rfl (fun _ _ => (X.extract (ev' (.tuple #[T1791.val, s1792.val, .bool false, .int .i64 480]) rfl rfl) rfl)) ?_
          refine A.one (i := 11) (by kernel_rfl) ?_
          have h1803 := hB1736.gr g1795
          refine E.eff0 (i := 11) rfl rfl rfl (Y.storeW (ds := T1791.arr) (ev' (.pointer (some ⟨b1734, 0, none⟩)) rfl rfl) (ev' (T1791.val) rfl rfl) h1803 (n := 4) rfl sz24 rfl (TV.oneCell _) rfl) ?_
          rintro w1804 ⟨c1805, hB1806⟩
          have R1807 := R1796.stN c1805 l1781
          have R1808 := R1797.stN c1805 l1782
          have R1809 := R1798.stN c1805 l1783
          refine ⟨R1809, ?_⟩
          refine A.take (i := 12) rfl (by kernel_rfl) (by kernel_rfl) (by kernel_rfl) (fun _ _ _ h => h) R1809 rfl rfl (fun _ _ => (X.assign (ev' (s1792.val) rfl rfl))) ?_
          refine A.take (i := 13) rfl (by kernel_rfl) (by kernel_rfl) (by kernel_rfl) (fun _ _ _ h => h) R1809 rfl rfl (fun _ _ => (X.assign (ev' (.bool false) rfl rfl))) ?_
          refine A.take (i := 14) rfl (by kernel_rfl) (by kernel_rfl) (by kernel_rfl) (fun _ _ _ h => h) R1809 rfl rfl (fun _ _ => (X.assign (ev' (.int .i64 480) rfl rfl))) ?_
          refine A.done (by kernel_rfl) ?_
          have h1811 := (h1627.ext lt1737).gr g1735
          have h1812 := h1811.gr g1795
          have h1813 := h1812.st c1805 (.head _)
          have h1814 := hs1569.gr g1620
          have h1815 := (h1814.ext lt1737).gr g1735
          have h1816 := h1815.gr g1795
          have h1817 := h1816.st c1805 (.head _)
          have h1818 := hs1570.gr g1620
          have h1819 := (h1818.ext lt1737).gr g1735
          have h1820 := h1819.gr g1795
          have h1821 := h1820.st c1805 (.head _)
          exact then_n ⟨_, cs1313, cs1314, cs1315, rfl, R1808, s1552, s1553, s1554, s1555, s1556, s1557, s1558, s1559, s1560, s1561, s1562, s1563, s1564, s1565, rfl, Sl.sub h1813 (by intro c hc; simp only [List.mem_cons] at hc ⊢; grind), Sl.sub h1817 (by intro c hc; simp only [List.mem_cons] at hc ⊢; grind), Sl.sub h1821 (by intro c hc; simp only [List.mem_cons] at hc ⊢; grind)⟩
      · skip
        rintro _ w1822 ⟨r1824, cs1615, cs1616, cs1617, rfl, R1823, s1825, s1826, s1827, s1828, s1829, s1830, s1831, s1832, s1833, s1834, s1835, s1836, s1837, s1838, s1839, hs1840, hs1841, hs1842⟩
        have R1843 := R1607.gr R1823
        have hl1844 := hl1610.gr R1823
        refine then_n ?_
        refine W.seq ?_
        refine A.begin' (cs := []) rfl ?_
        intro w1849 g1850
        have R1851 := R1843.gr g1850
        have R1852 : Chg [] w1849 w1849 := Chg.of_refl _ _
        have h1854 := h1576.gr R1550
        have h1855 := h1854.gr R1823
        have h1856 := h1855.gr g1850
        refine A.take (i := 0) rfl (by kernel_rfl) (by kernel_rfl) (by kernel_rfl) (fun _ _ _ h => h) R1852 rfl rfl (fun _ hw => (X.loadR (ev' (.pointer (some ⟨cb23, 0, none⟩)) rfl s1826) rt24 (row_blk_trade (h1856.gr hw)) rfl)) ?_
        have h1857 := hB1566.gr R1823
        have h1858 := h1857.gr g1850
        refine A.take (i := 2) rfl (by kernel_rfl) (by kernel_rfl) (by kernel_rfl) (fun _ _ _ h => h) R1852 rfl rfl (fun _ hw => (X.loadR (ev' (.pointer (some ⟨cb1312, 0, none⟩)) rfl s1835) rt24 (row_blk_trade (h1858.gr hw)) rfl)) ?_
        refine A.one (i := 1) (by kernel_rfl) ?_
        have h1859 := (hT901.ext lt907).gr g905
        have h1860 := h1859.st c933 (.tail _ (.tail _ (.tail _ (.tail _ (.tail _ (.head _))))))
        have h1861 := h1860.st c939 (.head _)
        have h1862 := h1861.gr g967
        have h1863 := (h1862.ext lt977).gr g975
        have h1864 := h1863.st c1006 (.head _)
        have h1865 := h1864.gr g1035
        have h1866 := (h1865.ext lt1045).gr g1043
        have h1867 := h1866.st c1078 (.head _)
        have h1868 := (h1867.ext lt1105).gr g1103
        have h1869 := h1868.st c1133 (.head _)
        have h1870 := h1869.st c1156 (.head _)
        have h1871 := h1870.gr g1198
        have h1872 := (h1871.ext lt1208).gr g1206
        have h1873 := h1872.st c1257 (.head _)
        have h1874 := h1873.ext lt1571
        have h1875 := h1874.gr R1550
        have h1876 := h1875.gr R1823
        have h1877 := h1876.gr g1850
        have h1878 := hl1844.gr g1850
        refine E.call (i := 1) rfl rfl rfl (X.callF go19 (args2 (ev' (T897.val) rfl rfl) (evc' (.int .i64 3)))) (twaiting_c 3 _ h1877 h1878 (by decide)) ?_
        rintro _ w1879 ⟨s1880, rfl, hS1881, g1882⟩
        have R1883 := R1851.gr g1882
        have R1884 := R1852.gr g1882
        have hS1885 : Sl (cb1312 :: b1205 :: b1102 :: b1042 :: b974 :: b904 :: b845 :: b811 :: b797 :: cb24 :: cb23 :: b8 :: []) w1879 s1880 ([M1, N1]) := by rw [s9] at hS1881; exact hS1881
        refine ⟨R1884, ?_⟩
        refine A.one (i := 3) (by kernel_rfl) ?_
        have h1887 := hT1567.gr R1823
        have h1888 := h1887.gr g1850
        have h1889 := h1888.gr g1882
        have h1890 := h1878.gr g1882
        refine E.call (i := 3) rfl rfl rfl (X.callF go19 (args2 (ev' (cT1316.val) rfl rfl) (evc' (.int .i64 3)))) (twaiting_c 3 _ h1889 h1890 (by decide)) ?_
        rintro _ w1891 ⟨s1892, rfl, hS1893, g1894⟩
        have R1895 := R1883.gr g1894
        have R1896 := R1884.gr g1894
        have hS1897 : Sl (cb1312 :: b1205 :: b1102 :: b1042 :: b974 :: b904 :: b845 :: b811 :: b797 :: cb24 :: cb23 :: b8 :: []) w1891 s1892 ([N1]) := by rw [s10] at hS1893; exact hS1893
        refine ⟨R1896, ?_⟩
        refine A.take (i := 4) rfl (by kernel_rfl) (by kernel_rfl) (by kernel_rfl) (fun _ _ _ h => h) R1896 rfl rfl (fun _ _ => (X.assign (ev' (s1880.val) rfl rfl))) ?_
        refine A.take (i := 5) rfl (by kernel_rfl) (by kernel_rfl) (by kernel_rfl) (fun _ _ _ h => h) R1896 rfl rfl (fun _ _ => (X.assign (ev' (s1892.val) rfl rfl))) ?_
        refine A.done (by kernel_rfl) ?_
        refine then_n ?_
        refine W.fresh ?_
        intro r1899 er1900
        have s1901 : r1899 1 = .pointer (some ⟨b8, 0, none⟩) := (congrFun er1900 1).trans s1825
        have s1902 : r1899 2 = .pointer (some ⟨cb23, 0, none⟩) := (congrFun er1900 2).trans s1826
        have s1903 : r1899 3 = .pointer (some ⟨cb24, 0, none⟩) := (congrFun er1900 3).trans s1827
        have s1904 : r1899 9 = .pointer (some ⟨b904, 0, none⟩) := (congrFun er1900 9).trans s1828
        have s1905 : r1899 11 = .pointer (some ⟨b974, 0, none⟩) := (congrFun er1900 11).trans s1829
        have s1906 : r1899 12 = cs1615.val := (congrFun er1900 12).trans s1830
        have s1907 : r1899 13 = .bool true := (congrFun er1900 13).trans s1831
        have s1908 : r1899 15 = .pointer (some ⟨b1042, 0, none⟩) := (congrFun er1900 15).trans s1832
        have s1909 : r1899 16 = cs1616.val := (congrFun er1900 16).trans s1833
        have s1910 : r1899 17 = .bool false := (congrFun er1900 17).trans s1834
        have s1911 : r1899 24 = .pointer (some ⟨cb1312, 0, none⟩) := (congrFun er1900 24).trans s1835
        have s1912 : r1899 25 = cs1617.val := (congrFun er1900 25).trans s1836
        have s1913 : r1899 26 = .bool true := (congrFun er1900 26).trans s1837
        have s1914 : r1899 27 = .int .i64 0 := (congrFun er1900 27).trans s1838
        have s1915 : r1899 31 = .int .i64 480 := (congrFun er1900 31).trans s1839
        have s1916 : r1899 32 = s1880.val := (congrFun er1900 32).trans rfl
        have s1917 : r1899 33 = s1892.val := (congrFun er1900 33).trans rfl
        clear er1900
        refine W.seq ?_
        refine W.seq ?_
        refine W.reg ?_
        refine W.val rfl rfl (X.move (ev' (.int .i64 0) rfl s1914)) ?_
        refine W.val rfl rfl (eqv (X.neq (ev' (.int .i64 0) rfl rfl) (evc' (.int .i64 0))) (show ((0 : Int) != (0 : Int)) = false from by decide)) ?_
        refine W.val rfl rfl (X.move (ev' (.bool false) rfl rfl)) ?_
        refine W.valL rfl rfl rfl rfl rfl rfl (X.move (ev' (.int .i64 480) rfl s1915)) ?_
        refine W.valL rfl rfl rfl rfl rfl rfl (eqv (X.neq (ev' (.int .i64 480) rfl rfl) (evc' (.int .i64 480))) (show ((480 : Int) != (480 : Int)) = false from by decide)) ?_
        refine W.val rfl rfl (X.or (ev' (.bool false) rfl rfl) (ev' (gv (false == false) (.bool false)) rfl rfl)) ?_
        refine W.val rfl rfl (X.move (ev' (.bool false) rfl rfl)) ?_
        refine W.valL rfl rfl rfl rfl rfl rfl (X.move (ev' (s1880.val) rfl s1916)) ?_
        have h1918 := hS1885.gr g1894
        refine W.valL rfl rfl rfl rfl rfl rfl (eqvI (X.len (ev' (s1880.val) rfl rfl) st22) (congrArg (fun n : Nat => (n : Int)) h1918.len)) ?_
        refine W.valL rfl rfl rfl rfl rfl rfl (eqv (X.neq (ev' (.int .i64 2) rfl rfl) (evc' (.int .i64 2))) (show ((2 : Int) != (2 : Int)) = false from by decide)) ?_
        refine W.val rfl rfl (X.or (ev' (.bool false) rfl rfl) (ev' (gv (false == false) (.bool false)) rfl rfl)) ?_
        refine W.val rfl rfl (X.move (ev' (.bool false) rfl rfl)) ?_
        refine W.valL rfl rfl rfl rfl rfl rfl (X.move (ev' (s1892.val) rfl s1917)) ?_
        refine W.valL rfl rfl rfl rfl rfl rfl (eqvI (X.len (ev' (s1892.val) rfl rfl) st22) (congrArg (fun n : Nat => (n : Int)) hS1897.len)) ?_
        refine W.valL rfl rfl rfl rfl rfl rfl (eqv (X.neq (ev' (.int .i64 1) rfl rfl) (evc' (.int .i64 1))) (show ((1 : Int) != (1 : Int)) = false from by decide)) ?_
        refine W.val rfl rfl (X.or (ev' (.bool false) rfl rfl) (ev' (gv (false == false) (.bool false)) rfl rfl)) ?_
        refine W.val rfl rfl (X.move (ev' (.bool false) rfl rfl)) ?_
        refine W.valL rfl rfl rfl rfl rfl rfl (X.move (ev' (cs1617.val) rfl s1912)) ?_
        have h1919 := hs1842.gr g1850
        have h1920 := h1919.gr g1882
        have h1921 := h1920.gr g1894
        refine W.valL rfl rfl rfl rfl rfl rfl (eqvI (X.len (ev' (cs1617.val) rfl rfl) st22) (congrArg (fun n : Nat => (n : Int)) h1921.len)) ?_
        refine W.valL rfl rfl rfl rfl rfl rfl (eqv (X.neq (ev' (.int .i64 0) rfl rfl) (evc' (.int .i64 0))) (show ((0 : Int) != (0 : Int)) = false from by decide)) ?_
        refine W.val rfl rfl (X.or (ev' (.bool false) rfl rfl) (ev' (gv (false == false) (.bool false)) rfl rfl)) ?_
        refine W.nil ?_
        refine then_n ?_
        refine W.fresh ?_
        intro r1922 er1923
        have s1924 : r1922 1 = .pointer (some ⟨b8, 0, none⟩) := (congrFun er1923 1).trans s1901
        have s1925 : r1922 2 = .pointer (some ⟨cb23, 0, none⟩) := (congrFun er1923 2).trans s1902
        have s1926 : r1922 3 = .pointer (some ⟨cb24, 0, none⟩) := (congrFun er1923 3).trans s1903
        have s1927 : r1922 9 = .pointer (some ⟨b904, 0, none⟩) := (congrFun er1923 9).trans s1904
        have s1928 : r1922 11 = .pointer (some ⟨b974, 0, none⟩) := (congrFun er1923 11).trans s1905
        have s1929 : r1922 12 = cs1615.val := (congrFun er1923 12).trans s1906
        have s1930 : r1922 13 = .bool true := (congrFun er1923 13).trans s1907
        have s1931 : r1922 15 = .pointer (some ⟨b1042, 0, none⟩) := (congrFun er1923 15).trans s1908
        have s1932 : r1922 16 = cs1616.val := (congrFun er1923 16).trans s1909
        have s1933 : r1922 17 = .bool false := (congrFun er1923 17).trans s1910
        have s1934 : r1922 24 = .pointer (some ⟨cb1312, 0, none⟩) := (congrFun er1923 24).trans s1911
        have s1935 : r1922 26 = .bool true := (congrFun er1923 26).trans s1913
        have s1936 : r1922 33 = s1892.val := (congrFun er1923 33).trans s1917
        have s1937 : r1922 160 = .bool false := (congrFun er1923 160).trans rfl
        clear er1923
        refine W.condF rfl s1937 ?_
        refine W.skip ?_
        refine then_n ?_
        refine W.seq ?_
        refine W.reg ?_
        refine W.val rfl rfl (X.build30 (m := confM) (qs := #[(0, .int .i64 2), (1, .int .i64 4), (2, .int .i64 3), (4, .int .i64 2), (5, .int .i64 5), (6, .int .i64 9)]) (by simp [evc]) (fun w => by kernel_rfl)) ?_
        refine W.eff rfl rfl (Y.alloc (cs := Msg.zero.arr) zero30 rfl) ?_
        rintro _ w1939 ⟨b1940, rfl, g1941, hB1942, lt1943⟩
        have h1945 := h1573.gr R1550
        have h1946 := h1945.gr R1823
        have h1947 := h1946.gr g1850
        have h1948 := h1947.gr g1882
        have h1949 := h1948.gr g1894
        have ne1950 := h1949.ne lt1943
        have h1951 := h1856.gr g1882
        have h1952 := h1951.gr g1894
        have ne1953 := h1952.ne lt1943
        have h1955 := h1579.gr R1550
        have h1956 := h1955.gr R1823
        have h1957 := h1956.gr g1850
        have h1958 := h1957.gr g1882
        have h1959 := h1958.gr g1894
        have ne1960 := h1959.ne lt1943
        have h1962 := h1582.gr R1550
        have h1963 := h1962.gr R1823
        have h1964 := h1963.gr g1850
        have h1965 := h1964.gr g1882
        have h1966 := h1965.gr g1894
        have ne1967 := h1966.ne lt1943
        have h1969 := h1585.gr R1550
        have h1970 := h1969.gr R1823
        have h1971 := h1970.gr g1850
        have h1972 := h1971.gr g1882
        have h1973 := h1972.gr g1894
        have ne1974 := h1973.ne lt1943
        have h1976 := h1588.gr R1550
        have h1977 := h1976.gr R1823
        have h1978 := h1977.gr g1850
        have h1979 := h1978.gr g1882
        have h1980 := h1979.gr g1894
        have ne1981 := h1980.ne lt1943
        have h1983 := h1591.gr R1550
        have h1984 := h1983.gr R1823
        have h1985 := h1984.gr g1850
        have h1986 := h1985.gr g1882
        have h1987 := h1986.gr g1894
        have ne1988 := h1987.ne lt1943
        have h1990 := h1594.gr R1550
        have h1991 := h1990.gr R1823
        have h1992 := h1991.gr g1850
        have h1993 := h1992.gr g1882
        have h1994 := h1993.gr g1894
        have ne1995 := h1994.ne lt1943
        have h1997 := h1597.gr R1550
        have h1998 := h1997.gr R1823
        have h1999 := h1998.gr g1850
        have h2000 := h1999.gr g1882
        have h2001 := h2000.gr g1894
        have ne2002 := h2001.ne lt1943
        have h2004 := h1600.gr R1550
        have h2005 := h2004.gr R1823
        have h2006 := h2005.gr g1850
        have h2007 := h2006.gr g1882
        have h2008 := h2007.gr g1894
        have ne2009 := h2008.ne lt1943
        have h2011 := hB1258.gr R1550
        have h2012 := h2011.gr R1823
        have h2013 := h2012.gr g1850
        have h2014 := h2013.gr g1882
        have h2015 := h2014.gr g1894
        have ne2016 := h2015.ne lt1943
        have h2017 := h1858.gr g1882
        have h2018 := h2017.gr g1894
        have ne2019 := h2018.ne lt1943
        have l2020 := Nat.le_trans R1895.size lt1943
        have R2021 := R1895.gr g1941
        refine W.eff0 rfl rfl (Y.storeW (ds := confM.arr) (ev' (.pointer (some ⟨b1940, 0, none⟩)) rfl rfl) (ev' (.agg confM.arr) rfl rfl) hB1942 (Msg.size_arr _) sz30 (Msg.size_arr _) (Msg.oneCellA _) rfl) ?_
        rintro w2023 ⟨c2024, hB2025⟩
        have R2026 := R2021.stN c2024 l2020
        refine W.nil ?_
        refine then_n ?_
        refine W.fresh ?_
        intro r2028 er2029
        have s2030 : r2028 1 = .pointer (some ⟨b8, 0, none⟩) := (congrFun er2029 1).trans s1924
        have s2031 : r2028 2 = .pointer (some ⟨cb23, 0, none⟩) := (congrFun er2029 2).trans s1925
        have s2032 : r2028 3 = .pointer (some ⟨cb24, 0, none⟩) := (congrFun er2029 3).trans s1926
        have s2033 : r2028 9 = .pointer (some ⟨b904, 0, none⟩) := (congrFun er2029 9).trans s1927
        have s2034 : r2028 11 = .pointer (some ⟨b974, 0, none⟩) := (congrFun er2029 11).trans s1928
        have s2035 : r2028 12 = cs1615.val := (congrFun er2029 12).trans s1929
        have s2036 : r2028 13 = .bool true := (congrFun er2029 13).trans s1930
        have s2037 : r2028 15 = .pointer (some ⟨b1042, 0, none⟩) := (congrFun er2029 15).trans s1931
        have s2038 : r2028 16 = cs1616.val := (congrFun er2029 16).trans s1932
        have s2039 : r2028 17 = .bool false := (congrFun er2029 17).trans s1933
        have s2040 : r2028 24 = .pointer (some ⟨cb1312, 0, none⟩) := (congrFun er2029 24).trans s1934
        have s2041 : r2028 26 = .bool true := (congrFun er2029 26).trans s1935
        have s2042 : r2028 33 = s1892.val := (congrFun er2029 33).trans s1936
        have s2043 : r2028 34 = .pointer (some ⟨b1940, 0, none⟩) := (congrFun er2029 34).trans rfl
        clear er2029
        refine W.seq ?_
        refine A.begin' (cs := []) rfl ?_
        intro w2044 g2045
        have R2046 := R2026.gr g2045
        have R2047 : Chg [] w2044 w2044 := Chg.of_refl _ _
        refine A.take (i := 0) rfl (by kernel_rfl) (by kernel_rfl) (by kernel_rfl) (fun _ _ _ h => h) R2047 rfl rfl (fun _ _ => (X.fieldAddr (ev' (.pointer (some ⟨cb24, 0, none⟩)) rfl s2032) fo30_3 (b := ⟨cb24, 3, none⟩) (Addr.add_lit _ _ _))) ?_
        have h2048 := h1959.gr g1941
        have h2049 := h2048.st c2024 ne1960
        have h2050 := h2049.gr g2045
        refine A.take (i := 1) rfl (by kernel_rfl) (by kernel_rfl) (by kernel_rfl) (fun _ _ _ h => h) R2047 rfl rfl (fun _ hw => (X.load (ev' (.pointer (some ⟨cb24, 3, none⟩)) rfl rfl) pt3 (Blk.lc (h2050.gr hw) (Msg.arr3 _)))) ?_
        refine A.take (i := 2) rfl (by kernel_rfl) (by kernel_rfl) (by kernel_rfl) (fun _ _ _ h => h) R2047 rfl rfl (fun _ _ => (eqv (X.eql (ev' (.int .i64 M1.no) rfl rfl) (evc' (.int .i64 0))) (show ((M1.no : Int) == (0 : Int)) = true from by decide))) ?_
        refine A.take (i := 3) rfl (by kernel_rfl) (by kernel_rfl) (by kernel_rfl) (fun _ _ _ h => h) R2047 rfl rfl (fun _ _ => (X.move (ev' (.bool true) rfl rfl))) ?_
        refine A.takeL (i := 4) rfl (by kernel_rfl) (by kernel_rfl) (by kernel_rfl) (fun _ _ _ _ h => h) R2047 rfl rfl rfl rfl rfl rfl (fun _ _ => (X.fieldAddr (ev' (.pointer (some ⟨b904, 0, none⟩)) rfl s2033) fo30_3 (b := ⟨b904, 3, none⟩) (Addr.add_lit _ _ _))) ?_
        have h2051 := h1987.gr g1941
        have h2052 := h2051.st c2024 ne1988
        have h2053 := h2052.gr g2045
        refine A.takeL (i := 5) rfl (by kernel_rfl) (by kernel_rfl) (by kernel_rfl) (fun _ _ _ _ h => h) R2047 rfl rfl rfl rfl rfl rfl (fun _ hw => (X.load (ev' (.pointer (some ⟨b904, 3, none⟩)) rfl rfl) pt3 (Blk.lc (h2053.gr hw) (Msg.arr3 _)))) ?_
        refine A.takeL (i := 6) rfl (by kernel_rfl) (by kernel_rfl) (by kernel_rfl) (fun _ _ _ _ h => h) R2047 rfl rfl rfl rfl rfl rfl (fun _ _ => (eqv (X.eql (ev' (.int .i64 N1.no) rfl rfl) (evc' (.int .i64 1))) (show ((N1.no : Int) == (1 : Int)) = true from by decide))) ?_
        refine A.take (i := 7) rfl (by kernel_rfl) (by kernel_rfl) (by kernel_rfl) (fun _ _ _ h => h) R2047 rfl rfl (fun _ _ => (X.and (ev' (.bool true) rfl rfl) (ev' (gv (true == true) (.bool true)) rfl rfl))) ?_
        refine A.take (i := 8) rfl (by kernel_rfl) (by kernel_rfl) (by kernel_rfl) (fun _ _ _ h => h) R2047 rfl rfl (fun _ _ => (X.move (ev' (.bool true) rfl rfl))) ?_
        refine A.takeL (i := 9) rfl (by kernel_rfl) (by kernel_rfl) (by kernel_rfl) (fun _ _ _ _ h => h) R2047 rfl rfl rfl rfl rfl rfl (fun _ _ => (X.fieldAddr (ev' (.pointer (some ⟨b904, 0, none⟩)) rfl s2033) fo30_7 (b := ⟨b904, 7, none⟩) (Addr.add_lit _ _ _))) ?_
        refine A.takeL (i := 10) rfl (by kernel_rfl) (by kernel_rfl) (by kernel_rfl) (fun _ _ _ _ h => h) R2047 rfl rfl rfl rfl rfl rfl (fun _ hw => (X.load (ev' (.pointer (some ⟨b904, 7, none⟩)) rfl rfl) pt3 (Blk.lc (h2053.gr hw) (Msg.arr7 _)))) ?_
        refine A.takeL (i := 11) rfl (by kernel_rfl) (by kernel_rfl) (by kernel_rfl) (fun _ _ _ _ h => h) R2047 rfl rfl rfl rfl rfl rfl (fun _ _ => (eqv (X.eql (ev' (.int .i64 N1.label) rfl rfl) (evc' (.int .i64 8))) (show ((N1.label : Int) == (8 : Int)) = true from by decide))) ?_
        refine A.take (i := 12) rfl (by kernel_rfl) (by kernel_rfl) (by kernel_rfl) (fun _ _ _ h => h) R2047 rfl rfl (fun _ _ => (X.and (ev' (.bool true) rfl rfl) (ev' (gv (true == true) (.bool true)) rfl rfl))) ?_
        refine A.take (i := 13) rfl (by kernel_rfl) (by kernel_rfl) (by kernel_rfl) (fun _ _ _ h => h) R2047 rfl rfl (fun _ _ => (X.move (ev' (.bool true) rfl rfl))) ?_
        refine A.takeL (i := 14) rfl (by kernel_rfl) (by kernel_rfl) (by kernel_rfl) (fun _ _ _ _ h => h) R2047 rfl rfl rfl rfl rfl rfl (fun _ _ => (X.fieldAddr (ev' (.pointer (some ⟨cb23, 0, none⟩)) rfl s2031) fo24_0 (b := ⟨cb23, 0, none⟩) (Addr.add_lit _ _ _))) ?_
        have h2054 := h1952.gr g1941
        have h2055 := h2054.st c2024 ne1953
        have h2056 := h2055.gr g2045
        refine A.takeL (i := 15) rfl (by kernel_rfl) (by kernel_rfl) (by kernel_rfl) (fun _ _ _ _ h => h) R2047 rfl rfl rfl rfl rfl rfl (fun _ hw => (X.load (ev' (.pointer (some ⟨cb23, 0, none⟩)) rfl rfl) pt3 (Blk.lc (h2056.gr hw) rfl))) ?_
        have h2057 := h1877.gr g1882
        have h2058 := h2057.gr g1894
        have h2059 := (h2058.ext lt1943).gr g1941
        have h2060 := h2059.st c2024 (.head _)
        have h2061 := h2060.gr g2045
        refine A.takeL (i := 16) rfl (by kernel_rfl) (by kernel_rfl) (by kernel_rfl) (fun _ _ _ _ h => h) R2047 rfl rfl rfl rfl rfl rfl (fun _ _ => (eqv (X.eql (ev' (.int .i64 T897.next) rfl rfl) (evc' (.int .i64 2))) (show ((T897.next : Int) == (2 : Int)) = true from by rw [h2061.next]; decide))) ?_
        refine A.take (i := 17) rfl (by kernel_rfl) (by kernel_rfl) (by kernel_rfl) (fun _ _ _ h => h) R2047 rfl rfl (fun _ _ => (X.and (ev' (.bool true) rfl rfl) (ev' (gv (true == true) (.bool true)) rfl rfl))) ?_
        refine A.take (i := 18) rfl (by kernel_rfl) (by kernel_rfl) (by kernel_rfl) (fun _ _ _ h => h) R2047 rfl rfl (fun _ _ => (X.move (ev' (.bool true) rfl rfl))) ?_
        refine A.takeL (i := 19) rfl (by kernel_rfl) (by kernel_rfl) (by kernel_rfl) (fun _ _ _ _ h => h) R2047 rfl rfl rfl rfl rfl rfl (fun _ _ => (X.move (ev' (cs1615.val) rfl s2035))) ?_
        have h2062 := hs1840.gr g1850
        have h2063 := h2062.gr g1882
        have h2064 := h2063.gr g1894
        have h2065 := (h2064.ext lt1943).gr g1941
        have h2066 := h2065.st c2024 (.head _)
        have h2067 := h2066.gr g2045
        obtain ⟨eb2068, eo2069, ha2070, lt2071, hr2072⟩ := Sl.rowAt h2067 (show [W1][0]? = some W1 from rfl)
        refine A.takeL (i := 20) rfl (by kernel_rfl) (by kernel_rfl) (by kernel_rfl) (fun _ _ _ _ h => h) R2047 rfl rfl rfl rfl rfl rfl (fun _ _ => (X.idx (b := ⟨eb2068, eo2069 + 0 * 43, none⟩) (evs ha2070 (ev' (cs1615.val) rfl rfl)) (evc' (.int .i64 0)) (Int.le_refl 0) (idx_lt (Int.le_refl 0) lt2071) st22 sz30 (Addr.add_lit _ _ _))) ?_
        refine A.takeL (i := 21) rfl (by kernel_rfl) (by kernel_rfl) (by kernel_rfl) (fun _ _ _ _ h => h) R2047 rfl rfl rfl rfl rfl rfl (fun _ hw => (X.loadR (ev' (.pointer (some ⟨eb2068, eo2069 + 0 * 43, none⟩)) rfl rfl) rt30 (hr2072.gr hw).r rfl)) ?_
        have h2074 := hB2025.gr g2045
        refine A.takeL (i := 22) rfl (by kernel_rfl) (by kernel_rfl) (by kernel_rfl) (fun _ _ _ _ h => h) R2047 rfl rfl rfl rfl rfl rfl (fun _ hw => (X.loadR (ev' (.pointer (some ⟨b1940, 0, none⟩)) rfl s2043) rt30 (row_blk_msg (h2074.gr hw)) rfl)) ?_
        refine A.one (i := 23) (by kernel_rfl) ?_
        refine E.callL (i := 23) rfl rfl rfl rfl rfl rfl rfl (X.callF go15 (args2 (ev' (.agg W1.arr) rfl rfl) (ev' (.agg confM.arr) rfl rfl))) (same_c W1 confM _) ?_
        rintro _ w2075 ⟨rfl, g2076⟩
        have R2077 := R2046.gr g2076
        have R2078 := R2047.gr g2076
        refine ⟨R2078, ?_⟩
        refine A.take (i := 24) rfl (by kernel_rfl) (by kernel_rfl) (by kernel_rfl) (fun _ _ _ h => h) R2078 rfl rfl (fun _ _ => (eqv (X.and (ev' (.bool true) rfl rfl) (ev' (gv (true == true) (.bool (same W1 confM))) rfl rfl)) (show (same W1 confM) = true from s12))) ?_
        refine A.take (i := 25) rfl (by kernel_rfl) (by kernel_rfl) (by kernel_rfl) (fun _ _ _ h => h) R2078 rfl rfl (fun _ _ => (X.move (ev' (.bool true) rfl rfl))) ?_
        refine A.takeL (i := 26) rfl (by kernel_rfl) (by kernel_rfl) (by kernel_rfl) (fun _ _ _ _ h => h) R2078 rfl rfl rfl rfl rfl rfl (fun _ _ => (X.move (ev' (cs1616.val) rfl s2038))) ?_
        have h2079 := hs1841.gr g1850
        have h2080 := h2079.gr g1882
        have h2081 := h2080.gr g1894
        have h2082 := (h2081.ext lt1943).gr g1941
        have h2083 := h2082.st c2024 (.head _)
        have h2084 := h2083.gr g2045
        obtain ⟨eb2085, eo2086, ha2087, lt2088, hr2089⟩ := Sl.rowAt h2084 (show [W1][0]? = some W1 from rfl)
        refine A.takeL (i := 27) rfl (by kernel_rfl) (by kernel_rfl) (by kernel_rfl) (fun _ _ _ _ h => h) R2078 rfl rfl rfl rfl rfl rfl (fun _ _ => (X.idx (b := ⟨eb2085, eo2086 + 0 * 43, none⟩) (evs ha2087 (ev' (cs1616.val) rfl rfl)) (evc' (.int .i64 0)) (Int.le_refl 0) (idx_lt (Int.le_refl 0) lt2088) st22 sz30 (Addr.add_lit _ _ _))) ?_
        refine A.takeL (i := 28) rfl (by kernel_rfl) (by kernel_rfl) (by kernel_rfl) (fun _ _ _ _ h => h) R2078 rfl rfl rfl rfl rfl rfl (fun _ hw => (X.loadR (ev' (.pointer (some ⟨eb2085, eo2086 + 0 * 43, none⟩)) rfl rfl) rt30 (hr2089.gr hw).r rfl)) ?_
        refine A.takeL (i := 29) rfl (by kernel_rfl) (by kernel_rfl) (by kernel_rfl) (fun _ _ _ _ h => h) R2078 rfl rfl rfl rfl rfl rfl (fun _ hw => (X.loadR (ev' (.pointer (some ⟨b1940, 0, none⟩)) rfl s2043) rt30 (row_blk_msg (h2074.gr hw)) rfl)) ?_
        refine A.one (i := 30) (by kernel_rfl) ?_
        refine E.callL (i := 30) rfl rfl rfl rfl rfl rfl rfl (X.callF go15 (args2 (ev' (.agg W1.arr) rfl rfl) (ev' (.agg confM.arr) rfl rfl))) (same_c W1 confM _) ?_
        rintro _ w2091 ⟨rfl, g2092⟩
        have R2093 := R2077.gr g2092
        have R2094 := R2078.gr g2092
        refine ⟨R2094, ?_⟩
        refine A.take (i := 31) rfl (by kernel_rfl) (by kernel_rfl) (by kernel_rfl) (fun _ _ _ h => h) R2094 rfl rfl (fun _ _ => (eqv (X.and (ev' (.bool true) rfl rfl) (ev' (gv (true == true) (.bool (same W1 confM))) rfl rfl)) (show (same W1 confM) = true from s12))) ?_
        refine A.take (i := 32) rfl (by kernel_rfl) (by kernel_rfl) (by kernel_rfl) (fun _ _ _ h => h) R2094 rfl rfl (fun _ _ => (X.move (ev' (.bool true) rfl rfl))) ?_
        refine A.takeL (i := 33) rfl (by kernel_rfl) (by kernel_rfl) (by kernel_rfl) (fun _ _ _ _ h => h) R2094 rfl rfl rfl rfl rfl rfl (fun _ _ => (X.move (ev' (.bool true) rfl s2036))) ?_
        refine A.take (i := 34) rfl (by kernel_rfl) (by kernel_rfl) (by kernel_rfl) (fun _ _ _ h => h) R2094 rfl rfl (fun _ _ => (X.and (ev' (.bool true) rfl rfl) (ev' (gv (true == true) (.bool true)) rfl rfl))) ?_
        refine A.take (i := 35) rfl (by kernel_rfl) (by kernel_rfl) (by kernel_rfl) (fun _ _ _ h => h) R2094 rfl rfl (fun _ _ => (X.move (ev' (.bool true) rfl rfl))) ?_
        refine A.takeL (i := 36) rfl (by kernel_rfl) (by kernel_rfl) (by kernel_rfl) (fun _ _ _ _ h => h) R2094 rfl rfl rfl rfl rfl rfl (fun _ _ => (X.move (ev' (.bool false) rfl s2039))) ?_
        refine A.takeL (i := 37) rfl (by kernel_rfl) (by kernel_rfl) (by kernel_rfl) (fun _ _ _ _ h => h) R2094 rfl rfl rfl rfl rfl rfl (fun _ _ => (X.not (ev' (.bool false) rfl rfl))) ?_
        refine A.take (i := 38) rfl (by kernel_rfl) (by kernel_rfl) (by kernel_rfl) (fun _ _ _ h => h) R2094 rfl rfl (fun _ _ => (X.and (ev' (.bool true) rfl rfl) (ev' (gv (true == true) (.bool true)) rfl rfl))) ?_
        refine A.take (i := 39) rfl (by kernel_rfl) (by kernel_rfl) (by kernel_rfl) (fun _ _ _ h => h) R2094 rfl rfl (fun _ _ => (X.move (ev' (.bool true) rfl rfl))) ?_
        refine A.takeL (i := 40) rfl (by kernel_rfl) (by kernel_rfl) (by kernel_rfl) (fun _ _ _ _ h => h) R2094 rfl rfl rfl rfl rfl rfl (fun _ _ => (X.move (ev' (.bool true) rfl s2041))) ?_
        refine A.take (i := 41) rfl (by kernel_rfl) (by kernel_rfl) (by kernel_rfl) (fun _ _ _ h => h) R2094 rfl rfl (fun _ _ => (X.and (ev' (.bool true) rfl rfl) (ev' (gv (true == true) (.bool true)) rfl rfl))) ?_
        refine A.take (i := 42) rfl (by kernel_rfl) (by kernel_rfl) (by kernel_rfl) (fun _ _ _ h => h) R2094 rfl rfl (fun _ _ => (X.move (ev' (.bool true) rfl rfl))) ?_
        have h2095 := h1994.gr g1941
        have h2096 := h2095.st c2024 ne1995
        have h2097 := h2096.gr g2045
        refine A.takeL (i := 43) rfl (by kernel_rfl) (by kernel_rfl) (by kernel_rfl) (fun _ _ _ _ h => h) R2094 rfl rfl rfl rfl rfl rfl (fun _ hw => (X.loadR (ev' (.pointer (some ⟨b974, 0, none⟩)) rfl s2034) rt24 (row_blk_trade (h2097.gr hw)) rfl)) ?_
        have h2098 := h2001.gr g1941
        have h2099 := h2098.st c2024 ne2002
        have h2100 := h2099.gr g2045
        refine A.takeL (i := 44) rfl (by kernel_rfl) (by kernel_rfl) (by kernel_rfl) (fun _ _ _ _ h => h) R2094 rfl rfl rfl rfl rfl rfl (fun _ hw => (X.loadR (ev' (.pointer (some ⟨b1042, 0, none⟩)) rfl s2037) rt24 (row_blk_trade (h2100.gr hw)) rfl)) ?_
        refine A.one (i := 45) (by kernel_rfl) ?_
        have h2101 := h1186.gr g1198
        have h2102 := (h2101.ext lt1208).gr g1206
        have h2103 := h2102.st c1257 (.head _)
        have h2104 := h2103.ext lt1571
        have h2105 := h2104.gr R1550
        have h2106 := h2105.gr R1823
        have h2107 := h2106.gr g1850
        have h2108 := h2107.gr g1882
        have h2109 := h2108.gr g1894
        have h2110 := (h2109.ext lt1943).gr g1941
        have h2111 := h2110.st c2024 (.head _)
        have h2112 := h2111.gr g2045
        have h2113 := h2112.gr g2076
        have h2114 := h2113.gr g2092
        have h2115 := (hT1037.ext lt1045).gr g1043
        have h2116 := h2115.st c1078 (.head _)
        have h2117 := (h2116.ext lt1105).gr g1103
        have h2118 := h2117.st c1133 (.head _)
        have h2119 := h2118.st c1156 (.head _)
        have h2120 := h2119.gr g1198
        have h2121 := (h2120.ext lt1208).gr g1206
        have h2122 := h2121.st c1257 (.head _)
        have h2123 := h2122.ext lt1571
        have h2124 := h2123.gr R1550
        have h2125 := h2124.gr R1823
        have h2126 := h2125.gr g1850
        have h2127 := h2126.gr g1882
        have h2128 := h2127.gr g1894
        have h2129 := (h2128.ext lt1943).gr g1941
        have h2130 := h2129.st c2024 (.head _)
        have h2131 := h2130.gr g2045
        have h2132 := h2131.gr g2076
        have h2133 := h2132.gr g2092
        refine E.callL (i := 45) rfl rfl rfl rfl rfl rfl rfl (X.callF go14 (args2 (ev' (T963.val) rfl rfl) (ev' (T1031.val) rfl rfl))) (sameT_c _ h2114 h2133) ?_
        rintro _ w2134 ⟨rfl, g2135⟩
        have R2136 := R2093.gr g2135
        have R2137 := R2094.gr g2135
        refine ⟨R2137, ?_⟩
        refine A.take (i := 46) rfl (by kernel_rfl) (by kernel_rfl) (by kernel_rfl) (fun _ _ _ h => h) R2137 rfl rfl (fun _ _ => (eqv (X.and (ev' (.bool true) rfl rfl) (ev' (gv (true == true) (.bool (sameT B1 B1))) rfl rfl)) (show (sameT B1 B1) = true from sameT_refl _))) ?_
        refine A.take (i := 47) rfl (by kernel_rfl) (by kernel_rfl) (by kernel_rfl) (fun _ _ _ h => h) R2137 rfl rfl (fun _ _ => (X.move (ev' (.bool true) rfl rfl))) ?_
        refine A.takeL (i := 48) rfl (by kernel_rfl) (by kernel_rfl) (by kernel_rfl) (fun _ _ _ _ h => h) R2137 rfl rfl rfl rfl rfl rfl (fun _ _ => (X.move (ev' (s1892.val) rfl s2042))) ?_
        have h2138 := (hS1897.ext lt1943).gr g1941
        have h2139 := h2138.st c2024 (.head _)
        have h2140 := h2139.gr g2045
        obtain ⟨eb2141, eo2142, ha2143, lt2144, hr2145⟩ := Sl.rowAt h2140 (show [N1][0]? = some N1 from rfl)
        refine A.takeL (i := 49) rfl (by kernel_rfl) (by kernel_rfl) (by kernel_rfl) (fun _ _ _ _ h => h) R2137 rfl rfl rfl rfl rfl rfl (fun _ _ => (X.idx (b := ⟨eb2141, eo2142 + 0 * 43, none⟩) (evs ha2143 (ev' (s1892.val) rfl rfl)) (evc' (.int .i64 0)) (Int.le_refl 0) (idx_lt (Int.le_refl 0) lt2144) st22 sz30 (Addr.add_lit _ _ _))) ?_
        refine A.takeL (i := 50) rfl (by kernel_rfl) (by kernel_rfl) (by kernel_rfl) (fun _ _ _ _ h => h) R2137 rfl rfl rfl rfl rfl rfl (fun _ hw => (X.loadR (ev' (.pointer (some ⟨eb2141, eo2142 + 0 * 43, none⟩)) rfl rfl) rt30 (hr2145.gr hw).r rfl)) ?_
        refine A.takeL (i := 51) rfl (by kernel_rfl) (by kernel_rfl) (by kernel_rfl) (fun _ _ _ _ h => h) R2137 rfl rfl rfl rfl rfl rfl (fun _ hw => (X.loadR (ev' (.pointer (some ⟨b904, 0, none⟩)) rfl s2033) rt30 (row_blk_msg (h2053.gr hw)) rfl)) ?_
        refine A.one (i := 52) (by kernel_rfl) ?_
        refine E.callL (i := 52) rfl rfl rfl rfl rfl rfl rfl (X.callF go15 (args2 (ev' (.agg N1.arr) rfl rfl) (ev' (.agg N1.arr) rfl rfl))) (same_c N1 N1 _) ?_
        rintro _ w2147 ⟨rfl, g2148⟩
        have R2149 := R2136.gr g2148
        have R2150 := R2137.gr g2148
        refine ⟨R2150, ?_⟩
        refine A.take (i := 53) rfl (by kernel_rfl) (by kernel_rfl) (by kernel_rfl) (fun _ _ _ h => h) R2150 rfl rfl (fun _ _ => (eqv (X.and (ev' (.bool true) rfl rfl) (ev' (gv (true == true) (.bool (same N1 N1))) rfl rfl)) (show (same N1 N1) = true from same_refl _))) ?_
        refine A.take (i := 54) rfl (by kernel_rfl) (by kernel_rfl) (by kernel_rfl) (fun _ _ _ h => h) R2150 rfl rfl (fun _ _ => (X.move (ev' (.bool true) rfl rfl))) ?_
        refine A.takeL (i := 55) rfl (by kernel_rfl) (by kernel_rfl) (by kernel_rfl) (fun _ _ _ _ h => h) R2150 rfl rfl rfl rfl rfl rfl (fun _ _ => (X.fieldAddr (ev' (.pointer (some ⟨cb1312, 0, none⟩)) rfl s2040) fo24_3 (b := ⟨cb1312, 3, none⟩) (Addr.add_lit _ _ _))) ?_
        have h2151 := h2018.gr g1941
        have h2152 := h2151.st c2024 ne2019
        have h2153 := h2152.gr g2045
        refine A.takeL (i := 56) rfl (by kernel_rfl) (by kernel_rfl) (by kernel_rfl) (fun _ _ _ _ h => h) R2150 rfl rfl rfl rfl rfl rfl (fun _ hw => (X.load (ev' (.pointer (some ⟨cb1312, 3, none⟩)) rfl rfl) pt22 (Blk.lc (h2153.gr hw) rfl))) ?_
        have h2154 := h1889.gr g1894
        have h2155 := (h2154.ext lt1943).gr g1941
        have h2156 := h2155.st c2024 (.head _)
        have h2157 := h2156.gr g2045
        have h2158 := h2157.gr g2076
        have h2159 := h2158.gr g2092
        have h2160 := h2159.gr g2135
        have h2161 := h2160.gr g2148
        refine A.takeL (i := 57) rfl (by kernel_rfl) (by kernel_rfl) (by kernel_rfl) (fun _ _ _ _ h => h) R2150 rfl rfl rfl rfl rfl rfl (fun _ _ => (eqvI (X.len (ev' (cT1316.d.val) rfl rfl) st22) (congrArg (fun n : Nat => (n : Int)) h2161.d.len))) ?_
        refine A.takeL (i := 58) rfl (by kernel_rfl) (by kernel_rfl) (by kernel_rfl) (fun _ _ _ _ h => h) R2150 rfl rfl rfl rfl rfl rfl (fun _ _ => (eqv (X.eql (ev' (.int .i64 1) rfl rfl) (evc' (.int .i64 1))) (show ((1 : Int) == (1 : Int)) = true from by decide))) ?_
        refine A.take (i := 59) rfl (by kernel_rfl) (by kernel_rfl) (by kernel_rfl) (fun _ _ _ h => h) R2150 rfl rfl (fun _ _ => (X.and (ev' (.bool true) rfl rfl) (ev' (gv (true == true) (.bool true)) rfl rfl))) ?_
        refine A.take (i := 60) rfl (by kernel_rfl) (by kernel_rfl) (by kernel_rfl) (fun _ _ _ h => h) R2150 rfl rfl (fun _ _ => (X.move (ev' (.bool true) rfl rfl))) ?_
        have h2162 := h1949.gr g1941
        have h2163 := h2162.st c2024 ne1950
        have h2164 := h2163.gr g2045
        refine A.takeL (i := 61) rfl (by kernel_rfl) (by kernel_rfl) (by kernel_rfl) (fun _ _ _ _ h => h) R2150 rfl rfl rfl rfl rfl rfl (fun _ hw => (X.loadR (ev' (.pointer (some ⟨b8, 0, none⟩)) rfl s2030) rt24 (row_blk_trade (h2164.gr hw)) rfl)) ?_
        refine A.one (i := 62) (by kernel_rfl) ?_
        refine E.callL (i := 62) rfl rfl rfl rfl rfl rfl rfl (X.callF go16 (args2 (ev' (TV.zero.val) rfl rfl) (evc' (.int .i64 11)))) (tcheck_c 11 _ (Tr.zero_ (b1940 :: cb1312 :: b1205 :: b1102 :: b1042 :: b974 :: b904 :: b845 :: b811 :: b797 :: cb24 :: cb23 :: b8 :: []) _)) ?_
        rintro _ w2165 ⟨rfl, g2166⟩
        have R2167 := R2149.gr g2166
        have R2168 := R2150.gr g2166
        refine ⟨R2168, ?_⟩
        refine A.takeL (i := 63) rfl (by kernel_rfl) (by kernel_rfl) (by kernel_rfl) (fun _ _ _ _ h => h) R2168 rfl rfl rfl rfl rfl rfl (fun _ _ => (eqv (X.eql (ev' (.int .i64 (chk Trade.zero 11)) rfl rfl) (evc' (.int .i64 0))) (show ((chk Trade.zero 11 : Int) == (0 : Int)) = true from by rw [c11]; rfl))) ?_
        refine A.take (i := 64) rfl (by kernel_rfl) (by kernel_rfl) (by kernel_rfl) (fun _ _ _ h => h) R2168 rfl rfl (fun _ _ => (X.and (ev' (.bool true) rfl rfl) (ev' (gv (true == true) (.bool true)) rfl rfl))) ?_
        refine A.take (i := 65) rfl (by kernel_rfl) (by kernel_rfl) (by kernel_rfl) (fun _ _ _ h => h) R2168 rfl rfl (fun _ _ => (X.move (ev' (.bool true) rfl rfl))) ?_
        refine A.takeL (i := 66) rfl (by kernel_rfl) (by kernel_rfl) (by kernel_rfl) (fun _ _ _ _ h => h) R2168 rfl rfl rfl rfl rfl rfl (fun _ hw => (X.loadR (ev' (.pointer (some ⟨b8, 0, none⟩)) rfl s2030) rt24 (row_blk_trade (h2164.gr hw)) rfl)) ?_
        refine A.one (i := 67) (by kernel_rfl) ?_
        refine E.callL (i := 67) rfl rfl rfl rfl rfl rfl rfl (X.callF go16 (args2 (ev' (TV.zero.val) rfl rfl) (evc' (.int .i64 12)))) (tcheck_c 12 _ (Tr.zero_ (b1940 :: cb1312 :: b1205 :: b1102 :: b1042 :: b974 :: b904 :: b845 :: b811 :: b797 :: cb24 :: cb23 :: b8 :: []) _)) ?_
        rintro _ w2169 ⟨rfl, g2170⟩
        have R2171 := R2167.gr g2170
        have R2172 := R2168.gr g2170
        refine ⟨R2172, ?_⟩
        refine A.takeL (i := 68) rfl (by kernel_rfl) (by kernel_rfl) (by kernel_rfl) (fun _ _ _ _ h => h) R2172 rfl rfl rfl rfl rfl rfl (fun _ _ => (eqv (X.eql (ev' (.int .i64 (chk Trade.zero 12)) rfl rfl) (evc' (.int .i64 480))) (show ((chk Trade.zero 12 : Int) == (480 : Int)) = true from by rw [c12]; rfl))) ?_
        refine A.take (i := 69) rfl (by kernel_rfl) (by kernel_rfl) (by kernel_rfl) (fun _ _ _ h => h) R2172 rfl rfl (fun _ _ => (X.and (ev' (.bool true) rfl rfl) (ev' (gv (true == true) (.bool true)) rfl rfl))) ?_
        refine A.take (i := 70) rfl (by kernel_rfl) (by kernel_rfl) (by kernel_rfl) (fun _ _ _ h => h) R2172 rfl rfl (fun _ _ => (X.move (ev' (.bool true) rfl rfl))) ?_
        refine A.takeL (i := 71) rfl (by kernel_rfl) (by kernel_rfl) (by kernel_rfl) (fun _ _ _ _ h => h) R2172 rfl rfl rfl rfl rfl rfl (fun _ hw => (X.loadR (ev' (.pointer (some ⟨cb1312, 0, none⟩)) rfl s2040) rt24 (row_blk_trade (h2153.gr hw)) rfl)) ?_
        refine A.one (i := 72) (by kernel_rfl) ?_
        have h2173 := h2161.gr g2166
        have h2174 := h2173.gr g2170
        refine E.callL (i := 72) rfl rfl rfl rfl rfl rfl rfl (X.callF go16 (args2 (ev' (cT1316.val) rfl rfl) (evc' (.int .i64 3)))) (tcheck_c 3 _ h2174) ?_
        rintro _ w2175 ⟨rfl, g2176⟩
        have R2177 := R2171.gr g2176
        have R2178 := R2172.gr g2176
        refine ⟨R2178, ?_⟩
        refine A.takeL (i := 73) rfl (by kernel_rfl) (by kernel_rfl) (by kernel_rfl) (fun _ _ _ _ h => h) R2178 rfl rfl rfl rfl rfl rfl (fun _ _ => (eqv (X.eql (ev' (.int .i64 (chk D1 3)) rfl rfl) (evc' (.int .i64 0))) (show ((chk D1 3 : Int) == (0 : Int)) = true from by rw [cD3]; rfl))) ?_
        refine A.take (i := 74) rfl (by kernel_rfl) (by kernel_rfl) (by kernel_rfl) (fun _ _ _ h => h) R2178 rfl rfl (fun _ _ => (X.and (ev' (.bool true) rfl rfl) (ev' (gv (true == true) (.bool true)) rfl rfl))) ?_
        refine A.take (i := 75) rfl (by kernel_rfl) (by kernel_rfl) (by kernel_rfl) (fun _ _ _ h => h) R2178 rfl rfl (fun _ _ => (X.move (ev' (.bool true) rfl rfl))) ?_
        refine A.takeL (i := 76) rfl (by kernel_rfl) (by kernel_rfl) (by kernel_rfl) (fun _ _ _ _ h => h) R2178 rfl rfl rfl rfl rfl rfl (fun _ hw => (X.loadR (ev' (.pointer (some ⟨cb1312, 0, none⟩)) rfl s2040) rt24 (row_blk_trade (h2153.gr hw)) rfl)) ?_
        refine A.one (i := 77) (by kernel_rfl) ?_
        have h2179 := h2174.gr g2176
        refine E.callL (i := 77) rfl rfl rfl rfl rfl rfl rfl (X.callF go16 (args2 (ev' (cT1316.val) rfl rfl) (evc' (.int .i64 4)))) (tcheck_c 4 _ h2179) ?_
        rintro _ w2180 ⟨rfl, g2181⟩
        have R2182 := R2177.gr g2181
        have R2183 := R2178.gr g2181
        refine ⟨R2183, ?_⟩
        refine A.takeL (i := 78) rfl (by kernel_rfl) (by kernel_rfl) (by kernel_rfl) (fun _ _ _ _ h => h) R2183 rfl rfl rfl rfl rfl rfl (fun _ _ => (eqv (X.eql (ev' (.int .i64 (chk D1 4)) rfl rfl) (evc' (.int .i64 480))) (show ((chk D1 4 : Int) == (480 : Int)) = true from by rw [cD4]; rfl))) ?_
        refine A.take (i := 79) rfl (by kernel_rfl) (by kernel_rfl) (by kernel_rfl) (fun _ _ _ h => h) R2183 rfl rfl (fun _ _ => (X.and (ev' (.bool true) rfl rfl) (ev' (gv (true == true) (.bool true)) rfl rfl))) ?_
        refine A.take (i := 80) rfl (by kernel_rfl) (by kernel_rfl) (by kernel_rfl) (fun _ _ _ h => h) R2183 rfl rfl (fun _ _ => (X.move (ev' (.bool true) rfl rfl))) ?_
        refine A.takeL (i := 81) rfl (by kernel_rfl) (by kernel_rfl) (by kernel_rfl) (fun _ _ _ _ h => h) R2183 rfl rfl rfl rfl rfl rfl (fun _ hw => (X.loadR (ev' (.pointer (some ⟨b8, 0, none⟩)) rfl s2030) rt24 (row_blk_trade (h2164.gr hw)) rfl)) ?_
        refine A.one (i := 82) (by kernel_rfl) ?_
        have h2184 := h1890.gr g1894
        have h2185 := h2184.new g1941 hB1942.lt
        have h2186 := h2185.gr c2024
        have h2187 := h2186.gr g2045
        have h2188 := h2187.gr g2076
        have h2189 := h2188.gr g2092
        have h2190 := h2189.gr g2135
        have h2191 := h2190.gr g2148
        have h2192 := h2191.gr g2166
        have h2193 := h2192.gr g2170
        have h2194 := h2193.gr g2176
        have h2195 := h2194.gr g2181
        refine E.callL (i := 82) rfl rfl rfl rfl rfl rfl rfl (X.callF go19 (args2 (ev' (TV.zero.val) rfl rfl) (evc' (.int .i64 0)))) (twaiting_c 0 _ (Tr.zero_ (b1940 :: cb1312 :: b1205 :: b1102 :: b1042 :: b974 :: b904 :: b845 :: b811 :: b797 :: cb24 :: cb23 :: b8 :: []) _) h2195 (by decide)) ?_
        rintro _ w2196 ⟨s2197, rfl, hS2198, g2199⟩
        have R2200 := R2182.gr g2199
        have R2201 := R2183.gr g2199
        have hS2202 : Sl (b1940 :: cb1312 :: b1205 :: b1102 :: b1042 :: b974 :: b904 :: b845 :: b811 :: b797 :: cb24 :: cb23 :: b8 :: []) w2196 s2197 ([]) := by rw [s11] at hS2198; exact hS2198
        refine ⟨R2201, ?_⟩
        refine A.takeL (i := 83) rfl (by kernel_rfl) (by kernel_rfl) (by kernel_rfl) (fun _ _ _ _ h => h) R2201 rfl rfl rfl rfl rfl rfl (fun _ _ => (eqvI (X.len (ev' (s2197.val) rfl rfl) st22) (congrArg (fun n : Nat => (n : Int)) hS2202.len))) ?_
        refine A.takeL (i := 84) rfl (by kernel_rfl) (by kernel_rfl) (by kernel_rfl) (fun _ _ _ _ h => h) R2201 rfl rfl rfl rfl rfl rfl (fun _ _ => (eqv (X.eql (ev' (.int .i64 0) rfl rfl) (evc' (.int .i64 0))) (show ((0 : Int) == (0 : Int)) = true from by decide))) ?_
        refine A.take (i := 85) rfl (by kernel_rfl) (by kernel_rfl) (by kernel_rfl) (fun _ _ _ h => h) R2201 rfl rfl (fun _ _ => (X.and (ev' (.bool true) rfl rfl) (ev' (gv (true == true) (.bool true)) rfl rfl))) ?_
        refine A.take (i := 86) rfl (by kernel_rfl) (by kernel_rfl) (by kernel_rfl) (fun _ _ _ h => h) R2201 rfl rfl (fun _ _ => (X.assign (ev' (.bool true) rfl rfl))) ?_
        refine A.done (by kernel_rfl) ?_
        refine then_n ?_
        refine W.fresh ?_
        intro r2204 er2205
        have s2206 : r2204 0 = .bool true := (congrFun er2205 0).trans rfl
        clear er2205
        refine W.ret (retT rfl rfl (show _ = (.bool true : Value) from s2206) ⟨?_, R2200⟩)
        rfl

end Go.Proofs.Ytigimkmkbdnlpaa
