/- The law TradeAgain, walked. Printed by gen.py. -/
import Derived.Test.YtigimkmkbdnlpaaFg
import Derived.Test.YtigimkmkbdnlpaaLaws
namespace Go.Proofs.Ytigimkmkbdnlpaa
open Go.RowKit

theorem law3_c {bs : List Nat} {T : TV} {t : Trade} (m o : Msg) (id : Int) (w : World) (ht : Tr bs w T t) (hl : LtAll bs w) : Calls Try.prog 5 #[T.val, .agg m.arr, .agg o.arr, .int .i64 id] w (Ret fun v w' => v = .bool (true) ∧ Grow w w') := by
  refine enter (N := 192) Try.func5 rfl Try.ntmps5 rfl ?_
  intro ρ hρ
  have a0 : ρ 0 = T.val := hρ 0 _ rfl
  have a1 : ρ 1 = .agg m.arr := hρ 1 _ rfl
  have a2 : ρ 2 = .agg o.arr := hρ 2 _ rfl
  have a3 : ρ 3 = .int .i64 id := hρ 3 _ rfl
  clear hρ
  have R0 : Grow w w := Chg.refl w
  refine W.seq ?_
  refine W.reg ?_
  refine W.eff rfl rfl (Y.box (cs := T.arr) (ev' (T.val) rfl a0) rfl) ?_
  rintro _ w3 ⟨b4, rfl, g5, hB6, lt7⟩
  have l8 := Nat.le_trans R0.size lt7
  have R9 := R0.gr g5
  refine W.eff rfl rfl (Y.box (cs := m.arr) (ev' (.agg m.arr) rfl a1) rfl) ?_
  rintro _ w11 ⟨b12, rfl, g13, hB14, lt15⟩
  have ne16 := hB6.ne lt15
  have l17 := Nat.le_trans R9.size lt15
  have R18 := R9.gr g13
  refine W.eff rfl rfl (Y.box (cs := o.arr) (ev' (.agg o.arr) rfl a2) rfl) ?_
  rintro _ w20 ⟨b21, rfl, g22, hB23, lt24⟩
  have h25 := hB6.gr g13
  have ne26 := h25.ne lt24
  have ne27 := hB14.ne lt24
  have l28 := Nat.le_trans R18.size lt24
  have R29 := R18.gr g22
  refine W.val rfl rfl (X.assign (evc' (.bool false))) ?_
  refine W.nil ?_
  refine then_n ?_
  refine W.fresh ?_
  intro r31 er32
  have s33 : r31 3 = .int .i64 id := (congrFun er32 3).trans a3
  have s34 : r31 4 = .pointer (some ⟨b4, 0, none⟩) := (congrFun er32 4).trans rfl
  have s35 : r31 5 = .pointer (some ⟨b12, 0, none⟩) := (congrFun er32 5).trans rfl
  have s36 : r31 6 = .pointer (some ⟨b21, 0, none⟩) := (congrFun er32 6).trans rfl
  clear er32
  refine W.seq ?_
  refine W.seq ?_
  refine W.reg ?_
  refine W.call rfl rfl (X.callF go9 (by simp)) (sane_c _) ?_
  rintro _ w37 ⟨rfl, g38⟩
  have R39 := R29.gr g38
  refine W.val rfl rfl (X.not (ev' (.bool true) rfl rfl)) ?_
  refine W.nil ?_
  refine then_n ?_
  refine W.fresh ?_
  intro r40 er41
  have s42 : r40 3 = .int .i64 id := (congrFun er41 3).trans s33
  have s43 : r40 4 = .pointer (some ⟨b4, 0, none⟩) := (congrFun er41 4).trans s34
  have s44 : r40 5 = .pointer (some ⟨b12, 0, none⟩) := (congrFun er41 5).trans s35
  have s45 : r40 6 = .pointer (some ⟨b21, 0, none⟩) := (congrFun er41 6).trans s36
  have s46 : r40 23 = .bool false := (congrFun er41 23).trans rfl
  clear er41
  refine W.condF rfl s46 ?_
  refine W.skip ?_
  refine then_n ?_
  refine W.seq ?_
  refine W.seq ?_
  refine W.reg ?_
  have h48 := h25.gr g22
  have h49 := h48.gr g38
  refine W.val rfl rfl (X.loadR (ev' (.pointer (some ⟨b4, 0, none⟩)) rfl s43) rt24 (row_blk_trade h49) rfl) ?_
  have h50 := (ht.ext lt7).gr g5
  have h51 := (h50.ext lt15).gr g13
  have h52 := (h51.ext lt24).gr g22
  have h53 := h52.gr g38
  refine W.call rfl rfl (X.callF go10 (args1 (ev' (T.val) rfl rfl))) (few_c _ h53) ?_
  rintro _ w54 ⟨rfl, g55⟩
  have R56 := R39.gr g55
  refine W.val rfl rfl (X.not (ev' (.bool (few t)) rfl rfl)) ?_
  refine W.val rfl rfl (X.move (ev' (.bool (!(few t))) rfl rfl)) ?_
  have h57 := hB14.gr g22
  have h58 := h57.gr g38
  have h59 := h58.gr g55
  refine W.gq rfl rfl rfl rfl rfl (fun _ => (X.loadR (ev' (.pointer (some ⟨b12, 0, none⟩)) rfl s44) rt30 (row_blk_msg h59) rfl)) ?_
  refine W.gcallS rfl rfl rfl rfl rfl (fun hc => X.callF go11 (args1 (ev' (.agg m.arr) rfl (gvt hc rfl)))) (fun _ => (fewM_c m _)) ?_
  intro w60 g61
  have R62 := R56.gr g61
  refine W.gq rfl rfl rfl rfl rfl (fun hc => (X.not (ev' (.bool (fewM m)) rfl (gvt hc rfl)))) ?_
  refine W.val rfl rfl (X.or (ev' (.bool (!(few t))) rfl rfl) (ev' (gv ((!(few t)) == false) (.bool (!(fewM m)))) rfl rfl)) ?_
  refine W.val rfl rfl (X.move (ev' (.bool ((!(few t)) || (!(fewM m)))) rfl rfl)) ?_
  have h63 := hB23.gr g38
  have h64 := h63.gr g55
  have h65 := h64.gr g61
  refine W.gq rfl rfl rfl rfl rfl (fun _ => (X.loadR (ev' (.pointer (some ⟨b21, 0, none⟩)) rfl s45) rt30 (row_blk_msg h65) rfl)) ?_
  refine W.gcallS rfl rfl rfl rfl rfl (fun hc => X.callF go11 (args1 (ev' (.agg o.arr) rfl (gvt hc rfl)))) (fun _ => (fewM_c o _)) ?_
  intro w66 g67
  have R68 := R62.gr g67
  refine W.gq rfl rfl rfl rfl rfl (fun hc => (X.not (ev' (.bool (fewM o)) rfl (gvt hc rfl)))) ?_
  refine W.val rfl rfl (X.or (ev' (.bool ((!(few t)) || (!(fewM m)))) rfl rfl) (ev' (gv (((!(few t)) || (!(fewM m))) == false) (.bool (!(fewM o)))) rfl rfl)) ?_
  refine W.nil ?_
  refine then_n ?_
  refine W.fresh ?_
  intro r69 er70
  have s71 : r69 3 = .int .i64 id := (congrFun er70 3).trans s42
  have s72 : r69 4 = .pointer (some ⟨b4, 0, none⟩) := (congrFun er70 4).trans s43
  have s73 : r69 5 = .pointer (some ⟨b12, 0, none⟩) := (congrFun er70 5).trans s44
  have s74 : r69 6 = .pointer (some ⟨b21, 0, none⟩) := (congrFun er70 6).trans s45
  have s75 : r69 36 = .bool (((!(few t)) || (!(fewM m))) || (!(fewM o))) := (congrFun er70 36).trans rfl
  clear er70
  refine W.cond rfl s75 (fun k76 => ?_) (fun k76 => ?_)
  · skip
    refine W.seq ?_
    refine W.reg ?_
    refine W.val rfl rfl (X.assign (evc' (.bool true))) ?_
    refine W.nil ?_
    refine then_n ?_
    refine W.fresh ?_
    intro r77 er78
    have s79 : r77 8 = .bool true := (congrFun er78 8).trans rfl
    clear er78
    refine W.ret (then_r (retT rfl rfl (show _ = (.bool true : Value) from s79) ⟨?_, R68⟩))
    rfl
  · skip
    have hfew := few_of3 k76
    refine W.skip ?_
    refine then_n ?_
    refine W.seq ?_
    refine W.seq ?_
    refine W.reg ?_
    have h80 := h49.gr g55
    have h81 := h80.gr g61
    have h82 := h81.gr g67
    refine W.val rfl rfl (X.loadR (ev' (.pointer (some ⟨b4, 0, none⟩)) rfl s72) rt24 (row_blk_trade h82) rfl) ?_
    have h83 := h65.gr g67
    refine W.val rfl rfl (X.loadR (ev' (.pointer (some ⟨b21, 0, none⟩)) rfl s74) rt30 (row_blk_msg h83) rfl) ?_
    have h84 := h53.gr g55
    have h85 := h84.gr g61
    have h86 := h85.gr g67
    have h87 := hl.new g5 hB6.lt
    have h88 := h87.new g13 hB14.lt
    have h89 := h88.new g22 hB23.lt
    have h90 := h89.gr g38
    have h91 := h90.gr g55
    have h92 := h91.gr g61
    have h93 := h92.gr g67
    refine W.call rfl rfl (X.callF go12 (args2 (ev' (T.val) rfl rfl) (ev' (.agg o.arr) rfl rfl))) (tplace_c o _ h86 h93) ?_
    rintro _ w94 ⟨T95, rfl, hT96, g97⟩
    have R98 := R68.gr g97
    refine W.val rfl rfl (X.move (ev' (.tuple #[T95.val, .agg ((placeR t o).2.1).arr, .int .i64 ((placeR t o).2.2)]) rfl rfl)) ?_
    refine W.val rfl rfl (X.extract (ev' (.tuple #[T95.val, .agg ((placeR t o).2.1).arr, .int .i64 ((placeR t o).2.2)]) rfl rfl) rfl) ?_
    refine W.val rfl rfl (X.extract (ev' (.tuple #[T95.val, .agg ((placeR t o).2.1).arr, .int .i64 ((placeR t o).2.2)]) rfl rfl) rfl) ?_
    refine W.val rfl rfl (X.extract (ev' (.tuple #[T95.val, .agg ((placeR t o).2.1).arr, .int .i64 ((placeR t o).2.2)]) rfl rfl) rfl) ?_
    refine W.eff rfl rfl (Y.alloc (cs := TV.zero.arr) zero24 rfl) ?_
    rintro _ w100 ⟨b101, rfl, g102, hB103, lt104⟩
    have h105 := h82.gr g97
    have ne106 := h105.ne lt104
    have h107 := h59.gr g61
    have h108 := h107.gr g67
    have h109 := h108.gr g97
    have ne110 := h109.ne lt104
    have h111 := h83.gr g97
    have ne112 := h111.ne lt104
    have l113 := Nat.le_trans R98.size lt104
    have R114 := R98.gr g102
    refine W.eff rfl rfl (Y.alloc (cs := Msg.zero.arr) zero30 rfl) ?_
    rintro _ w116 ⟨b117, rfl, g118, hB119, lt120⟩
    have h121 := h105.gr g102
    have ne122 := h121.ne lt120
    have h123 := h109.gr g102
    have ne124 := h123.ne lt120
    have h125 := h111.gr g102
    have ne126 := h125.ne lt120
    have ne127 := hB103.ne lt120
    have l128 := Nat.le_trans R114.size lt120
    have R129 := R114.gr g118
    have h131 := hB103.gr g118
    refine W.eff0 rfl rfl (Y.storeW (ds := T95.arr) (ev' (.pointer (some ⟨b101, 0, none⟩)) rfl rfl) (ev' (T95.val) rfl rfl) h131 (n := 4) rfl sz24 rfl (TV.oneCell _) rfl) ?_
    rintro w132 ⟨c133, hB134⟩
    have R135 := R129.stN c133 l113
    have h137 := hB119.st c133 ne127.symm
    refine W.eff0 rfl rfl (Y.storeW (ds := ((placeR t o).2.1).arr) (ev' (.pointer (some ⟨b117, 0, none⟩)) rfl rfl) (ev' (.agg ((placeR t o).2.1).arr) rfl rfl) h137 (Msg.size_arr _) sz30 (Msg.size_arr _) (Msg.oneCellA _) rfl) ?_
    rintro w138 ⟨c139, hB140⟩
    have R141 := R135.stN c139 l128
    refine W.val rfl rfl (X.assign (ev' (.int .i64 ((placeR t o).2.2)) rfl rfl)) ?_
    refine W.nil ?_
    refine then_n ?_
    refine W.fresh ?_
    intro r143 er144
    have s145 : r143 3 = .int .i64 id := (congrFun er144 3).trans s71
    have s146 : r143 4 = .pointer (some ⟨b4, 0, none⟩) := (congrFun er144 4).trans s72
    have s147 : r143 5 = .pointer (some ⟨b12, 0, none⟩) := (congrFun er144 5).trans s73
    have s148 : r143 6 = .pointer (some ⟨b21, 0, none⟩) := (congrFun er144 6).trans s74
    have s149 : r143 9 = .pointer (some ⟨b101, 0, none⟩) := (congrFun er144 9).trans rfl
    have s150 : r143 10 = .pointer (some ⟨b117, 0, none⟩) := (congrFun er144 10).trans rfl
    have s151 : r143 11 = .int .i64 ((placeR t o).2.2) := (congrFun er144 11).trans rfl
    clear er144
    refine W.seq ?_
    refine W.reg ?_
    refine W.val rfl rfl (X.move (ev' (.int .i64 ((placeR t o).2.2)) rfl s151)) ?_
    refine W.val rfl rfl (X.eql (ev' (.int .i64 ((placeR t o).2.2)) rfl rfl) (evc' (.int .i64 0))) ?_
    refine W.nil ?_
    refine then_n ?_
    refine W.fresh ?_
    intro r152 er153
    have s154 : r152 3 = .int .i64 id := (congrFun er153 3).trans s145
    have s155 : r152 4 = .pointer (some ⟨b4, 0, none⟩) := (congrFun er153 4).trans s146
    have s156 : r152 5 = .pointer (some ⟨b12, 0, none⟩) := (congrFun er153 5).trans s147
    have s157 : r152 6 = .pointer (some ⟨b21, 0, none⟩) := (congrFun er153 6).trans s148
    have s158 : r152 9 = .pointer (some ⟨b101, 0, none⟩) := (congrFun er153 9).trans s149
    have s159 : r152 10 = .pointer (some ⟨b117, 0, none⟩) := (congrFun er153 10).trans s150
    have s160 : r152 45 = .bool (((placeR t o).2.2 : Int) == (0 : Int)) := (congrFun er153 45).trans rfl
    clear er153
    refine W.cond rfl s160 (fun k161 => ?_) (fun k161 => ?_)
    · skip
      have hp : (placeR t o).2.2 = 0 := by simpa using k161
      refine W.seq ?_
      refine A.begin' (cs := []) rfl ?_
      intro w162 g163
      have R164 := R141.gr g163
      have R165 : Chg [] w162 w162 := Chg.of_refl _ _
      have h166 := hB134.st c139 ne127
      have h167 := h166.gr g163
      refine A.take (i := 0) rfl (by kernel_rfl) (by kernel_rfl) (by kernel_rfl) (fun _ _ _ h => h) R165 rfl rfl (fun _ hw => (X.loadR (ev' (.pointer (some ⟨b101, 0, none⟩)) rfl s158) rt24 (row_blk_trade (h167.gr hw)) rfl)) ?_
      refine A.take (i := 1) rfl (by kernel_rfl) (by kernel_rfl) (by kernel_rfl) (fun _ _ _ h => h) R165 rfl rfl (fun _ _ => (X.fieldAddr (ev' (.pointer (some ⟨b21, 0, none⟩)) rfl s157) fo30_1 (b := ⟨b21, 1, none⟩) (Addr.add_lit _ _ _))) ?_
      have h168 := h125.gr g118
      have h169 := h168.st c133 ne112
      have h170 := h169.st c139 ne126
      have h171 := h170.gr g163
      refine A.take (i := 2) rfl (by kernel_rfl) (by kernel_rfl) (by kernel_rfl) (fun _ _ _ h => h) R165 rfl rfl (fun _ hw => (X.load (ev' (.pointer (some ⟨b21, 1, none⟩)) rfl rfl) pt3 (Blk.lc (h171.gr hw) (Msg.arr1 _)))) ?_
      refine A.one (i := 3) (by kernel_rfl) ?_
      have h172 := (hT96.ext lt104).gr g102
      have h173 := (h172.ext lt120).gr g118
      have h174 := h173.st c133 (.tail _ (.head _))
      have h175 := h174.st c139 (.head _)
      have h176 := h175.gr g163
      refine E.call (i := 3) rfl rfl rfl (X.callF go16 (args2 (ev' (T95.val) rfl rfl) (ev' (.int .i64 o.frm) rfl rfl))) (tcheck_c o.frm _ h176) ?_
      rintro _ w177 ⟨rfl, g178⟩
      have R179 := R164.gr g178
      have R180 := R165.gr g178
      refine ⟨R180, ?_⟩
      refine A.take (i := 4) rfl (by kernel_rfl) (by kernel_rfl) (by kernel_rfl) (fun _ _ _ h => h) R180 rfl rfl (fun _ _ => (eqv (X.neq (ev' (.int .i64 (chk ((placeR t o).1) o.frm)) rfl rfl) (evc' (.int .i64 0))) (show ((chk ((placeR t o).1) o.frm : Int) != (0 : Int)) = false from ne_no (chk_iff.2 (place_fit hp))))) ?_
      refine A.take (i := 5) rfl (by kernel_rfl) (by kernel_rfl) (by kernel_rfl) (fun _ _ _ h => h) R180 rfl rfl (fun _ _ => (X.move (ev' (.bool false) rfl rfl))) ?_
      refine A.takeL (i := 6) rfl (by kernel_rfl) (by kernel_rfl) (by kernel_rfl) (fun _ _ _ _ h => h) R180 rfl rfl rfl rfl rfl rfl (fun _ _ => (X.fieldAddr (ev' (.pointer (some ⟨b117, 0, none⟩)) rfl s159) fo30_3 (b := ⟨b117, 3, none⟩) (Addr.add_lit _ _ _))) ?_
      have h181 := hB140.gr g163
      refine A.takeL (i := 7) rfl (by kernel_rfl) (by kernel_rfl) (by kernel_rfl) (fun _ _ _ _ h => h) R180 rfl rfl rfl rfl rfl rfl (fun _ hw => (X.load (ev' (.pointer (some ⟨b117, 3, none⟩)) rfl rfl) pt3 (Blk.lc (h181.gr hw) (Msg.arr3 _)))) ?_
      refine A.takeL (i := 8) rfl (by kernel_rfl) (by kernel_rfl) (by kernel_rfl) (fun _ _ _ _ h => h) R180 rfl rfl rfl rfl rfl rfl (fun _ _ => (X.fieldAddr (ev' (.pointer (some ⟨b4, 0, none⟩)) rfl s155) fo24_0 (b := ⟨b4, 0, none⟩) (Addr.add_lit _ _ _))) ?_
      have h182 := h121.gr g118
      have h183 := h182.st c133 ne106
      have h184 := h183.st c139 ne122
      have h185 := h184.gr g163
      refine A.takeL (i := 9) rfl (by kernel_rfl) (by kernel_rfl) (by kernel_rfl) (fun _ _ _ _ h => h) R180 rfl rfl rfl rfl rfl rfl (fun _ hw => (X.load (ev' (.pointer (some ⟨b4, 0, none⟩)) rfl rfl) pt3 (Blk.lc (h185.gr hw) rfl))) ?_
      refine A.takeL (i := 10) rfl (by kernel_rfl) (by kernel_rfl) (by kernel_rfl) (fun _ _ _ _ h => h) R180 rfl rfl rfl rfl rfl rfl (fun _ _ => (eqv (X.neq (ev' (.int .i64 (((placeR t o).2.1).no)) rfl rfl) (ev' (.int .i64 T.next) rfl rfl)) (show ((((placeR t o).2.1).no : Int) != (T.next : Int)) = false from ne_no ((place_no hp).trans ht.next.symm)))) ?_
      refine A.take (i := 11) rfl (by kernel_rfl) (by kernel_rfl) (by kernel_rfl) (fun _ _ _ h => h) R180 rfl rfl (fun _ _ => (X.or (ev' (.bool false) rfl rfl) (ev' (gv (false == false) (.bool false)) rfl rfl))) ?_
      refine A.take (i := 12) rfl (by kernel_rfl) (by kernel_rfl) (by kernel_rfl) (fun _ _ _ h => h) R180 rfl rfl (fun _ _ => (X.move (ev' (.bool false) rfl rfl))) ?_
      refine A.takeL (i := 13) rfl (by kernel_rfl) (by kernel_rfl) (by kernel_rfl) (fun _ _ _ _ h => h) R180 rfl rfl rfl rfl rfl rfl (fun _ _ => (X.fieldAddr (ev' (.pointer (some ⟨b101, 0, none⟩)) rfl s158) fo24_1 (b := ⟨b101, 1, none⟩) (Addr.add_lit _ _ _))) ?_
      refine A.takeL (i := 14) rfl (by kernel_rfl) (by kernel_rfl) (by kernel_rfl) (fun _ _ _ _ h => h) R180 rfl rfl rfl rfl rfl rfl (fun _ hw => (X.load (ev' (.pointer (some ⟨b101, 1, none⟩)) rfl rfl) pt22 (Blk.lc (h167.gr hw) rfl))) ?_
      refine A.takeL (i := 15) rfl (by kernel_rfl) (by kernel_rfl) (by kernel_rfl) (fun _ _ _ _ h => h) R180 rfl rfl rfl rfl rfl rfl (fun _ _ => (X.len (ev' (T95.p.val) rfl rfl) st22)) ?_
      refine A.takeL (i := 16) rfl (by kernel_rfl) (by kernel_rfl) (by kernel_rfl) (fun _ _ _ _ h => h) R180 rfl rfl rfl rfl rfl rfl (fun _ _ => (X.fieldAddr (ev' (.pointer (some ⟨b4, 0, none⟩)) rfl s155) fo24_1 (b := ⟨b4, 1, none⟩) (Addr.add_lit _ _ _))) ?_
      refine A.takeL (i := 17) rfl (by kernel_rfl) (by kernel_rfl) (by kernel_rfl) (fun _ _ _ _ h => h) R180 rfl rfl rfl rfl rfl rfl (fun _ hw => (X.load (ev' (.pointer (some ⟨b4, 1, none⟩)) rfl rfl) pt22 (Blk.lc (h185.gr hw) rfl))) ?_
      refine A.takeL (i := 18) rfl (by kernel_rfl) (by kernel_rfl) (by kernel_rfl) (fun _ _ _ _ h => h) R180 rfl rfl rfl rfl rfl rfl (fun _ _ => (X.len (ev' (T.p.val) rfl rfl) st22)) ?_
      refine A.takeL (i := 19) rfl (by kernel_rfl) (by kernel_rfl) (by kernel_rfl) (fun _ _ _ _ h => h) R180 rfl rfl rfl rfl rfl rfl (fun _ _ => (X.addIn (ev' (.int .i64 (T.p.n : Int)) rfl rfl) (evc' (.int .i64 1)) (by have := ht.p.len; omega) (by have := ht.p.len; omega))) ?_
      have h186 := h176.gr g178
      refine A.takeL (i := 20) rfl (by kernel_rfl) (by kernel_rfl) (by kernel_rfl) (fun _ _ _ _ h => h) R180 rfl rfl rfl rfl rfl rfl (fun _ _ => (eqv (X.neq (ev' (.int .i64 (T95.p.n : Int)) rfl rfl) (ev' (.int .i64 ((T.p.n : Int) + 1)) rfl rfl)) (show (((T95.p.n : Int) : Int) != ((T.p.n : Int) + 1 : Int)) = false from ne_no (by have h1 := h186.p.len; have h2 := ht.p.len; have h3 := place_len hp; omega)))) ?_
      refine A.take (i := 21) rfl (by kernel_rfl) (by kernel_rfl) (by kernel_rfl) (fun _ _ _ h => h) R180 rfl rfl (fun _ _ => (X.or (ev' (.bool false) rfl rfl) (ev' (gv (false == false) (.bool false)) rfl rfl))) ?_
      refine A.take (i := 22) rfl (by kernel_rfl) (by kernel_rfl) (by kernel_rfl) (fun _ _ _ h => h) R180 rfl rfl (fun _ _ => (X.move (ev' (.bool false) rfl rfl))) ?_
      refine A.takeL (i := 23) rfl (by kernel_rfl) (by kernel_rfl) (by kernel_rfl) (fun _ _ _ _ h => h) R180 rfl rfl rfl rfl rfl rfl (fun _ hw => (X.loadR (ev' (.pointer (some ⟨b101, 0, none⟩)) rfl s158) rt24 (row_blk_trade (h167.gr hw)) rfl)) ?_
      refine A.takeL (i := 24) rfl (by kernel_rfl) (by kernel_rfl) (by kernel_rfl) (fun _ _ _ _ h => h) R180 rfl rfl rfl rfl rfl rfl (fun _ _ => (X.fieldAddr (ev' (.pointer (some ⟨b21, 0, none⟩)) rfl s157) fo30_1 (b := ⟨b21, 1, none⟩) (Addr.add_lit _ _ _))) ?_
      refine A.takeL (i := 25) rfl (by kernel_rfl) (by kernel_rfl) (by kernel_rfl) (fun _ _ _ _ h => h) R180 rfl rfl rfl rfl rfl rfl (fun _ hw => (X.load (ev' (.pointer (some ⟨b21, 1, none⟩)) rfl rfl) pt3 (Blk.lc (h171.gr hw) (Msg.arr1 _)))) ?_
      refine A.takeL (i := 28) rfl (by kernel_rfl) (by kernel_rfl) (by kernel_rfl) (fun _ _ _ _ h => h) R180 rfl rfl rfl rfl rfl rfl (fun _ hw => (X.loadR (ev' (.pointer (some ⟨b4, 0, none⟩)) rfl s155) rt24 (row_blk_trade (h185.gr hw)) rfl)) ?_
      refine A.takeL (i := 29) rfl (by kernel_rfl) (by kernel_rfl) (by kernel_rfl) (fun _ _ _ _ h => h) R180 rfl rfl rfl rfl rfl rfl (fun _ _ => (X.fieldAddr (ev' (.pointer (some ⟨b21, 0, none⟩)) rfl s157) fo30_1 (b := ⟨b21, 1, none⟩) (Addr.add_lit _ _ _))) ?_
      refine A.takeL (i := 30) rfl (by kernel_rfl) (by kernel_rfl) (by kernel_rfl) (fun _ _ _ _ h => h) R180 rfl rfl rfl rfl rfl rfl (fun _ hw => (X.load (ev' (.pointer (some ⟨b21, 1, none⟩)) rfl rfl) pt3 (Blk.lc (h171.gr hw) (Msg.arr1 _)))) ?_
      refine A.one (i := 26) (by kernel_rfl) ?_
      have h187 := h93.gr g97
      have h188 := h187.new g102 hB103.lt
      have h189 := h188.new g118 hB119.lt
      have h190 := h189.gr c133
      have h191 := h190.gr c139
      have h192 := h191.gr g163
      have h193 := h192.gr g178
      refine E.callL (i := 26) rfl rfl rfl rfl rfl rfl rfl (X.callF go19 (args2 (ev' (T95.val) rfl rfl) (ev' (.int .i64 o.frm) rfl rfl))) (twaiting_c o.frm _ h186 h193 (by have := place_len hp; omega)) ?_
      rintro _ w194 ⟨s195, rfl, hS196, g197⟩
      have R198 := R179.gr g197
      have R199 := R180.gr g197
      refine ⟨R199, ?_⟩
      refine A.takeL (i := 27) rfl (by kernel_rfl) (by kernel_rfl) (by kernel_rfl) (fun _ _ _ _ h => h) R199 rfl rfl rfl rfl rfl rfl (fun _ _ => (X.len (ev' (s195.val) rfl rfl) st22)) ?_
      refine A.one (i := 31) (by kernel_rfl) ?_
      have h201 := h86.gr g97
      have h202 := (h201.ext lt104).gr g102
      have h203 := (h202.ext lt120).gr g118
      have h204 := h203.st c133 (.tail _ (.head _))
      have h205 := h204.st c139 (.head _)
      have h206 := h205.gr g163
      have h207 := h206.gr g178
      have h208 := h207.gr g197
      have h209 := h193.gr g197
      refine E.callL (i := 31) rfl rfl rfl rfl rfl rfl rfl (X.callF go19 (args2 (ev' (T.val) rfl rfl) (ev' (.int .i64 o.frm) rfl rfl))) (twaiting_c o.frm _ h208 h209 (by omega)) ?_
      rintro _ w210 ⟨s211, rfl, hS212, g213⟩
      have R214 := R198.gr g213
      have R215 := R199.gr g213
      refine ⟨R215, ?_⟩
      refine A.takeL (i := 32) rfl (by kernel_rfl) (by kernel_rfl) (by kernel_rfl) (fun _ _ _ _ h => h) R215 rfl rfl rfl rfl rfl rfl (fun _ _ => (X.len (ev' (s211.val) rfl rfl) st22)) ?_
      refine A.takeL (i := 33) rfl (by kernel_rfl) (by kernel_rfl) (by kernel_rfl) (fun _ _ _ _ h => h) R215 rfl rfl rfl rfl rfl rfl (fun _ _ => (X.addIn (ev' (.int .i64 (s211.n : Int)) rfl rfl) (evc' (.int .i64 1)) (by have h1 := hS212.len; have h2 := List.length_filter_le (waits t o.frm) t.placed; have h3 : (waitL t o.frm).length ≤ t.placed.length := h2; omega) (by have h1 := hS212.len; have h2 := List.length_filter_le (waits t o.frm) t.placed; have h3 : (waitL t o.frm).length ≤ t.placed.length := h2; omega))) ?_
      have h217 := hS196.gr g213
      refine A.takeL (i := 34) rfl (by kernel_rfl) (by kernel_rfl) (by kernel_rfl) (fun _ _ _ _ h => h) R215 rfl rfl rfl rfl rfl rfl (fun _ _ => (eqv (X.neq (ev' (.int .i64 (s195.n : Int)) rfl rfl) (ev' (.int .i64 ((s211.n : Int) + 1)) rfl rfl)) (show (((s195.n : Int) : Int) != ((s211.n : Int) + 1 : Int)) = false from ne_no (by have h1 := h217.len; have h2 := hS212.len; have h3 := place_wait hp; omega)))) ?_
      refine A.take (i := 35) rfl (by kernel_rfl) (by kernel_rfl) (by kernel_rfl) (fun _ _ _ h => h) R215 rfl rfl (fun _ _ => (X.or (ev' (.bool false) rfl rfl) (ev' (gv (false == false) (.bool false)) rfl rfl))) ?_
      refine A.done (by kernel_rfl) ?_
      refine then_n ?_
      refine W.fresh ?_
      intro r218 er219
      have s220 : r218 3 = .int .i64 id := (congrFun er219 3).trans s154
      have s221 : r218 4 = .pointer (some ⟨b4, 0, none⟩) := (congrFun er219 4).trans s155
      have s222 : r218 5 = .pointer (some ⟨b12, 0, none⟩) := (congrFun er219 5).trans s156
      have s223 : r218 81 = .bool false := (congrFun er219 81).trans rfl
      clear er219
      refine W.condF rfl s223 ?_
      refine W.skip ?_
      refine then_n ?_
      refine W.seq ?_
      refine W.reg ?_
      have h225 := h185.gr g178
      have h226 := h225.gr g197
      have h227 := h226.gr g213
      refine W.val rfl rfl (X.loadR (ev' (.pointer (some ⟨b4, 0, none⟩)) rfl s221) rt24 (row_blk_trade h227) rfl) ?_
      have h228 := h123.gr g118
      have h229 := h228.st c133 ne110
      have h230 := h229.st c139 ne124
      have h231 := h230.gr g163
      have h232 := h231.gr g178
      have h233 := h232.gr g197
      have h234 := h233.gr g213
      refine W.val rfl rfl (X.loadR (ev' (.pointer (some ⟨b12, 0, none⟩)) rfl s222) rt30 (row_blk_msg h234) rfl) ?_
      refine W.val rfl rfl (X.move (ev' (.int .i64 id) rfl s220)) ?_
      have h235 := h208.gr g213
      have h236 := h209.gr g213
      refine W.call rfl rfl (X.callF go22 (args3 (ev' (T.val) rfl rfl) (ev' (.agg m.arr) rfl rfl) (ev' (.int .i64 id) rfl rfl))) (ttake_c m id _ h235 h236) ?_
      rintro _ w237 ⟨T238, s239, rfl, hT240, hS241, g242⟩
      have R243 := R214.gr g242
      refine W.val rfl rfl (X.move (ev' (.tuple #[T238.val, s239.val, .bool ((takeR t m id).2.2.1), .int .i64 ((takeR t m id).2.2.2)]) rfl rfl)) ?_
      refine W.val rfl rfl (X.extract (ev' (.tuple #[T238.val, s239.val, .bool ((takeR t m id).2.2.1), .int .i64 ((takeR t m id).2.2.2)]) rfl rfl) rfl) ?_
      refine W.val rfl rfl (X.extract (ev' (.tuple #[T238.val, s239.val, .bool ((takeR t m id).2.2.1), .int .i64 ((takeR t m id).2.2.2)]) rfl rfl) rfl) ?_
      refine W.val rfl rfl (X.extract (ev' (.tuple #[T238.val, s239.val, .bool ((takeR t m id).2.2.1), .int .i64 ((takeR t m id).2.2.2)]) rfl rfl) rfl) ?_
      refine W.val rfl rfl (X.extract (ev' (.tuple #[T238.val, s239.val, .bool ((takeR t m id).2.2.1), .int .i64 ((takeR t m id).2.2.2)]) rfl rfl) rfl) ?_
      refine W.eff rfl rfl (Y.alloc (cs := TV.zero.arr) zero24 rfl) ?_
      rintro _ w246 ⟨b247, rfl, g248, hB249, lt250⟩
      have h251 := h227.gr g242
      have ne252 := h251.ne lt250
      have h253 := h234.gr g242
      have ne254 := h253.ne lt250
      have h255 := h171.gr g178
      have h256 := h255.gr g197
      have h257 := h256.gr g213
      have h258 := h257.gr g242
      have ne259 := h258.ne lt250
      have h260 := h167.gr g178
      have h261 := h260.gr g197
      have h262 := h261.gr g213
      have h263 := h262.gr g242
      have ne264 := h263.ne lt250
      have h265 := h181.gr g178
      have h266 := h265.gr g197
      have h267 := h266.gr g213
      have h268 := h267.gr g242
      have ne269 := h268.ne lt250
      have l270 := Nat.le_trans R243.size lt250
      have R271 := R243.gr g248
      refine W.eff0 rfl rfl (Y.storeW (ds := T238.arr) (ev' (.pointer (some ⟨b247, 0, none⟩)) rfl rfl) (ev' (T238.val) rfl rfl) hB249 (n := 4) rfl sz24 rfl (TV.oneCell _) rfl) ?_
      rintro w273 ⟨c274, hB275⟩
      have R276 := R271.stN c274 l270
      refine W.val rfl rfl (X.assign (ev' (s239.val) rfl rfl)) ?_
      refine W.val rfl rfl (X.assign (ev' (.bool ((takeR t m id).2.2.1)) rfl rfl)) ?_
      refine W.val rfl rfl (X.assign (ev' (.int .i64 ((takeR t m id).2.2.2)) rfl rfl)) ?_
      refine W.nil ?_
      refine then_n ?_
      refine W.fresh ?_
      intro r278 er279
      have s280 : r278 3 = .int .i64 id := (congrFun er279 3).trans s220
      have s281 : r278 4 = .pointer (some ⟨b4, 0, none⟩) := (congrFun er279 4).trans s221
      have s282 : r278 5 = .pointer (some ⟨b12, 0, none⟩) := (congrFun er279 5).trans s222
      have s283 : r278 12 = .pointer (some ⟨b247, 0, none⟩) := (congrFun er279 12).trans rfl
      have s284 : r278 13 = s239.val := (congrFun er279 13).trans rfl
      have s285 : r278 14 = .bool ((takeR t m id).2.2.1) := (congrFun er279 14).trans rfl
      have s286 : r278 15 = .int .i64 ((takeR t m id).2.2.2) := (congrFun er279 15).trans rfl
      clear er279
      refine W.seq ?_
      refine W.seq ?_
      refine W.reg ?_
      refine W.val rfl rfl (X.move (ev' (.int .i64 ((takeR t m id).2.2.2)) rfl s286)) ?_
      refine W.val rfl rfl (X.neq (ev' (.int .i64 ((takeR t m id).2.2.2)) rfl rfl) (evc' (.int .i64 0))) ?_
      refine W.nil ?_
      refine then_n ?_
      refine W.fresh ?_
      intro r287 er288
      have s289 : r287 3 = .int .i64 id := (congrFun er288 3).trans s280
      have s290 : r287 4 = .pointer (some ⟨b4, 0, none⟩) := (congrFun er288 4).trans s281
      have s291 : r287 5 = .pointer (some ⟨b12, 0, none⟩) := (congrFun er288 5).trans s282
      have s292 : r287 12 = .pointer (some ⟨b247, 0, none⟩) := (congrFun er288 12).trans s283
      have s293 : r287 13 = s239.val := (congrFun er288 13).trans s284
      have s294 : r287 14 = .bool ((takeR t m id).2.2.1) := (congrFun er288 14).trans s285
      have s295 : r287 96 = .bool (((takeR t m id).2.2.2 : Int) != (0 : Int)) := (congrFun er288 96).trans rfl
      clear er288
      refine W.cond rfl s295 (fun k296 => ?_) (fun k296 => ?_)
      · skip
        have h0 : (takeR t m id).2.2.2 ≠ 0 := by simpa using k296
        refine W.seq ?_
        refine W.reg ?_
        refine W.val rfl rfl (X.loadR (ev' (.pointer (some ⟨b247, 0, none⟩)) rfl s292) rt24 (row_blk_trade hB275) rfl) ?_
        refine W.val rfl rfl X.build24 ?_
        have h297 := (hT240.ext lt250).gr g248
        have h298 := h297.st c274 (.head _)
        refine W.call rfl rfl (X.callF go14 (args2 (ev' (T238.val) rfl rfl) (ev' (TV.zero.val) rfl rfl))) (sameT_c _ h298 (Tr.zero_ (b247 :: b117 :: b101 :: b21 :: b12 :: b4 :: bs) _)) ?_
        rintro _ w299 ⟨rfl, g300⟩
        have R301 := R276.gr g300
        refine W.val rfl rfl (eqv (X.move (ev' (.bool (sameT ((takeR t m id).1) Trade.zero)) rfl rfl)) (show (sameT ((takeR t m id).1) Trade.zero) = true from err_same h0)) ?_
        refine W.valL rfl rfl rfl rfl rfl rfl (X.move (ev' (s239.val) rfl s293)) ?_
        refine W.valL rfl rfl rfl rfl rfl rfl (X.len (ev' (s239.val) rfl rfl) st22) ?_
        have h302 := (hS241.ext lt250).gr g248
        have h303 := h302.st c274 (.head _)
        have h304 := h303.gr g300
        refine W.valL rfl rfl rfl rfl rfl rfl (eqv (X.eql (ev' (.int .i64 (s239.n : Int)) rfl rfl) (evc' (.int .i64 0))) (show (((s239.n : Int) : Int) == (0 : Int)) = true from err_len h0 h304.len)) ?_
        refine W.val rfl rfl (X.and (ev' (.bool true) rfl rfl) (ev' (gv (true == true) (.bool true)) rfl rfl)) ?_
        refine W.val rfl rfl (X.move (ev' (.bool true) rfl rfl)) ?_
        refine W.valL rfl rfl rfl rfl rfl rfl (X.move (ev' (.bool ((takeR t m id).2.2.1)) rfl s294)) ?_
        refine W.valL rfl rfl rfl rfl rfl rfl (eqv (X.not (ev' (.bool ((takeR t m id).2.2.1)) rfl rfl)) (show (!((takeR t m id).2.2.1)) = true from err_fresh h0)) ?_
        refine W.val rfl rfl (X.and (ev' (.bool true) rfl rfl) (ev' (gv (true == true) (.bool true)) rfl rfl)) ?_
        refine W.val rfl rfl (X.assign (ev' (.bool true) rfl rfl)) ?_
        refine W.nil ?_
        refine then_n ?_
        refine W.fresh ?_
        intro r305 er306
        have s307 : r305 8 = .bool true := (congrFun er306 8).trans rfl
        clear er306
        refine W.ret (then_r (retT rfl rfl (show _ = (.bool true : Value) from s307) ⟨?_, R301⟩))
        rfl
      · skip
        have h0 : (takeR t m id).2.2.2 = 0 := by simpa using k296
        have hag := again_take (by omega) h0
        have hbd := again_bound h0 hfew
        refine W.skip ?_
        refine then_n ?_
        refine W.seq ?_
        refine W.reg ?_
        refine W.val rfl rfl (X.loadR (ev' (.pointer (some ⟨b247, 0, none⟩)) rfl s292) rt24 (row_blk_trade hB275) rfl) ?_
        have h308 := h253.gr g248
        have h309 := h308.st c274 ne254
        refine W.val rfl rfl (X.loadR (ev' (.pointer (some ⟨b12, 0, none⟩)) rfl s291) rt30 (row_blk_msg h309) rfl) ?_
        refine W.val rfl rfl (X.move (ev' (.int .i64 id) rfl s289)) ?_
        have h310 := (hT240.ext lt250).gr g248
        have h311 := h310.st c274 (.head _)
        have h312 := h236.gr g242
        have h313 := h312.new g248 hB249.lt
        have h314 := h313.gr c274
        refine W.call rfl rfl (X.callF go22 (args3 (ev' (T238.val) rfl rfl) (ev' (.agg m.arr) rfl rfl) (ev' (.int .i64 id) rfl rfl))) (ttake_c m id _ h311 h314) ?_
        rintro _ w315 ⟨T316, s317, rfl, hT318, hS319, g320⟩
        have R321 := R276.gr g320
        rw [hag.1]
        have hT322 : Tr (b247 :: b117 :: b101 :: b21 :: b12 :: b4 :: bs) w315 T316 ((takeR t m id).1) := by rw [hag.1] at hT318; exact hT318
        have hS323 : Sl (b247 :: b117 :: b101 :: b21 :: b12 :: b4 :: bs) w315 s317 ((takeR t m id).2.1) := by rw [hag.1] at hS319; exact hS319
        refine W.val rfl rfl (X.move (ev' (.tuple #[T316.val, s317.val, .bool false, .int .i64 0]) rfl rfl)) ?_
        refine W.val rfl rfl (X.extract (ev' (.tuple #[T316.val, s317.val, .bool false, .int .i64 0]) rfl rfl) rfl) ?_
        refine W.val rfl rfl (X.extract (ev' (.tuple #[T316.val, s317.val, .bool false, .int .i64 0]) rfl rfl) rfl) ?_
        refine W.val rfl rfl (X.extract (ev' (.tuple #[T316.val, s317.val, .bool false, .int .i64 0]) rfl rfl) rfl) ?_
        refine W.val rfl rfl (X.extract (ev' (.tuple #[T316.val, s317.val, .bool false, .int .i64 0]) rfl rfl) rfl) ?_
        refine W.eff rfl rfl (Y.alloc (cs := TV.zero.arr) zero24 rfl) ?_
        rintro _ w326 ⟨b327, rfl, g328, hB329, lt330⟩
        have h331 := h251.gr g248
        have h332 := h331.st c274 ne252
        have h333 := h332.gr g320
        have ne334 := h333.ne lt330
        have h335 := h309.gr g320
        have ne336 := h335.ne lt330
        have h337 := h258.gr g248
        have h338 := h337.st c274 ne259
        have h339 := h338.gr g320
        have ne340 := h339.ne lt330
        have h341 := h263.gr g248
        have h342 := h341.st c274 ne264
        have h343 := h342.gr g320
        have ne344 := h343.ne lt330
        have h345 := h268.gr g248
        have h346 := h345.st c274 ne269
        have h347 := h346.gr g320
        have ne348 := h347.ne lt330
        have h349 := hB275.gr g320
        have ne350 := h349.ne lt330
        have l351 := Nat.le_trans R321.size lt330
        have R352 := R321.gr g328
        refine W.eff0 rfl rfl (Y.storeW (ds := T316.arr) (ev' (.pointer (some ⟨b327, 0, none⟩)) rfl rfl) (ev' (T316.val) rfl rfl) hB329 (n := 4) rfl sz24 rfl (TV.oneCell _) rfl) ?_
        rintro w354 ⟨c355, hB356⟩
        have R357 := R352.stN c355 l351
        refine W.val rfl rfl (X.assign (ev' (s317.val) rfl rfl)) ?_
        refine W.val rfl rfl (X.assign (ev' (.bool false) rfl rfl)) ?_
        refine W.val rfl rfl (X.assign (ev' (.int .i64 0) rfl rfl)) ?_
        refine W.nil ?_
        refine then_n ?_
        refine W.fresh ?_
        intro r359 er360
        have s361 : r359 3 = .int .i64 id := (congrFun er360 3).trans s289
        have s362 : r359 4 = .pointer (some ⟨b4, 0, none⟩) := (congrFun er360 4).trans s290
        have s363 : r359 5 = .pointer (some ⟨b12, 0, none⟩) := (congrFun er360 5).trans s291
        have s364 : r359 12 = .pointer (some ⟨b247, 0, none⟩) := (congrFun er360 12).trans s292
        have s365 : r359 13 = s239.val := (congrFun er360 13).trans s293
        have s366 : r359 14 = .bool ((takeR t m id).2.2.1) := (congrFun er360 14).trans s294
        have s367 : r359 16 = .pointer (some ⟨b327, 0, none⟩) := (congrFun er360 16).trans rfl
        have s368 : r359 17 = s317.val := (congrFun er360 17).trans rfl
        have s369 : r359 18 = .bool false := (congrFun er360 18).trans rfl
        have s370 : r359 19 = .int .i64 0 := (congrFun er360 19).trans rfl
        clear er360
        refine W.seq ?_
        refine W.seq ?_
        refine W.reg ?_
        refine W.val rfl rfl (X.move (ev' (.int .i64 0) rfl s370)) ?_
        refine W.val rfl rfl (eqv (X.neq (ev' (.int .i64 0) rfl rfl) (evc' (.int .i64 0))) (show ((0 : Int) != (0 : Int)) = false from by decide)) ?_
        refine W.val rfl rfl (X.move (ev' (.bool false) rfl rfl)) ?_
        refine W.valL rfl rfl rfl rfl rfl rfl (X.move (ev' (.bool false) rfl s369)) ?_
        refine W.val rfl rfl (X.or (ev' (.bool false) rfl rfl) (ev' (gv (false == false) (.bool false)) rfl rfl)) ?_
        refine W.val rfl rfl (X.move (ev' (.bool false) rfl rfl)) ?_
        have h371 := h349.gr g328
        have h372 := h371.st c355 ne350
        refine W.valL rfl rfl rfl rfl rfl rfl (X.loadR (ev' (.pointer (some ⟨b247, 0, none⟩)) rfl s364) rt24 (row_blk_trade h372) rfl) ?_
        refine W.valL rfl rfl rfl rfl rfl rfl (X.loadR (ev' (.pointer (some ⟨b327, 0, none⟩)) rfl s367) rt24 (row_blk_trade hB356) rfl) ?_
        have h373 := h311.gr g320
        have h374 := (h373.ext lt330).gr g328
        have h375 := h374.st c355 (.head _)
        have h376 := (hT322.ext lt330).gr g328
        have h377 := h376.st c355 (.head _)
        refine W.callL rfl rfl rfl rfl rfl rfl (X.callF go14 (args2 (ev' (T238.val) rfl rfl) (ev' (T316.val) rfl rfl))) (sameT_c _ h375 h377) ?_
        rintro _ w378 ⟨rfl, g379⟩
        have R380 := R357.gr g379
        refine W.valL rfl rfl rfl rfl rfl rfl (eqv (X.not (ev' (.bool (sameT ((takeR t m id).1) ((takeR t m id).1))) rfl rfl)) (show (!(sameT ((takeR t m id).1) ((takeR t m id).1))) = false from congrArg (!·) (sameT_refl _))) ?_
        refine W.val rfl rfl (X.or (ev' (.bool false) rfl rfl) (ev' (gv (false == false) (.bool false)) rfl rfl)) ?_
        refine W.val rfl rfl (X.move (ev' (.bool false) rfl rfl)) ?_
        refine W.valL rfl rfl rfl rfl rfl rfl (X.move (ev' (s239.val) rfl s365)) ?_
        refine W.valL rfl rfl rfl rfl rfl rfl (X.move (ev' (s317.val) rfl s368)) ?_
        have h381 := (hS241.ext lt250).gr g248
        have h382 := h381.st c274 (.head _)
        have h383 := h382.gr g320
        have h384 := (h383.ext lt330).gr g328
        have h385 := h384.st c355 (.head _)
        have h386 := h385.gr g379
        have h387 := (hS323.ext lt330).gr g328
        have h388 := h387.st c355 (.head _)
        have h389 := h388.gr g379
        refine W.callL rfl rfl rfl rfl rfl rfl (X.callF go18 (args2 (ev' (s239.val) rfl rfl) (ev' (s317.val) rfl rfl))) (sameL_c _ h386 h389) ?_
        rintro _ w390 ⟨rfl, g391⟩
        have R392 := R380.gr g391
        refine W.valL rfl rfl rfl rfl rfl rfl (eqv (X.not (ev' (.bool (sameL ((takeR t m id).2.1) ((takeR t m id).2.1))) rfl rfl)) (show (!(sameL ((takeR t m id).2.1) ((takeR t m id).2.1))) = false from congrArg (!·) (sameL_refl _))) ?_
        refine W.val rfl rfl (X.or (ev' (.bool false) rfl rfl) (ev' (gv (false == false) (.bool false)) rfl rfl)) ?_
        refine W.val rfl rfl (X.move (ev' (.bool false) rfl rfl)) ?_
        have h393 := h372.gr g379
        have h394 := h393.gr g391
        refine W.valL rfl rfl rfl rfl rfl rfl (X.loadR (ev' (.pointer (some ⟨b247, 0, none⟩)) rfl s364) rt24 (row_blk_trade h394) rfl) ?_
        refine W.valL rfl rfl rfl rfl rfl rfl (X.move (ev' (.int .i64 id) rfl s361)) ?_
        have h395 := h375.gr g379
        have h396 := h395.gr g391
        refine W.callL rfl rfl rfl rfl rfl rfl (X.callF go16 (args2 (ev' (T238.val) rfl rfl) (ev' (.int .i64 id) rfl rfl))) (tcheck_c id _ h396) ?_
        rintro _ w397 ⟨rfl, g398⟩
        have R399 := R392.gr g398
        refine W.valL rfl rfl rfl rfl rfl rfl (eqv (X.neq (ev' (.int .i64 (chk ((takeR t m id).1) id)) rfl rfl) (evc' (.int .i64 0))) (show ((chk ((takeR t m id).1) id : Int) != (0 : Int)) = false from ne_no (chk_iff.2 hag.2))) ?_
        refine W.val rfl rfl (X.or (ev' (.bool false) rfl rfl) (ev' (gv (false == false) (.bool false)) rfl rfl)) ?_
        refine W.nil ?_
        refine then_n ?_
        refine W.fresh ?_
        intro r400 er401
        have s402 : r400 3 = .int .i64 id := (congrFun er401 3).trans s361
        have s403 : r400 4 = .pointer (some ⟨b4, 0, none⟩) := (congrFun er401 4).trans s362
        have s404 : r400 5 = .pointer (some ⟨b12, 0, none⟩) := (congrFun er401 5).trans s363
        have s405 : r400 12 = .pointer (some ⟨b247, 0, none⟩) := (congrFun er401 12).trans s364
        have s406 : r400 13 = s239.val := (congrFun er401 13).trans s365
        have s407 : r400 14 = .bool ((takeR t m id).2.2.1) := (congrFun er401 14).trans s366
        have s408 : r400 140 = .bool false := (congrFun er401 140).trans rfl
        clear er401
        refine W.condF rfl s408 ?_
        refine W.skip ?_
        refine then_n ?_
        refine W.seq ?_
        refine W.seq ?_
        refine W.reg ?_
        refine W.val rfl rfl (X.move (ev' (.bool ((takeR t m id).2.2.1)) rfl s407)) ?_
        refine W.val rfl rfl (X.not (ev' (.bool ((takeR t m id).2.2.1)) rfl rfl)) ?_
        refine W.val rfl rfl (X.move (ev' (.bool (!((takeR t m id).2.2.1))) rfl rfl)) ?_
        have h410 := h394.gr g398
        refine W.gq rfl rfl rfl rfl rfl (fun _ => (X.loadR (ev' (.pointer (some ⟨b247, 0, none⟩)) rfl s405) rt24 (row_blk_trade h410) rfl)) ?_
        have h411 := h333.gr g328
        have h412 := h411.st c355 ne334
        have h413 := h412.gr g379
        have h414 := h413.gr g391
        have h415 := h414.gr g398
        refine W.gq rfl rfl rfl rfl rfl (fun _ => (X.loadR (ev' (.pointer (some ⟨b4, 0, none⟩)) rfl s403) rt24 (row_blk_trade h415) rfl)) ?_
        have h416 := h396.gr g398
        have h417 := h235.gr g242
        have h418 := (h417.ext lt250).gr g248
        have h419 := h418.st c274 (.head _)
        have h420 := h419.gr g320
        have h421 := (h420.ext lt330).gr g328
        have h422 := h421.st c355 (.head _)
        have h423 := h422.gr g379
        have h424 := h423.gr g391
        have h425 := h424.gr g398
        refine W.gcallS rfl rfl rfl rfl rfl (fun hc => X.callF go14 (args2 (ev' (T238.val) rfl (gvt hc rfl)) (ev' (T.val) rfl (gvt hc rfl)))) (fun _ => (sameT_c _ h416 h425)) ?_
        intro w426 g427
        have R428 := R399.gr g427
        refine W.gq rfl rfl rfl rfl rfl (fun hc => (X.not (ev' (.bool (sameT ((takeR t m id).1) t)) rfl (gvt hc rfl)))) ?_
        refine W.val rfl rfl (eqv (X.and (ev' (.bool (!((takeR t m id).2.2.1))) rfl rfl) (ev' (gv ((!((takeR t m id).2.2.1)) == true) (.bool (!(sameT ((takeR t m id).1) t)))) rfl rfl)) (show ((!((takeR t m id).2.2.1)) && (!(sameT ((takeR t m id).1) t))) = false from again_ns h0)) ?_
        refine W.nil ?_
        refine then_n ?_
        refine W.fresh ?_
        intro r429 er430
        have s431 : r429 3 = .int .i64 id := (congrFun er430 3).trans s402
        have s432 : r429 4 = .pointer (some ⟨b4, 0, none⟩) := (congrFun er430 4).trans s403
        have s433 : r429 5 = .pointer (some ⟨b12, 0, none⟩) := (congrFun er430 5).trans s404
        have s434 : r429 12 = .pointer (some ⟨b247, 0, none⟩) := (congrFun er430 12).trans s405
        have s435 : r429 13 = s239.val := (congrFun er430 13).trans s406
        have s436 : r429 14 = .bool ((takeR t m id).2.2.1) := (congrFun er430 14).trans s407
        have s437 : r429 148 = .bool false := (congrFun er430 148).trans rfl
        clear er430
        refine W.condF rfl s437 ?_
        refine W.skip ?_
        refine then_n ?_
        refine W.seq ?_
        refine W.seq ?_
        refine W.reg ?_
        refine W.val rfl rfl (X.move (ev' (s239.val) rfl s435)) ?_
        refine W.val rfl rfl (X.len (ev' (s239.val) rfl rfl) st22) ?_
        refine W.val rfl rfl (X.move (evc' (.int .i64 0))) ?_
        refine W.nil ?_
        refine then_n ?_
        refine W.fresh ?_
        intro r439 er440
        have s441 : r439 3 = .int .i64 id := (congrFun er440 3).trans s431
        have s442 : r439 4 = .pointer (some ⟨b4, 0, none⟩) := (congrFun er440 4).trans s432
        have s443 : r439 5 = .pointer (some ⟨b12, 0, none⟩) := (congrFun er440 5).trans s433
        have s444 : r439 12 = .pointer (some ⟨b247, 0, none⟩) := (congrFun er440 12).trans s434
        have s445 : r439 14 = .bool ((takeR t m id).2.2.1) := (congrFun er440 14).trans s436
        have s446 : r439 149 = s239.val := (congrFun er440 149).trans rfl
        have s447 : r439 150 = .int .i64 (s239.n : Int) := (congrFun er440 150).trans rfl
        have s448 : r439 151 = .int .i64 0 := (congrFun er440 151).trans rfl
        clear er440
        refine W.block ?_
        have h449 := h386.gr g391
        have h450 := h449.gr g398
        have h451 := h450.gr g427
        refine W.fresh ?_
        intro r452 er453
        have s454 : r452 3 = .int .i64 id := (congrFun er453 3).trans s441
        have s455 : r452 4 = .pointer (some ⟨b4, 0, none⟩) := (congrFun er453 4).trans s442
        have s456 : r452 5 = .pointer (some ⟨b12, 0, none⟩) := (congrFun er453 5).trans s443
        have s457 : r452 12 = .pointer (some ⟨b247, 0, none⟩) := (congrFun er453 12).trans s444
        have s458 : r452 14 = .bool ((takeR t m id).2.2.1) := (congrFun er453 14).trans s445
        have s459 : r452 149 = s239.val := (congrFun er453 149).trans s446
        have s460 : r452 150 = .int .i64 (s239.n : Int) := (congrFun er453 150).trans s447
        have s461 : r452 151 = .int .i64 0 := (congrFun er453 151).trans s448
        clear er453
        refine W.count 151 s239.n (fun I ρ W => I ≤ s239.n ∧ ρ 151 = .int .i64 ((I : Nat) : Int) ∧ Chg [] w426 W ∧ ρ 3 = .int .i64 id ∧ ρ 4 = .pointer (some ⟨b4, 0, none⟩) ∧ ρ 5 = .pointer (some ⟨b12, 0, none⟩) ∧ ρ 12 = .pointer (some ⟨b247, 0, none⟩) ∧ ρ 14 = .bool ((takeR t m id).2.2.1) ∧ ρ 149 = s239.val ∧ ρ 150 = .int .i64 (s239.n : Int)) 0 rfl
          ⟨Nat.zero_le _, s461, Chg.of_refl _ _, s454, s455, s456, s457, s458, s459, s460⟩ (fun I ρ W hJ => ⟨hJ.2.1, hJ.1⟩) ?_
        rintro i462 r463 w464 ⟨le465, s466, R467, s468, s469, s470, s471, s472, s473, s474⟩
        have R480 := R428.gr R467
        refine W.seq ?_
        refine W.reg ?_
        refine W.val rfl rfl (X.lss (ev' (.int .i64 ((i462 : Nat) : Int)) rfl s466) (ev' (.int .i64 (s239.n : Int)) rfl s474)) ?_
        refine W.nil ?_
        refine then_n ?_
        refine W.fresh ?_
        intro r481 er482
        have s483 : r481 3 = .int .i64 id := (congrFun er482 3).trans s468
        have s484 : r481 4 = .pointer (some ⟨b4, 0, none⟩) := (congrFun er482 4).trans s469
        have s485 : r481 5 = .pointer (some ⟨b12, 0, none⟩) := (congrFun er482 5).trans s470
        have s486 : r481 12 = .pointer (some ⟨b247, 0, none⟩) := (congrFun er482 12).trans s471
        have s487 : r481 14 = .bool ((takeR t m id).2.2.1) := (congrFun er482 14).trans s472
        have s488 : r481 149 = s239.val := (congrFun er482 149).trans s473
        have s489 : r481 150 = .int .i64 (s239.n : Int) := (congrFun er482 150).trans s474
        have s490 : r481 151 = .int .i64 ((i462 : Nat) : Int) := (congrFun er482 151).trans s466
        have s491 : r481 152 = .bool (decide ((((i462 : Nat) : Int) : Int) < ((s239.n : Int) : Int))) := (congrFun er482 152).trans rfl
        clear er482
        refine W.seq ?_
        refine W.cond rfl s491 (fun k492 => ?_) (fun k492 => ?_)
        · skip
          have lt479 : i462 < s239.n := Int.ofNat_lt.1 (of_decide_eq_true k492)
          refine W.skip ?_
          refine then_n ?_
          refine W.seq ?_
          refine W.block ?_
          refine W.seq ?_
          refine W.reg ?_
          have h495 := h451.gr R467
          obtain ⟨m493, hm494⟩ := some_of_lt (h495.len ▸ lt479)
          obtain ⟨eb496, eo497, ha498, lt499, hr500⟩ := Sl.rowAt h495 hm494
          refine W.val rfl rfl (X.idx (b := ⟨eb496, eo497 + i462 * 43, none⟩) (evs ha498 (ev' (s239.val) rfl s488)) (ev' (.int .i64 ((i462 : Nat) : Int)) rfl s490) (Int.natCast_nonneg _) (Int.ofNat_lt.2 lt499) st22 sz30 (Addr.add_lit _ _ _)) ?_
          refine W.val rfl rfl (X.loadR (ev' (.pointer (some ⟨eb496, eo497 + i462 * 43, none⟩)) rfl rfl) rt30 hr500.r rfl) ?_
          refine W.eff rfl rfl (Y.alloc (cs := Msg.zero.arr) zero30 rfl) ?_
          rintro _ w502 ⟨b503, rfl, g504, hB505, lt506⟩
          have h507 := h415.gr g427
          have h508 := h507.gr R467
          have ne509 := h508.ne lt506
          have h510 := h335.gr g328
          have h511 := h510.st c355 ne336
          have h512 := h511.gr g379
          have h513 := h512.gr g391
          have h514 := h513.gr g398
          have h515 := h514.gr g427
          have h516 := h515.gr R467
          have ne517 := h516.ne lt506
          have h518 := h339.gr g328
          have h519 := h518.st c355 ne340
          have h520 := h519.gr g379
          have h521 := h520.gr g391
          have h522 := h521.gr g398
          have h523 := h522.gr g427
          have h524 := h523.gr R467
          have ne525 := h524.ne lt506
          have h526 := h343.gr g328
          have h527 := h526.st c355 ne344
          have h528 := h527.gr g379
          have h529 := h528.gr g391
          have h530 := h529.gr g398
          have h531 := h530.gr g427
          have h532 := h531.gr R467
          have ne533 := h532.ne lt506
          have h534 := h347.gr g328
          have h535 := h534.st c355 ne348
          have h536 := h535.gr g379
          have h537 := h536.gr g391
          have h538 := h537.gr g398
          have h539 := h538.gr g427
          have h540 := h539.gr R467
          have ne541 := h540.ne lt506
          have h542 := h410.gr g427
          have h543 := h542.gr R467
          have ne544 := h543.ne lt506
          have h545 := hB356.gr g379
          have h546 := h545.gr g391
          have h547 := h546.gr g398
          have h548 := h547.gr g427
          have h549 := h548.gr R467
          have ne550 := h549.ne lt506
          have l551 := Nat.le_trans R480.size lt506
          have l552 := Nat.le_trans R467.size lt506
          have R553 := R480.gr g504
          have R554 := R467.gr g504
          refine W.eff0 rfl rfl (Y.storeW (ds := m493.arr) (ev' (.pointer (some ⟨b503, 0, none⟩)) rfl rfl) (ev' (.agg m493.arr) rfl rfl) hB505 (Msg.size_arr _) sz30 (Msg.size_arr _) (Msg.oneCellA _) rfl) ?_
          rintro w556 ⟨c557, hB558⟩
          have R559 := R553.stN c557 l551
          have R560 := R554.stN c557 l552
          refine W.nil ?_
          refine then_n ?_
          refine W.fresh ?_
          intro r562 er563
          have s564 : r562 3 = .int .i64 id := (congrFun er563 3).trans s483
          have s565 : r562 4 = .pointer (some ⟨b4, 0, none⟩) := (congrFun er563 4).trans s484
          have s566 : r562 5 = .pointer (some ⟨b12, 0, none⟩) := (congrFun er563 5).trans s485
          have s567 : r562 12 = .pointer (some ⟨b247, 0, none⟩) := (congrFun er563 12).trans s486
          have s568 : r562 14 = .bool ((takeR t m id).2.2.1) := (congrFun er563 14).trans s487
          have s569 : r562 21 = .pointer (some ⟨b503, 0, none⟩) := (congrFun er563 21).trans rfl
          have s570 : r562 149 = s239.val := (congrFun er563 149).trans s488
          have s571 : r562 150 = .int .i64 (s239.n : Int) := (congrFun er563 150).trans s489
          have s572 : r562 151 = .int .i64 ((i462 : Nat) : Int) := (congrFun er563 151).trans s490
          clear er563
          refine W.seq ?_
          refine W.reg ?_
          refine W.val rfl rfl (X.fieldAddr (ev' (.pointer (some ⟨b503, 0, none⟩)) rfl s569) fo30_1 (b := ⟨b503, 1, none⟩) (Addr.add_lit _ _ _)) ?_
          refine W.val rfl rfl (X.load (ev' (.pointer (some ⟨b503, 1, none⟩)) rfl rfl) pt3 (Blk.lc hB558 (Msg.arr1 _))) ?_
          refine W.val rfl rfl (X.move (ev' (.int .i64 id) rfl s564)) ?_
          refine W.val rfl rfl (X.neq (ev' (.int .i64 m493.frm) rfl rfl) (ev' (.int .i64 id) rfl rfl)) ?_
          refine W.val rfl rfl (X.move (ev' (.bool ((m493.frm : Int) != (id : Int))) rfl rfl)) ?_
          refine W.gq rfl rfl rfl rfl rfl (fun _ => (X.fieldAddr (ev' (.pointer (some ⟨b503, 0, none⟩)) rfl s569) fo30_2 (b := ⟨b503, 2, none⟩) (Addr.add_lit _ _ _))) ?_
          refine W.gq rfl rfl rfl rfl rfl (fun hc => (X.load (ev' (.pointer (some ⟨b503, 2, none⟩)) rfl (gvt hc rfl)) pt3 (Blk.lc hB558 (Msg.arr2 _)))) ?_
          refine W.gq rfl rfl rfl rfl rfl (fun _ => (X.fieldAddr (ev' (.pointer (some ⟨b12, 0, none⟩)) rfl s566) fo30_1 (b := ⟨b12, 1, none⟩) (Addr.add_lit _ _ _))) ?_
          have h573 := h516.gr g504
          have h574 := h573.st c557 ne517
          refine W.gq rfl rfl rfl rfl rfl (fun hc => (X.load (ev' (.pointer (some ⟨b12, 1, none⟩)) rfl (gvt hc rfl)) pt3 (Blk.lc h574 (Msg.arr1 _)))) ?_
          refine W.gq rfl rfl rfl rfl rfl (fun hc => (X.neq (ev' (.int .i64 m493.to) rfl (gvt hc rfl)) (ev' (.int .i64 m.frm) rfl (gvt hc rfl)))) ?_
          refine W.valN rfl rfl (X.or (ev' (.bool ((m493.frm : Int) != (id : Int))) rfl rfl) (ev' (gv (((m493.frm : Int) != (id : Int)) == false) (.bool ((m493.to : Int) != (m.frm : Int)))) rfl rfl)) ?_
          intro q575 eq575
          refine W.val rfl rfl (X.move (ev' (.bool q575) rfl rfl)) ?_
          refine W.gq rfl rfl rfl rfl rfl (fun _ => (X.fieldAddr (ev' (.pointer (some ⟨b503, 0, none⟩)) rfl s569) fo30_3 (b := ⟨b503, 3, none⟩) (Addr.add_lit _ _ _))) ?_
          refine W.gq rfl rfl rfl rfl rfl (fun hc => (X.load (ev' (.pointer (some ⟨b503, 3, none⟩)) rfl (gvt hc rfl)) pt3 (Blk.lc hB558 (Msg.arr3 _)))) ?_
          refine W.gq rfl rfl rfl rfl rfl (fun _ => (X.fieldAddr (ev' (.pointer (some ⟨b12, 0, none⟩)) rfl s566) fo30_3 (b := ⟨b12, 3, none⟩) (Addr.add_lit _ _ _))) ?_
          refine W.gq rfl rfl rfl rfl rfl (fun hc => (X.load (ev' (.pointer (some ⟨b12, 3, none⟩)) rfl (gvt hc rfl)) pt3 (Blk.lc h574 (Msg.arr3 _)))) ?_
          refine W.gq rfl rfl rfl rfl rfl (fun hc => (X.neq (ev' (.int .i64 m493.no) rfl (gvt hc rfl)) (ev' (.int .i64 m.no) rfl (gvt hc rfl)))) ?_
          refine W.val rfl rfl (X.or (ev' (.bool q575) rfl rfl) (ev' (gv (q575 == false) (.bool ((m493.no : Int) != (m.no : Int)))) rfl rfl)) ?_
          refine W.nil ?_
          refine then_n ?_
          refine W.fresh ?_
          intro r576 er577
          have s578 : r576 3 = .int .i64 id := (congrFun er577 3).trans s564
          have s579 : r576 4 = .pointer (some ⟨b4, 0, none⟩) := (congrFun er577 4).trans s565
          have s580 : r576 5 = .pointer (some ⟨b12, 0, none⟩) := (congrFun er577 5).trans s566
          have s581 : r576 12 = .pointer (some ⟨b247, 0, none⟩) := (congrFun er577 12).trans s567
          have s582 : r576 14 = .bool ((takeR t m id).2.2.1) := (congrFun er577 14).trans s568
          have s583 : r576 149 = s239.val := (congrFun er577 149).trans s570
          have s584 : r576 150 = .int .i64 (s239.n : Int) := (congrFun er577 150).trans s571
          have s585 : r576 151 = .int .i64 ((i462 : Nat) : Int) := (congrFun er577 151).trans s572
          have s586 : r576 172 = .bool (q575 || ((m493.no : Int) != (m.no : Int))) := (congrFun er577 172).trans rfl
          clear er577
          refine W.cond rfl s586 (fun k587 => ?_) (fun k587 => ?_)
          · skip
            refine W.seq ?_
            refine W.reg ?_
            refine W.val rfl rfl (X.assign (evc' (.bool false))) ?_
            refine W.nil ?_
            refine then_n ?_
            refine W.fresh ?_
            intro r588 er589
            have s590 : r588 8 = .bool false := (congrFun er589 8).trans rfl
            clear er589
            refine W.ret (inb_r (then_r (then_r (inb_r (then_r (retT rfl rfl (show _ = (.bool false : Value) from s590) ⟨?_, R559⟩))))))
            subst eq575
            exact (again_el h0 (mem_of hm494) k587).elim
          · skip
            refine W.skip ?_
            refine inb_n ?_
            refine then_n ?_
            refine W.reg ?_
            refine W.val rfl rfl (X.inc (ev' (.int .i64 ((i462 : Nat) : Int)) rfl s585) (evc' (.int .i64 1)) lt479 h451.bnd) ?_
            refine W.val rfl rfl (X.move (ev' (.int .i64 ((i462 + 1 : Nat) : Int)) rfl rfl)) ?_
            refine W.nil ?_
            refine then_n ?_
            exact ⟨_, rfl, lt479, rfl, R560, s578, s579, s580, s581, s582, s583, s584⟩
        · skip
          have ei591 : i462 = s239.n := Nat.le_antisymm le465 (Nat.le_of_not_lt fun h => of_decide_eq_false k492 (Int.ofNat_lt.2 h))
          refine W.exit (then_x (then_x (inb_x ?_)))
          refine then_n ?_
          refine W.seq ?_
          refine W.reg ?_
          refine W.val rfl rfl (X.move (ev' (.bool ((takeR t m id).2.2.1)) rfl s487)) ?_
          refine W.val rfl rfl (X.fieldAddr (ev' (.pointer (some ⟨b247, 0, none⟩)) rfl s486) fo24_2 (b := ⟨b247, 2, none⟩) (Addr.add_lit _ _ _)) ?_
          have h592 := h410.gr g427
          have h593 := h592.gr R467
          refine W.val rfl rfl (X.load (ev' (.pointer (some ⟨b247, 2, none⟩)) rfl rfl) pt22 (Blk.lc h593 rfl)) ?_
          refine W.val rfl rfl (X.len (ev' (T238.r.val) rfl rfl) st22) ?_
          refine W.val rfl rfl (X.fieldAddr (ev' (.pointer (some ⟨b247, 0, none⟩)) rfl s486) fo24_3 (b := ⟨b247, 3, none⟩) (Addr.add_lit _ _ _)) ?_
          refine W.val rfl rfl (X.load (ev' (.pointer (some ⟨b247, 3, none⟩)) rfl rfl) pt22 (Blk.lc h593 rfl)) ?_
          refine W.val rfl rfl (X.len (ev' (T238.d.val) rfl rfl) st22) ?_
          have h594 := h416.gr g427
          have h595 := h594.gr R467
          refine W.val rfl rfl (X.addIn (ev' (.int .i64 (T238.r.n : Int)) rfl rfl) (ev' (.int .i64 (T238.d.n : Int)) rfl rfl) (by have := h595.r.len; have := h595.d.len; omega) (by have := h595.r.len; have := h595.d.len; omega)) ?_
          refine W.val rfl rfl (X.fieldAddr (ev' (.pointer (some ⟨b4, 0, none⟩)) rfl s484) fo24_2 (b := ⟨b4, 2, none⟩) (Addr.add_lit _ _ _)) ?_
          have h596 := h415.gr g427
          have h597 := h596.gr R467
          refine W.val rfl rfl (X.load (ev' (.pointer (some ⟨b4, 2, none⟩)) rfl rfl) pt22 (Blk.lc h597 rfl)) ?_
          refine W.val rfl rfl (X.len (ev' (T.r.val) rfl rfl) st22) ?_
          refine W.val rfl rfl (X.fieldAddr (ev' (.pointer (some ⟨b4, 0, none⟩)) rfl s484) fo24_3 (b := ⟨b4, 3, none⟩) (Addr.add_lit _ _ _)) ?_
          refine W.val rfl rfl (X.load (ev' (.pointer (some ⟨b4, 3, none⟩)) rfl rfl) pt22 (Blk.lc h597 rfl)) ?_
          refine W.val rfl rfl (X.len (ev' (T.d.val) rfl rfl) st22) ?_
          refine W.val rfl rfl (X.addIn (ev' (.int .i64 (T.r.n : Int)) rfl rfl) (ev' (.int .i64 (T.d.n : Int)) rfl rfl) (by have := ht.r.len; have := ht.d.len; omega) (by have := ht.r.len; have := ht.d.len; omega)) ?_
          refine W.val rfl rfl (X.addIn (ev' (.int .i64 ((T.r.n : Int) + (T.d.n : Int))) rfl rfl) (evc' (.int .i64 1)) (by have := ht.r.len; have := ht.d.len; omega) (by have := ht.r.len; have := ht.d.len; omega)) ?_
          refine W.val rfl rfl (X.eql (ev' (.int .i64 ((T238.r.n : Int) + (T238.d.n : Int))) rfl rfl) (ev' (.int .i64 (((T.r.n : Int) + (T.d.n : Int)) + 1)) rfl rfl)) ?_
          refine W.val rfl rfl (eqv (X.eqlB (ev' (.bool ((takeR t m id).2.2.1)) rfl rfl) (ev' (.bool (((T238.r.n : Int) + (T238.d.n : Int) : Int) == (((T.r.n : Int) + (T.d.n : Int)) + 1 : Int))) rfl rfl) Try.underlying4) (show (((takeR t m id).2.2.1) == (((T238.r.n : Int) + (T238.d.n : Int) : Int) == (((T.r.n : Int) + (T.d.n : Int)) + 1 : Int))) = true from again_fin h595.r.len h595.d.len ht.r.len ht.d.len h0)) ?_
          refine W.val rfl rfl (X.assign (ev' (.bool true) rfl rfl)) ?_
          refine W.nil ?_
          refine then_n ?_
          refine W.fresh ?_
          intro r598 er599
          have s600 : r598 8 = .bool true := (congrFun er599 8).trans rfl
          clear er599
          refine W.ret (retT rfl rfl (show _ = (.bool true : Value) from s600) ⟨?_, R480⟩)
          rfl
    · skip
      have hp : (placeR t o).2.2 ≠ 0 := by simpa using k161
      refine W.seq ?_
      refine W.reg ?_
      have h601 := hB134.st c139 ne127
      refine W.val rfl rfl (X.loadR (ev' (.pointer (some ⟨b101, 0, none⟩)) rfl s158) rt24 (row_blk_trade h601) rfl) ?_
      refine W.val rfl rfl X.build24 ?_
      have h602 := (hT96.ext lt104).gr g102
      have h603 := (h602.ext lt120).gr g118
      have h604 := h603.st c133 (.tail _ (.head _))
      have h605 := h604.st c139 (.head _)
      refine W.call rfl rfl (X.callF go14 (args2 (ev' (T95.val) rfl rfl) (ev' (TV.zero.val) rfl rfl))) (sameT_c _ h605 (Tr.zero_ (b117 :: b101 :: b21 :: b12 :: b4 :: bs) _)) ?_
      rintro _ w606 ⟨rfl, g607⟩
      have R608 := R141.gr g607
      refine W.val rfl rfl (eqv (X.not (ev' (.bool (sameT ((placeR t o).1) Trade.zero)) rfl rfl)) (show (!(sameT ((placeR t o).1) Trade.zero)) = false from by rw [place_err hp]; exact congrArg (!·) (sameT_refl _))) ?_
      refine W.nil ?_
      refine then_n ?_
      refine W.fresh ?_
      intro r609 er610
      have s611 : r609 3 = .int .i64 id := (congrFun er610 3).trans s154
      have s612 : r609 4 = .pointer (some ⟨b4, 0, none⟩) := (congrFun er610 4).trans s155
      have s613 : r609 5 = .pointer (some ⟨b12, 0, none⟩) := (congrFun er610 5).trans s156
      have s614 : r609 85 = .bool false := (congrFun er610 85).trans rfl
      clear er610
      refine W.condF rfl s614 ?_
      refine W.skip ?_
      refine then_n ?_
      refine W.seq ?_
      refine W.reg ?_
      have h616 := h121.gr g118
      have h617 := h616.st c133 ne106
      have h618 := h617.st c139 ne122
      have h619 := h618.gr g607
      refine W.val rfl rfl (X.loadR (ev' (.pointer (some ⟨b4, 0, none⟩)) rfl s612) rt24 (row_blk_trade h619) rfl) ?_
      have h620 := h123.gr g118
      have h621 := h620.st c133 ne110
      have h622 := h621.st c139 ne124
      have h623 := h622.gr g607
      refine W.val rfl rfl (X.loadR (ev' (.pointer (some ⟨b12, 0, none⟩)) rfl s613) rt30 (row_blk_msg h623) rfl) ?_
      refine W.val rfl rfl (X.move (ev' (.int .i64 id) rfl s611)) ?_
      have h624 := h86.gr g97
      have h625 := (h624.ext lt104).gr g102
      have h626 := (h625.ext lt120).gr g118
      have h627 := h626.st c133 (.tail _ (.head _))
      have h628 := h627.st c139 (.head _)
      have h629 := h628.gr g607
      have h630 := h93.gr g97
      have h631 := h630.new g102 hB103.lt
      have h632 := h631.new g118 hB119.lt
      have h633 := h632.gr c133
      have h634 := h633.gr c139
      have h635 := h634.gr g607
      refine W.call rfl rfl (X.callF go22 (args3 (ev' (T.val) rfl rfl) (ev' (.agg m.arr) rfl rfl) (ev' (.int .i64 id) rfl rfl))) (ttake_c m id _ h629 h635) ?_
      rintro _ w636 ⟨T637, s638, rfl, hT639, hS640, g641⟩
      have R642 := R608.gr g641
      refine W.val rfl rfl (X.move (ev' (.tuple #[T637.val, s638.val, .bool ((takeR t m id).2.2.1), .int .i64 ((takeR t m id).2.2.2)]) rfl rfl)) ?_
      refine W.val rfl rfl (X.extract (ev' (.tuple #[T637.val, s638.val, .bool ((takeR t m id).2.2.1), .int .i64 ((takeR t m id).2.2.2)]) rfl rfl) rfl) ?_
      refine W.val rfl rfl (X.extract (ev' (.tuple #[T637.val, s638.val, .bool ((takeR t m id).2.2.1), .int .i64 ((takeR t m id).2.2.2)]) rfl rfl) rfl) ?_
      refine W.val rfl rfl (X.extract (ev' (.tuple #[T637.val, s638.val, .bool ((takeR t m id).2.2.1), .int .i64 ((takeR t m id).2.2.2)]) rfl rfl) rfl) ?_
      refine W.val rfl rfl (X.extract (ev' (.tuple #[T637.val, s638.val, .bool ((takeR t m id).2.2.1), .int .i64 ((takeR t m id).2.2.2)]) rfl rfl) rfl) ?_
      refine W.eff rfl rfl (Y.alloc (cs := TV.zero.arr) zero24 rfl) ?_
      rintro _ w645 ⟨b646, rfl, g647, hB648, lt649⟩
      have h650 := h619.gr g641
      have ne651 := h650.ne lt649
      have h652 := h623.gr g641
      have ne653 := h652.ne lt649
      have h654 := h125.gr g118
      have h655 := h654.st c133 ne112
      have h656 := h655.st c139 ne126
      have h657 := h656.gr g607
      have h658 := h657.gr g641
      have ne659 := h658.ne lt649
      have h660 := h601.gr g607
      have h661 := h660.gr g641
      have ne662 := h661.ne lt649
      have h663 := hB140.gr g607
      have h664 := h663.gr g641
      have ne665 := h664.ne lt649
      have l666 := Nat.le_trans R642.size lt649
      have R667 := R642.gr g647
      refine W.eff0 rfl rfl (Y.storeW (ds := T637.arr) (ev' (.pointer (some ⟨b646, 0, none⟩)) rfl rfl) (ev' (T637.val) rfl rfl) hB648 (n := 4) rfl sz24 rfl (TV.oneCell _) rfl) ?_
      rintro w669 ⟨c670, hB671⟩
      have R672 := R667.stN c670 l666
      refine W.val rfl rfl (X.assign (ev' (s638.val) rfl rfl)) ?_
      refine W.val rfl rfl (X.assign (ev' (.bool ((takeR t m id).2.2.1)) rfl rfl)) ?_
      refine W.val rfl rfl (X.assign (ev' (.int .i64 ((takeR t m id).2.2.2)) rfl rfl)) ?_
      refine W.nil ?_
      refine then_n ?_
      refine W.fresh ?_
      intro r674 er675
      have s676 : r674 3 = .int .i64 id := (congrFun er675 3).trans s611
      have s677 : r674 4 = .pointer (some ⟨b4, 0, none⟩) := (congrFun er675 4).trans s612
      have s678 : r674 5 = .pointer (some ⟨b12, 0, none⟩) := (congrFun er675 5).trans s613
      have s679 : r674 12 = .pointer (some ⟨b646, 0, none⟩) := (congrFun er675 12).trans rfl
      have s680 : r674 13 = s638.val := (congrFun er675 13).trans rfl
      have s681 : r674 14 = .bool ((takeR t m id).2.2.1) := (congrFun er675 14).trans rfl
      have s682 : r674 15 = .int .i64 ((takeR t m id).2.2.2) := (congrFun er675 15).trans rfl
      clear er675
      refine W.seq ?_
      refine W.seq ?_
      refine W.reg ?_
      refine W.val rfl rfl (X.move (ev' (.int .i64 ((takeR t m id).2.2.2)) rfl s682)) ?_
      refine W.val rfl rfl (X.neq (ev' (.int .i64 ((takeR t m id).2.2.2)) rfl rfl) (evc' (.int .i64 0))) ?_
      refine W.nil ?_
      refine then_n ?_
      refine W.fresh ?_
      intro r683 er684
      have s685 : r683 3 = .int .i64 id := (congrFun er684 3).trans s676
      have s686 : r683 4 = .pointer (some ⟨b4, 0, none⟩) := (congrFun er684 4).trans s677
      have s687 : r683 5 = .pointer (some ⟨b12, 0, none⟩) := (congrFun er684 5).trans s678
      have s688 : r683 12 = .pointer (some ⟨b646, 0, none⟩) := (congrFun er684 12).trans s679
      have s689 : r683 13 = s638.val := (congrFun er684 13).trans s680
      have s690 : r683 14 = .bool ((takeR t m id).2.2.1) := (congrFun er684 14).trans s681
      have s691 : r683 96 = .bool (((takeR t m id).2.2.2 : Int) != (0 : Int)) := (congrFun er684 96).trans rfl
      clear er684
      refine W.cond rfl s691 (fun k692 => ?_) (fun k692 => ?_)
      · skip
        have h0 : (takeR t m id).2.2.2 ≠ 0 := by simpa using k692
        refine W.seq ?_
        refine W.reg ?_
        refine W.val rfl rfl (X.loadR (ev' (.pointer (some ⟨b646, 0, none⟩)) rfl s688) rt24 (row_blk_trade hB671) rfl) ?_
        refine W.val rfl rfl X.build24 ?_
        have h693 := (hT639.ext lt649).gr g647
        have h694 := h693.st c670 (.head _)
        refine W.call rfl rfl (X.callF go14 (args2 (ev' (T637.val) rfl rfl) (ev' (TV.zero.val) rfl rfl))) (sameT_c _ h694 (Tr.zero_ (b646 :: b117 :: b101 :: b21 :: b12 :: b4 :: bs) _)) ?_
        rintro _ w695 ⟨rfl, g696⟩
        have R697 := R672.gr g696
        refine W.val rfl rfl (eqv (X.move (ev' (.bool (sameT ((takeR t m id).1) Trade.zero)) rfl rfl)) (show (sameT ((takeR t m id).1) Trade.zero) = true from err_same h0)) ?_
        refine W.valL rfl rfl rfl rfl rfl rfl (X.move (ev' (s638.val) rfl s689)) ?_
        refine W.valL rfl rfl rfl rfl rfl rfl (X.len (ev' (s638.val) rfl rfl) st22) ?_
        have h698 := (hS640.ext lt649).gr g647
        have h699 := h698.st c670 (.head _)
        have h700 := h699.gr g696
        refine W.valL rfl rfl rfl rfl rfl rfl (eqv (X.eql (ev' (.int .i64 (s638.n : Int)) rfl rfl) (evc' (.int .i64 0))) (show (((s638.n : Int) : Int) == (0 : Int)) = true from err_len h0 h700.len)) ?_
        refine W.val rfl rfl (X.and (ev' (.bool true) rfl rfl) (ev' (gv (true == true) (.bool true)) rfl rfl)) ?_
        refine W.val rfl rfl (X.move (ev' (.bool true) rfl rfl)) ?_
        refine W.valL rfl rfl rfl rfl rfl rfl (X.move (ev' (.bool ((takeR t m id).2.2.1)) rfl s690)) ?_
        refine W.valL rfl rfl rfl rfl rfl rfl (eqv (X.not (ev' (.bool ((takeR t m id).2.2.1)) rfl rfl)) (show (!((takeR t m id).2.2.1)) = true from err_fresh h0)) ?_
        refine W.val rfl rfl (X.and (ev' (.bool true) rfl rfl) (ev' (gv (true == true) (.bool true)) rfl rfl)) ?_
        refine W.val rfl rfl (X.assign (ev' (.bool true) rfl rfl)) ?_
        refine W.nil ?_
        refine then_n ?_
        refine W.fresh ?_
        intro r701 er702
        have s703 : r701 8 = .bool true := (congrFun er702 8).trans rfl
        clear er702
        refine W.ret (then_r (retT rfl rfl (show _ = (.bool true : Value) from s703) ⟨?_, R697⟩))
        rfl
      · skip
        have h0 : (takeR t m id).2.2.2 = 0 := by simpa using k692
        have hag := again_take (by omega) h0
        have hbd := again_bound h0 hfew
        refine W.skip ?_
        refine then_n ?_
        refine W.seq ?_
        refine W.reg ?_
        refine W.val rfl rfl (X.loadR (ev' (.pointer (some ⟨b646, 0, none⟩)) rfl s688) rt24 (row_blk_trade hB671) rfl) ?_
        have h704 := h652.gr g647
        have h705 := h704.st c670 ne653
        refine W.val rfl rfl (X.loadR (ev' (.pointer (some ⟨b12, 0, none⟩)) rfl s687) rt30 (row_blk_msg h705) rfl) ?_
        refine W.val rfl rfl (X.move (ev' (.int .i64 id) rfl s685)) ?_
        have h706 := (hT639.ext lt649).gr g647
        have h707 := h706.st c670 (.head _)
        have h708 := h635.gr g641
        have h709 := h708.new g647 hB648.lt
        have h710 := h709.gr c670
        refine W.call rfl rfl (X.callF go22 (args3 (ev' (T637.val) rfl rfl) (ev' (.agg m.arr) rfl rfl) (ev' (.int .i64 id) rfl rfl))) (ttake_c m id _ h707 h710) ?_
        rintro _ w711 ⟨T712, s713, rfl, hT714, hS715, g716⟩
        have R717 := R672.gr g716
        rw [hag.1]
        have hT718 : Tr (b646 :: b117 :: b101 :: b21 :: b12 :: b4 :: bs) w711 T712 ((takeR t m id).1) := by rw [hag.1] at hT714; exact hT714
        have hS719 : Sl (b646 :: b117 :: b101 :: b21 :: b12 :: b4 :: bs) w711 s713 ((takeR t m id).2.1) := by rw [hag.1] at hS715; exact hS715
        refine W.val rfl rfl (X.move (ev' (.tuple #[T712.val, s713.val, .bool false, .int .i64 0]) rfl rfl)) ?_
        refine W.val rfl rfl (X.extract (ev' (.tuple #[T712.val, s713.val, .bool false, .int .i64 0]) rfl rfl) rfl) ?_
        refine W.val rfl rfl (X.extract (ev' (.tuple #[T712.val, s713.val, .bool false, .int .i64 0]) rfl rfl) rfl) ?_
        refine W.val rfl rfl (X.extract (ev' (.tuple #[T712.val, s713.val, .bool false, .int .i64 0]) rfl rfl) rfl) ?_
        refine W.val rfl rfl (X.extract (ev' (.tuple #[T712.val, s713.val, .bool false, .int .i64 0]) rfl rfl) rfl) ?_
        refine W.eff rfl rfl (Y.alloc (cs := TV.zero.arr) zero24 rfl) ?_
        rintro _ w722 ⟨b723, rfl, g724, hB725, lt726⟩
        have h727 := h650.gr g647
        have h728 := h727.st c670 ne651
        have h729 := h728.gr g716
        have ne730 := h729.ne lt726
        have h731 := h705.gr g716
        have ne732 := h731.ne lt726
        have h733 := h658.gr g647
        have h734 := h733.st c670 ne659
        have h735 := h734.gr g716
        have ne736 := h735.ne lt726
        have h737 := h661.gr g647
        have h738 := h737.st c670 ne662
        have h739 := h738.gr g716
        have ne740 := h739.ne lt726
        have h741 := h664.gr g647
        have h742 := h741.st c670 ne665
        have h743 := h742.gr g716
        have ne744 := h743.ne lt726
        have h745 := hB671.gr g716
        have ne746 := h745.ne lt726
        have l747 := Nat.le_trans R717.size lt726
        have R748 := R717.gr g724
        refine W.eff0 rfl rfl (Y.storeW (ds := T712.arr) (ev' (.pointer (some ⟨b723, 0, none⟩)) rfl rfl) (ev' (T712.val) rfl rfl) hB725 (n := 4) rfl sz24 rfl (TV.oneCell _) rfl) ?_
        rintro w750 ⟨c751, hB752⟩
        have R753 := R748.stN c751 l747
        refine W.val rfl rfl (X.assign (ev' (s713.val) rfl rfl)) ?_
        refine W.val rfl rfl (X.assign (ev' (.bool false) rfl rfl)) ?_
        refine W.val rfl rfl (X.assign (ev' (.int .i64 0) rfl rfl)) ?_
        refine W.nil ?_
        refine then_n ?_
        refine W.fresh ?_
        intro r755 er756
        have s757 : r755 3 = .int .i64 id := (congrFun er756 3).trans s685
        have s758 : r755 4 = .pointer (some ⟨b4, 0, none⟩) := (congrFun er756 4).trans s686
        have s759 : r755 5 = .pointer (some ⟨b12, 0, none⟩) := (congrFun er756 5).trans s687
        have s760 : r755 12 = .pointer (some ⟨b646, 0, none⟩) := (congrFun er756 12).trans s688
        have s761 : r755 13 = s638.val := (congrFun er756 13).trans s689
        have s762 : r755 14 = .bool ((takeR t m id).2.2.1) := (congrFun er756 14).trans s690
        have s763 : r755 16 = .pointer (some ⟨b723, 0, none⟩) := (congrFun er756 16).trans rfl
        have s764 : r755 17 = s713.val := (congrFun er756 17).trans rfl
        have s765 : r755 18 = .bool false := (congrFun er756 18).trans rfl
        have s766 : r755 19 = .int .i64 0 := (congrFun er756 19).trans rfl
        clear er756
        refine W.seq ?_
        refine W.seq ?_
        refine W.reg ?_
        refine W.val rfl rfl (X.move (ev' (.int .i64 0) rfl s766)) ?_
        refine W.val rfl rfl (eqv (X.neq (ev' (.int .i64 0) rfl rfl) (evc' (.int .i64 0))) (show ((0 : Int) != (0 : Int)) = false from by decide)) ?_
        refine W.val rfl rfl (X.move (ev' (.bool false) rfl rfl)) ?_
        refine W.valL rfl rfl rfl rfl rfl rfl (X.move (ev' (.bool false) rfl s765)) ?_
        refine W.val rfl rfl (X.or (ev' (.bool false) rfl rfl) (ev' (gv (false == false) (.bool false)) rfl rfl)) ?_
        refine W.val rfl rfl (X.move (ev' (.bool false) rfl rfl)) ?_
        have h767 := h745.gr g724
        have h768 := h767.st c751 ne746
        refine W.valL rfl rfl rfl rfl rfl rfl (X.loadR (ev' (.pointer (some ⟨b646, 0, none⟩)) rfl s760) rt24 (row_blk_trade h768) rfl) ?_
        refine W.valL rfl rfl rfl rfl rfl rfl (X.loadR (ev' (.pointer (some ⟨b723, 0, none⟩)) rfl s763) rt24 (row_blk_trade hB752) rfl) ?_
        have h769 := h707.gr g716
        have h770 := (h769.ext lt726).gr g724
        have h771 := h770.st c751 (.head _)
        have h772 := (hT718.ext lt726).gr g724
        have h773 := h772.st c751 (.head _)
        refine W.callL rfl rfl rfl rfl rfl rfl (X.callF go14 (args2 (ev' (T637.val) rfl rfl) (ev' (T712.val) rfl rfl))) (sameT_c _ h771 h773) ?_
        rintro _ w774 ⟨rfl, g775⟩
        have R776 := R753.gr g775
        refine W.valL rfl rfl rfl rfl rfl rfl (eqv (X.not (ev' (.bool (sameT ((takeR t m id).1) ((takeR t m id).1))) rfl rfl)) (show (!(sameT ((takeR t m id).1) ((takeR t m id).1))) = false from congrArg (!·) (sameT_refl _))) ?_
        refine W.val rfl rfl (X.or (ev' (.bool false) rfl rfl) (ev' (gv (false == false) (.bool false)) rfl rfl)) ?_
        refine W.val rfl rfl (X.move (ev' (.bool false) rfl rfl)) ?_
        refine W.valL rfl rfl rfl rfl rfl rfl (X.move (ev' (s638.val) rfl s761)) ?_
        refine W.valL rfl rfl rfl rfl rfl rfl (X.move (ev' (s713.val) rfl s764)) ?_
        have h777 := (hS640.ext lt649).gr g647
        have h778 := h777.st c670 (.head _)
        have h779 := h778.gr g716
        have h780 := (h779.ext lt726).gr g724
        have h781 := h780.st c751 (.head _)
        have h782 := h781.gr g775
        have h783 := (hS719.ext lt726).gr g724
        have h784 := h783.st c751 (.head _)
        have h785 := h784.gr g775
        refine W.callL rfl rfl rfl rfl rfl rfl (X.callF go18 (args2 (ev' (s638.val) rfl rfl) (ev' (s713.val) rfl rfl))) (sameL_c _ h782 h785) ?_
        rintro _ w786 ⟨rfl, g787⟩
        have R788 := R776.gr g787
        refine W.valL rfl rfl rfl rfl rfl rfl (eqv (X.not (ev' (.bool (sameL ((takeR t m id).2.1) ((takeR t m id).2.1))) rfl rfl)) (show (!(sameL ((takeR t m id).2.1) ((takeR t m id).2.1))) = false from congrArg (!·) (sameL_refl _))) ?_
        refine W.val rfl rfl (X.or (ev' (.bool false) rfl rfl) (ev' (gv (false == false) (.bool false)) rfl rfl)) ?_
        refine W.val rfl rfl (X.move (ev' (.bool false) rfl rfl)) ?_
        have h789 := h768.gr g775
        have h790 := h789.gr g787
        refine W.valL rfl rfl rfl rfl rfl rfl (X.loadR (ev' (.pointer (some ⟨b646, 0, none⟩)) rfl s760) rt24 (row_blk_trade h790) rfl) ?_
        refine W.valL rfl rfl rfl rfl rfl rfl (X.move (ev' (.int .i64 id) rfl s757)) ?_
        have h791 := h771.gr g775
        have h792 := h791.gr g787
        refine W.callL rfl rfl rfl rfl rfl rfl (X.callF go16 (args2 (ev' (T637.val) rfl rfl) (ev' (.int .i64 id) rfl rfl))) (tcheck_c id _ h792) ?_
        rintro _ w793 ⟨rfl, g794⟩
        have R795 := R788.gr g794
        refine W.valL rfl rfl rfl rfl rfl rfl (eqv (X.neq (ev' (.int .i64 (chk ((takeR t m id).1) id)) rfl rfl) (evc' (.int .i64 0))) (show ((chk ((takeR t m id).1) id : Int) != (0 : Int)) = false from ne_no (chk_iff.2 hag.2))) ?_
        refine W.val rfl rfl (X.or (ev' (.bool false) rfl rfl) (ev' (gv (false == false) (.bool false)) rfl rfl)) ?_
        refine W.nil ?_
        refine then_n ?_
        refine W.fresh ?_
        intro r796 er797
        have s798 : r796 3 = .int .i64 id := (congrFun er797 3).trans s757
        have s799 : r796 4 = .pointer (some ⟨b4, 0, none⟩) := (congrFun er797 4).trans s758
        have s800 : r796 5 = .pointer (some ⟨b12, 0, none⟩) := (congrFun er797 5).trans s759
        have s801 : r796 12 = .pointer (some ⟨b646, 0, none⟩) := (congrFun er797 12).trans s760
        have s802 : r796 13 = s638.val := (congrFun er797 13).trans s761
        have s803 : r796 14 = .bool ((takeR t m id).2.2.1) := (congrFun er797 14).trans s762
        have s804 : r796 140 = .bool false := (congrFun er797 140).trans rfl
        clear er797
        refine W.condF rfl s804 ?_
        refine W.skip ?_
        refine then_n ?_
        refine W.seq ?_
        refine W.seq ?_
        refine W.reg ?_
        refine W.val rfl rfl (X.move (ev' (.bool ((takeR t m id).2.2.1)) rfl s803)) ?_
        refine W.val rfl rfl (X.not (ev' (.bool ((takeR t m id).2.2.1)) rfl rfl)) ?_
        refine W.val rfl rfl (X.move (ev' (.bool (!((takeR t m id).2.2.1))) rfl rfl)) ?_
        have h806 := h790.gr g794
        refine W.gq rfl rfl rfl rfl rfl (fun _ => (X.loadR (ev' (.pointer (some ⟨b646, 0, none⟩)) rfl s801) rt24 (row_blk_trade h806) rfl)) ?_
        have h807 := h729.gr g724
        have h808 := h807.st c751 ne730
        have h809 := h808.gr g775
        have h810 := h809.gr g787
        have h811 := h810.gr g794
        refine W.gq rfl rfl rfl rfl rfl (fun _ => (X.loadR (ev' (.pointer (some ⟨b4, 0, none⟩)) rfl s799) rt24 (row_blk_trade h811) rfl)) ?_
        have h812 := h792.gr g794
        have h813 := h629.gr g641
        have h814 := (h813.ext lt649).gr g647
        have h815 := h814.st c670 (.head _)
        have h816 := h815.gr g716
        have h817 := (h816.ext lt726).gr g724
        have h818 := h817.st c751 (.head _)
        have h819 := h818.gr g775
        have h820 := h819.gr g787
        have h821 := h820.gr g794
        refine W.gcallS rfl rfl rfl rfl rfl (fun hc => X.callF go14 (args2 (ev' (T637.val) rfl (gvt hc rfl)) (ev' (T.val) rfl (gvt hc rfl)))) (fun _ => (sameT_c _ h812 h821)) ?_
        intro w822 g823
        have R824 := R795.gr g823
        refine W.gq rfl rfl rfl rfl rfl (fun hc => (X.not (ev' (.bool (sameT ((takeR t m id).1) t)) rfl (gvt hc rfl)))) ?_
        refine W.val rfl rfl (eqv (X.and (ev' (.bool (!((takeR t m id).2.2.1))) rfl rfl) (ev' (gv ((!((takeR t m id).2.2.1)) == true) (.bool (!(sameT ((takeR t m id).1) t)))) rfl rfl)) (show ((!((takeR t m id).2.2.1)) && (!(sameT ((takeR t m id).1) t))) = false from again_ns h0)) ?_
        refine W.nil ?_
        refine then_n ?_
        refine W.fresh ?_
        intro r825 er826
        have s827 : r825 3 = .int .i64 id := (congrFun er826 3).trans s798
        have s828 : r825 4 = .pointer (some ⟨b4, 0, none⟩) := (congrFun er826 4).trans s799
        have s829 : r825 5 = .pointer (some ⟨b12, 0, none⟩) := (congrFun er826 5).trans s800
        have s830 : r825 12 = .pointer (some ⟨b646, 0, none⟩) := (congrFun er826 12).trans s801
        have s831 : r825 13 = s638.val := (congrFun er826 13).trans s802
        have s832 : r825 14 = .bool ((takeR t m id).2.2.1) := (congrFun er826 14).trans s803
        have s833 : r825 148 = .bool false := (congrFun er826 148).trans rfl
        clear er826
        refine W.condF rfl s833 ?_
        refine W.skip ?_
        refine then_n ?_
        refine W.seq ?_
        refine W.seq ?_
        refine W.reg ?_
        refine W.val rfl rfl (X.move (ev' (s638.val) rfl s831)) ?_
        refine W.val rfl rfl (X.len (ev' (s638.val) rfl rfl) st22) ?_
        refine W.val rfl rfl (X.move (evc' (.int .i64 0))) ?_
        refine W.nil ?_
        refine then_n ?_
        refine W.fresh ?_
        intro r835 er836
        have s837 : r835 3 = .int .i64 id := (congrFun er836 3).trans s827
        have s838 : r835 4 = .pointer (some ⟨b4, 0, none⟩) := (congrFun er836 4).trans s828
        have s839 : r835 5 = .pointer (some ⟨b12, 0, none⟩) := (congrFun er836 5).trans s829
        have s840 : r835 12 = .pointer (some ⟨b646, 0, none⟩) := (congrFun er836 12).trans s830
        have s841 : r835 14 = .bool ((takeR t m id).2.2.1) := (congrFun er836 14).trans s832
        have s842 : r835 149 = s638.val := (congrFun er836 149).trans rfl
        have s843 : r835 150 = .int .i64 (s638.n : Int) := (congrFun er836 150).trans rfl
        have s844 : r835 151 = .int .i64 0 := (congrFun er836 151).trans rfl
        clear er836
        refine W.block ?_
        have h845 := h782.gr g787
        have h846 := h845.gr g794
        have h847 := h846.gr g823
        refine W.fresh ?_
        intro r848 er849
        have s850 : r848 3 = .int .i64 id := (congrFun er849 3).trans s837
        have s851 : r848 4 = .pointer (some ⟨b4, 0, none⟩) := (congrFun er849 4).trans s838
        have s852 : r848 5 = .pointer (some ⟨b12, 0, none⟩) := (congrFun er849 5).trans s839
        have s853 : r848 12 = .pointer (some ⟨b646, 0, none⟩) := (congrFun er849 12).trans s840
        have s854 : r848 14 = .bool ((takeR t m id).2.2.1) := (congrFun er849 14).trans s841
        have s855 : r848 149 = s638.val := (congrFun er849 149).trans s842
        have s856 : r848 150 = .int .i64 (s638.n : Int) := (congrFun er849 150).trans s843
        have s857 : r848 151 = .int .i64 0 := (congrFun er849 151).trans s844
        clear er849
        refine W.count 151 s638.n (fun I ρ W => I ≤ s638.n ∧ ρ 151 = .int .i64 ((I : Nat) : Int) ∧ Chg [] w822 W ∧ ρ 3 = .int .i64 id ∧ ρ 4 = .pointer (some ⟨b4, 0, none⟩) ∧ ρ 5 = .pointer (some ⟨b12, 0, none⟩) ∧ ρ 12 = .pointer (some ⟨b646, 0, none⟩) ∧ ρ 14 = .bool ((takeR t m id).2.2.1) ∧ ρ 149 = s638.val ∧ ρ 150 = .int .i64 (s638.n : Int)) 0 rfl
          ⟨Nat.zero_le _, s857, Chg.of_refl _ _, s850, s851, s852, s853, s854, s855, s856⟩ (fun I ρ W hJ => ⟨hJ.2.1, hJ.1⟩) ?_
        rintro i858 r859 w860 ⟨le861, s862, R863, s864, s865, s866, s867, s868, s869, s870⟩
        have R876 := R824.gr R863
        refine W.seq ?_
        refine W.reg ?_
        refine W.val rfl rfl (X.lss (ev' (.int .i64 ((i858 : Nat) : Int)) rfl s862) (ev' (.int .i64 (s638.n : Int)) rfl s870)) ?_
        refine W.nil ?_
        refine then_n ?_
        refine W.fresh ?_
        intro r877 er878
        have s879 : r877 3 = .int .i64 id := (congrFun er878 3).trans s864
        have s880 : r877 4 = .pointer (some ⟨b4, 0, none⟩) := (congrFun er878 4).trans s865
        have s881 : r877 5 = .pointer (some ⟨b12, 0, none⟩) := (congrFun er878 5).trans s866
        have s882 : r877 12 = .pointer (some ⟨b646, 0, none⟩) := (congrFun er878 12).trans s867
        have s883 : r877 14 = .bool ((takeR t m id).2.2.1) := (congrFun er878 14).trans s868
        have s884 : r877 149 = s638.val := (congrFun er878 149).trans s869
        have s885 : r877 150 = .int .i64 (s638.n : Int) := (congrFun er878 150).trans s870
        have s886 : r877 151 = .int .i64 ((i858 : Nat) : Int) := (congrFun er878 151).trans s862
        have s887 : r877 152 = .bool (decide ((((i858 : Nat) : Int) : Int) < ((s638.n : Int) : Int))) := (congrFun er878 152).trans rfl
        clear er878
        refine W.seq ?_
        refine W.cond rfl s887 (fun k888 => ?_) (fun k888 => ?_)
        · skip
          have lt875 : i858 < s638.n := Int.ofNat_lt.1 (of_decide_eq_true k888)
          refine W.skip ?_
          refine then_n ?_
          refine W.seq ?_
          refine W.block ?_
          refine W.seq ?_
          refine W.reg ?_
          have h891 := h847.gr R863
          obtain ⟨m889, hm890⟩ := some_of_lt (h891.len ▸ lt875)
          obtain ⟨eb892, eo893, ha894, lt895, hr896⟩ := Sl.rowAt h891 hm890
          refine W.val rfl rfl (X.idx (b := ⟨eb892, eo893 + i858 * 43, none⟩) (evs ha894 (ev' (s638.val) rfl s884)) (ev' (.int .i64 ((i858 : Nat) : Int)) rfl s886) (Int.natCast_nonneg _) (Int.ofNat_lt.2 lt895) st22 sz30 (Addr.add_lit _ _ _)) ?_
          refine W.val rfl rfl (X.loadR (ev' (.pointer (some ⟨eb892, eo893 + i858 * 43, none⟩)) rfl rfl) rt30 hr896.r rfl) ?_
          refine W.eff rfl rfl (Y.alloc (cs := Msg.zero.arr) zero30 rfl) ?_
          rintro _ w898 ⟨b899, rfl, g900, hB901, lt902⟩
          have h903 := h811.gr g823
          have h904 := h903.gr R863
          have ne905 := h904.ne lt902
          have h906 := h731.gr g724
          have h907 := h906.st c751 ne732
          have h908 := h907.gr g775
          have h909 := h908.gr g787
          have h910 := h909.gr g794
          have h911 := h910.gr g823
          have h912 := h911.gr R863
          have ne913 := h912.ne lt902
          have h914 := h735.gr g724
          have h915 := h914.st c751 ne736
          have h916 := h915.gr g775
          have h917 := h916.gr g787
          have h918 := h917.gr g794
          have h919 := h918.gr g823
          have h920 := h919.gr R863
          have ne921 := h920.ne lt902
          have h922 := h739.gr g724
          have h923 := h922.st c751 ne740
          have h924 := h923.gr g775
          have h925 := h924.gr g787
          have h926 := h925.gr g794
          have h927 := h926.gr g823
          have h928 := h927.gr R863
          have ne929 := h928.ne lt902
          have h930 := h743.gr g724
          have h931 := h930.st c751 ne744
          have h932 := h931.gr g775
          have h933 := h932.gr g787
          have h934 := h933.gr g794
          have h935 := h934.gr g823
          have h936 := h935.gr R863
          have ne937 := h936.ne lt902
          have h938 := h806.gr g823
          have h939 := h938.gr R863
          have ne940 := h939.ne lt902
          have h941 := hB752.gr g775
          have h942 := h941.gr g787
          have h943 := h942.gr g794
          have h944 := h943.gr g823
          have h945 := h944.gr R863
          have ne946 := h945.ne lt902
          have l947 := Nat.le_trans R876.size lt902
          have l948 := Nat.le_trans R863.size lt902
          have R949 := R876.gr g900
          have R950 := R863.gr g900
          refine W.eff0 rfl rfl (Y.storeW (ds := m889.arr) (ev' (.pointer (some ⟨b899, 0, none⟩)) rfl rfl) (ev' (.agg m889.arr) rfl rfl) hB901 (Msg.size_arr _) sz30 (Msg.size_arr _) (Msg.oneCellA _) rfl) ?_
          rintro w952 ⟨c953, hB954⟩
          have R955 := R949.stN c953 l947
          have R956 := R950.stN c953 l948
          refine W.nil ?_
          refine then_n ?_
          refine W.fresh ?_
          intro r958 er959
          have s960 : r958 3 = .int .i64 id := (congrFun er959 3).trans s879
          have s961 : r958 4 = .pointer (some ⟨b4, 0, none⟩) := (congrFun er959 4).trans s880
          have s962 : r958 5 = .pointer (some ⟨b12, 0, none⟩) := (congrFun er959 5).trans s881
          have s963 : r958 12 = .pointer (some ⟨b646, 0, none⟩) := (congrFun er959 12).trans s882
          have s964 : r958 14 = .bool ((takeR t m id).2.2.1) := (congrFun er959 14).trans s883
          have s965 : r958 21 = .pointer (some ⟨b899, 0, none⟩) := (congrFun er959 21).trans rfl
          have s966 : r958 149 = s638.val := (congrFun er959 149).trans s884
          have s967 : r958 150 = .int .i64 (s638.n : Int) := (congrFun er959 150).trans s885
          have s968 : r958 151 = .int .i64 ((i858 : Nat) : Int) := (congrFun er959 151).trans s886
          clear er959
          refine W.seq ?_
          refine W.reg ?_
          refine W.val rfl rfl (X.fieldAddr (ev' (.pointer (some ⟨b899, 0, none⟩)) rfl s965) fo30_1 (b := ⟨b899, 1, none⟩) (Addr.add_lit _ _ _)) ?_
          refine W.val rfl rfl (X.load (ev' (.pointer (some ⟨b899, 1, none⟩)) rfl rfl) pt3 (Blk.lc hB954 (Msg.arr1 _))) ?_
          refine W.val rfl rfl (X.move (ev' (.int .i64 id) rfl s960)) ?_
          refine W.val rfl rfl (X.neq (ev' (.int .i64 m889.frm) rfl rfl) (ev' (.int .i64 id) rfl rfl)) ?_
          refine W.val rfl rfl (X.move (ev' (.bool ((m889.frm : Int) != (id : Int))) rfl rfl)) ?_
          refine W.gq rfl rfl rfl rfl rfl (fun _ => (X.fieldAddr (ev' (.pointer (some ⟨b899, 0, none⟩)) rfl s965) fo30_2 (b := ⟨b899, 2, none⟩) (Addr.add_lit _ _ _))) ?_
          refine W.gq rfl rfl rfl rfl rfl (fun hc => (X.load (ev' (.pointer (some ⟨b899, 2, none⟩)) rfl (gvt hc rfl)) pt3 (Blk.lc hB954 (Msg.arr2 _)))) ?_
          refine W.gq rfl rfl rfl rfl rfl (fun _ => (X.fieldAddr (ev' (.pointer (some ⟨b12, 0, none⟩)) rfl s962) fo30_1 (b := ⟨b12, 1, none⟩) (Addr.add_lit _ _ _))) ?_
          have h969 := h912.gr g900
          have h970 := h969.st c953 ne913
          refine W.gq rfl rfl rfl rfl rfl (fun hc => (X.load (ev' (.pointer (some ⟨b12, 1, none⟩)) rfl (gvt hc rfl)) pt3 (Blk.lc h970 (Msg.arr1 _)))) ?_
          refine W.gq rfl rfl rfl rfl rfl (fun hc => (X.neq (ev' (.int .i64 m889.to) rfl (gvt hc rfl)) (ev' (.int .i64 m.frm) rfl (gvt hc rfl)))) ?_
          refine W.valN rfl rfl (X.or (ev' (.bool ((m889.frm : Int) != (id : Int))) rfl rfl) (ev' (gv (((m889.frm : Int) != (id : Int)) == false) (.bool ((m889.to : Int) != (m.frm : Int)))) rfl rfl)) ?_
          intro q971 eq971
          refine W.val rfl rfl (X.move (ev' (.bool q971) rfl rfl)) ?_
          refine W.gq rfl rfl rfl rfl rfl (fun _ => (X.fieldAddr (ev' (.pointer (some ⟨b899, 0, none⟩)) rfl s965) fo30_3 (b := ⟨b899, 3, none⟩) (Addr.add_lit _ _ _))) ?_
          refine W.gq rfl rfl rfl rfl rfl (fun hc => (X.load (ev' (.pointer (some ⟨b899, 3, none⟩)) rfl (gvt hc rfl)) pt3 (Blk.lc hB954 (Msg.arr3 _)))) ?_
          refine W.gq rfl rfl rfl rfl rfl (fun _ => (X.fieldAddr (ev' (.pointer (some ⟨b12, 0, none⟩)) rfl s962) fo30_3 (b := ⟨b12, 3, none⟩) (Addr.add_lit _ _ _))) ?_
          refine W.gq rfl rfl rfl rfl rfl (fun hc => (X.load (ev' (.pointer (some ⟨b12, 3, none⟩)) rfl (gvt hc rfl)) pt3 (Blk.lc h970 (Msg.arr3 _)))) ?_
          refine W.gq rfl rfl rfl rfl rfl (fun hc => (X.neq (ev' (.int .i64 m889.no) rfl (gvt hc rfl)) (ev' (.int .i64 m.no) rfl (gvt hc rfl)))) ?_
          refine W.val rfl rfl (X.or (ev' (.bool q971) rfl rfl) (ev' (gv (q971 == false) (.bool ((m889.no : Int) != (m.no : Int)))) rfl rfl)) ?_
          refine W.nil ?_
          refine then_n ?_
          refine W.fresh ?_
          intro r972 er973
          have s974 : r972 3 = .int .i64 id := (congrFun er973 3).trans s960
          have s975 : r972 4 = .pointer (some ⟨b4, 0, none⟩) := (congrFun er973 4).trans s961
          have s976 : r972 5 = .pointer (some ⟨b12, 0, none⟩) := (congrFun er973 5).trans s962
          have s977 : r972 12 = .pointer (some ⟨b646, 0, none⟩) := (congrFun er973 12).trans s963
          have s978 : r972 14 = .bool ((takeR t m id).2.2.1) := (congrFun er973 14).trans s964
          have s979 : r972 149 = s638.val := (congrFun er973 149).trans s966
          have s980 : r972 150 = .int .i64 (s638.n : Int) := (congrFun er973 150).trans s967
          have s981 : r972 151 = .int .i64 ((i858 : Nat) : Int) := (congrFun er973 151).trans s968
          have s982 : r972 172 = .bool (q971 || ((m889.no : Int) != (m.no : Int))) := (congrFun er973 172).trans rfl
          clear er973
          refine W.cond rfl s982 (fun k983 => ?_) (fun k983 => ?_)
          · skip
            refine W.seq ?_
            refine W.reg ?_
            refine W.val rfl rfl (X.assign (evc' (.bool false))) ?_
            refine W.nil ?_
            refine then_n ?_
            refine W.fresh ?_
            intro r984 er985
            have s986 : r984 8 = .bool false := (congrFun er985 8).trans rfl
            clear er985
            refine W.ret (inb_r (then_r (then_r (inb_r (then_r (retT rfl rfl (show _ = (.bool false : Value) from s986) ⟨?_, R955⟩))))))
            subst eq971
            exact (again_el h0 (mem_of hm890) k983).elim
          · skip
            refine W.skip ?_
            refine inb_n ?_
            refine then_n ?_
            refine W.reg ?_
            refine W.val rfl rfl (X.inc (ev' (.int .i64 ((i858 : Nat) : Int)) rfl s981) (evc' (.int .i64 1)) lt875 h847.bnd) ?_
            refine W.val rfl rfl (X.move (ev' (.int .i64 ((i858 + 1 : Nat) : Int)) rfl rfl)) ?_
            refine W.nil ?_
            refine then_n ?_
            exact ⟨_, rfl, lt875, rfl, R956, s974, s975, s976, s977, s978, s979, s980⟩
        · skip
          have ei987 : i858 = s638.n := Nat.le_antisymm le861 (Nat.le_of_not_lt fun h => of_decide_eq_false k888 (Int.ofNat_lt.2 h))
          refine W.exit (then_x (then_x (inb_x ?_)))
          refine then_n ?_
          refine W.seq ?_
          refine W.reg ?_
          refine W.val rfl rfl (X.move (ev' (.bool ((takeR t m id).2.2.1)) rfl s883)) ?_
          refine W.val rfl rfl (X.fieldAddr (ev' (.pointer (some ⟨b646, 0, none⟩)) rfl s882) fo24_2 (b := ⟨b646, 2, none⟩) (Addr.add_lit _ _ _)) ?_
          have h988 := h806.gr g823
          have h989 := h988.gr R863
          refine W.val rfl rfl (X.load (ev' (.pointer (some ⟨b646, 2, none⟩)) rfl rfl) pt22 (Blk.lc h989 rfl)) ?_
          refine W.val rfl rfl (X.len (ev' (T637.r.val) rfl rfl) st22) ?_
          refine W.val rfl rfl (X.fieldAddr (ev' (.pointer (some ⟨b646, 0, none⟩)) rfl s882) fo24_3 (b := ⟨b646, 3, none⟩) (Addr.add_lit _ _ _)) ?_
          refine W.val rfl rfl (X.load (ev' (.pointer (some ⟨b646, 3, none⟩)) rfl rfl) pt22 (Blk.lc h989 rfl)) ?_
          refine W.val rfl rfl (X.len (ev' (T637.d.val) rfl rfl) st22) ?_
          have h990 := h812.gr g823
          have h991 := h990.gr R863
          refine W.val rfl rfl (X.addIn (ev' (.int .i64 (T637.r.n : Int)) rfl rfl) (ev' (.int .i64 (T637.d.n : Int)) rfl rfl) (by have := h991.r.len; have := h991.d.len; omega) (by have := h991.r.len; have := h991.d.len; omega)) ?_
          refine W.val rfl rfl (X.fieldAddr (ev' (.pointer (some ⟨b4, 0, none⟩)) rfl s880) fo24_2 (b := ⟨b4, 2, none⟩) (Addr.add_lit _ _ _)) ?_
          have h992 := h811.gr g823
          have h993 := h992.gr R863
          refine W.val rfl rfl (X.load (ev' (.pointer (some ⟨b4, 2, none⟩)) rfl rfl) pt22 (Blk.lc h993 rfl)) ?_
          refine W.val rfl rfl (X.len (ev' (T.r.val) rfl rfl) st22) ?_
          refine W.val rfl rfl (X.fieldAddr (ev' (.pointer (some ⟨b4, 0, none⟩)) rfl s880) fo24_3 (b := ⟨b4, 3, none⟩) (Addr.add_lit _ _ _)) ?_
          refine W.val rfl rfl (X.load (ev' (.pointer (some ⟨b4, 3, none⟩)) rfl rfl) pt22 (Blk.lc h993 rfl)) ?_
          refine W.val rfl rfl (X.len (ev' (T.d.val) rfl rfl) st22) ?_
          refine W.val rfl rfl (X.addIn (ev' (.int .i64 (T.r.n : Int)) rfl rfl) (ev' (.int .i64 (T.d.n : Int)) rfl rfl) (by have := ht.r.len; have := ht.d.len; omega) (by have := ht.r.len; have := ht.d.len; omega)) ?_
          refine W.val rfl rfl (X.addIn (ev' (.int .i64 ((T.r.n : Int) + (T.d.n : Int))) rfl rfl) (evc' (.int .i64 1)) (by have := ht.r.len; have := ht.d.len; omega) (by have := ht.r.len; have := ht.d.len; omega)) ?_
          refine W.val rfl rfl (X.eql (ev' (.int .i64 ((T637.r.n : Int) + (T637.d.n : Int))) rfl rfl) (ev' (.int .i64 (((T.r.n : Int) + (T.d.n : Int)) + 1)) rfl rfl)) ?_
          refine W.val rfl rfl (eqv (X.eqlB (ev' (.bool ((takeR t m id).2.2.1)) rfl rfl) (ev' (.bool (((T637.r.n : Int) + (T637.d.n : Int) : Int) == (((T.r.n : Int) + (T.d.n : Int)) + 1 : Int))) rfl rfl) Try.underlying4) (show (((takeR t m id).2.2.1) == (((T637.r.n : Int) + (T637.d.n : Int) : Int) == (((T.r.n : Int) + (T.d.n : Int)) + 1 : Int))) = true from again_fin h991.r.len h991.d.len ht.r.len ht.d.len h0)) ?_
          refine W.val rfl rfl (X.assign (ev' (.bool true) rfl rfl)) ?_
          refine W.nil ?_
          refine then_n ?_
          refine W.fresh ?_
          intro r994 er995
          have s996 : r994 8 = .bool true := (congrFun er995 8).trans rfl
          clear er995
          refine W.ret (retT rfl rfl (show _ = (.bool true : Value) from s996) ⟨?_, R876⟩)
          rfl

end Go.Proofs.Ytigimkmkbdnlpaa
