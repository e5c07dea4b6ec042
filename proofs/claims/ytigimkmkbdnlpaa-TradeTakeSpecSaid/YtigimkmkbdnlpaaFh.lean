/- The laws TradeSpec and TradeTakeSpec, walked. Printed by gen.py. -/
import Derived.Test.YtigimkmkbdnlpaaFg
namespace Go.Proofs.Ytigimkmkbdnlpaa
open Go.RowKit

theorem law1_c {bs : List Nat} {T : TV} {t : Trade} (m : Msg) (id : Int) (w : World) (ht : Tr bs w T t) (hl : LtAll bs w) : Calls Try.prog 3 #[T.val, .agg m.arr, .int .i64 id] w (Ret fun v w' => v = .bool (true) ∧ Grow w w') := by
  refine enter (N := 73) Try.func3 rfl Try.ntmps3 rfl ?_
  intro ρ hρ
  have a0 : ρ 0 = T.val := hρ 0 _ rfl
  have a1 : ρ 1 = .agg m.arr := hρ 1 _ rfl
  have a2 : ρ 2 = .int .i64 id := hρ 2 _ rfl
  clear hρ
  have R0 : Grow w w := Chg.refl w
  refine W.seq ?_
  refine W.reg ?_
  refine W.eff rfl rfl (Y.box (cs := T.arr) (ev' (T.val) rfl a0) rfl) ?_
  rintro _ w3 ⟨b4, rfl, g5, hB6, lt7⟩
  have l8 := Nat.le_trans R0.size lt7
  have R9 := R0.gr g5
  refine W.eff rfl rfl (Y.box (cs := m.arr) (ev' (.agg m.arr) rfl a1) rfl) ?_
  rintro _ w11 ⟨b12, rfl, g13, hB14, lt15⟩
  have ne16 := hB6.ne lt15
  have l17 := Nat.le_trans R9.size lt15
  have R18 := R9.gr g13
  refine W.val rfl rfl (X.assign (evc' (.bool false))) ?_
  refine W.nil ?_
  refine then_n ?_
  refine W.fresh ?_
  intro r20 er21
  have s22 : r20 2 = .int .i64 id := (congrFun er21 2).trans a2
  have s23 : r20 3 = .pointer (some ⟨b4, 0, none⟩) := (congrFun er21 3).trans rfl
  have s24 : r20 4 = .pointer (some ⟨b12, 0, none⟩) := (congrFun er21 4).trans rfl
  clear er21
  refine W.seq ?_
  refine W.seq ?_
  refine W.reg ?_
  refine W.call rfl rfl (X.callF go9 (by simp)) (sane_c _) ?_
  rintro _ w25 ⟨rfl, g26⟩
  have R27 := R18.gr g26
  refine W.val rfl rfl (X.not (ev' (.bool true) rfl rfl)) ?_
  refine W.nil ?_
  refine then_n ?_
  refine W.fresh ?_
  intro r28 er29
  have s30 : r28 2 = .int .i64 id := (congrFun er29 2).trans s22
  have s31 : r28 3 = .pointer (some ⟨b4, 0, none⟩) := (congrFun er29 3).trans s23
  have s32 : r28 4 = .pointer (some ⟨b12, 0, none⟩) := (congrFun er29 4).trans s24
  have s33 : r28 14 = .bool false := (congrFun er29 14).trans rfl
  clear er29
  refine W.condF rfl s33 ?_
  refine W.skip ?_
  refine then_n ?_
  refine W.seq ?_
  refine W.seq ?_
  refine W.reg ?_
  have h35 := hB6.gr g13
  have h36 := h35.gr g26
  refine W.val rfl rfl (X.loadR (ev' (.pointer (some ⟨b4, 0, none⟩)) rfl s31) rt24 (row_blk_trade h36) rfl) ?_
  have h37 := (ht.ext lt7).gr g5
  have h38 := (h37.ext lt15).gr g13
  have h39 := h38.gr g26
  refine W.call rfl rfl (X.callF go10 (args1 (ev' (T.val) rfl rfl))) (few_c _ h39) ?_
  rintro _ w40 ⟨rfl, g41⟩
  have R42 := R27.gr g41
  refine W.val rfl rfl (X.not (ev' (.bool (few t)) rfl rfl)) ?_
  refine W.val rfl rfl (X.move (ev' (.bool (!(few t))) rfl rfl)) ?_
  have h43 := hB14.gr g26
  have h44 := h43.gr g41
  refine W.gq rfl rfl rfl rfl rfl (fun _ => (X.loadR (ev' (.pointer (some ⟨b12, 0, none⟩)) rfl s32) rt30 (row_blk_msg h44) rfl)) ?_
  refine W.gcallS rfl rfl rfl rfl rfl (fun hc => X.callF go11 (args1 (ev' (.agg m.arr) rfl (gvt hc rfl)))) (fun _ => (fewM_c m _)) ?_
  intro w45 g46
  have R47 := R42.gr g46
  refine W.gq rfl rfl rfl rfl rfl (fun hc => (X.not (ev' (.bool (fewM m)) rfl (gvt hc rfl)))) ?_
  refine W.val rfl rfl (X.or (ev' (.bool (!(few t))) rfl rfl) (ev' (gv ((!(few t)) == false) (.bool (!(fewM m)))) rfl rfl)) ?_
  refine W.nil ?_
  refine then_n ?_
  refine W.fresh ?_
  intro r48 er49
  have s50 : r48 2 = .int .i64 id := (congrFun er49 2).trans s30
  have s51 : r48 3 = .pointer (some ⟨b4, 0, none⟩) := (congrFun er49 3).trans s31
  have s52 : r48 4 = .pointer (some ⟨b12, 0, none⟩) := (congrFun er49 4).trans s32
  have s53 : r48 22 = .bool ((!(few t)) || (!(fewM m))) := (congrFun er49 22).trans rfl
  clear er49
  refine W.cond rfl s53 (fun k54 => ?_) (fun k54 => ?_)
  · skip
    refine W.seq ?_
    refine W.reg ?_
    refine W.val rfl rfl (X.assign (evc' (.bool true))) ?_
    refine W.nil ?_
    refine then_n ?_
    refine W.fresh ?_
    intro r55 er56
    have s57 : r55 6 = .bool true := (congrFun er56 6).trans rfl
    clear er56
    refine W.ret (then_r (retT rfl rfl (show _ = (.bool true : Value) from s57) ⟨?_, R47⟩))
    rfl
  · skip
    refine W.skip ?_
    refine then_n ?_
    refine W.seq ?_
    refine W.reg ?_
    have h58 := h36.gr g41
    have h59 := h58.gr g46
    refine W.val rfl rfl (X.loadR (ev' (.pointer (some ⟨b4, 0, none⟩)) rfl s51) rt24 (row_blk_trade h59) rfl) ?_
    have h60 := h44.gr g46
    refine W.val rfl rfl (X.loadR (ev' (.pointer (some ⟨b12, 0, none⟩)) rfl s52) rt30 (row_blk_msg h60) rfl) ?_
    have h61 := h39.gr g41
    have h62 := h61.gr g46
    have h63 := hl.new g5 hB6.lt
    have h64 := h63.new g13 hB14.lt
    have h65 := h64.gr g26
    have h66 := h65.gr g41
    have h67 := h66.gr g46
    refine W.call rfl rfl (X.callF go12 (args2 (ev' (T.val) rfl rfl) (ev' (.agg m.arr) rfl rfl))) (tplace_c m _ h62 h67) ?_
    rintro _ w68 ⟨T69, rfl, hT70, g71⟩
    have R72 := R47.gr g71
    refine W.val rfl rfl (X.move (ev' (.tuple #[T69.val, .agg ((placeR t m).2.1).arr, .int .i64 ((placeR t m).2.2)]) rfl rfl)) ?_
    refine W.val rfl rfl (X.extract (ev' (.tuple #[T69.val, .agg ((placeR t m).2.1).arr, .int .i64 ((placeR t m).2.2)]) rfl rfl) rfl) ?_
    refine W.val rfl rfl (X.extract (ev' (.tuple #[T69.val, .agg ((placeR t m).2.1).arr, .int .i64 ((placeR t m).2.2)]) rfl rfl) rfl) ?_
    refine W.val rfl rfl (X.extract (ev' (.tuple #[T69.val, .agg ((placeR t m).2.1).arr, .int .i64 ((placeR t m).2.2)]) rfl rfl) rfl) ?_
    refine W.eff rfl rfl (Y.alloc (cs := TV.zero.arr) zero24 rfl) ?_
    rintro _ w74 ⟨b75, rfl, g76, hB77, lt78⟩
    have h79 := h59.gr g71
    have ne80 := h79.ne lt78
    have h81 := h60.gr g71
    have ne82 := h81.ne lt78
    have l83 := Nat.le_trans R72.size lt78
    have R84 := R72.gr g76
    refine W.eff rfl rfl (Y.alloc (cs := Msg.zero.arr) zero30 rfl) ?_
    rintro _ w86 ⟨b87, rfl, g88, hB89, lt90⟩
    have h91 := h79.gr g76
    have ne92 := h91.ne lt90
    have h93 := h81.gr g76
    have ne94 := h93.ne lt90
    have ne95 := hB77.ne lt90
    have l96 := Nat.le_trans R84.size lt90
    have R97 := R84.gr g88
    have h99 := hB77.gr g88
    refine W.eff0 rfl rfl (Y.storeW (ds := T69.arr) (ev' (.pointer (some ⟨b75, 0, none⟩)) rfl rfl) (ev' (T69.val) rfl rfl) h99 (n := 4) rfl sz24 rfl (TV.oneCell _) rfl) ?_
    rintro w100 ⟨c101, hB102⟩
    have R103 := R97.stN c101 l83
    have h105 := hB89.st c101 ne95.symm
    refine W.eff0 rfl rfl (Y.storeW (ds := ((placeR t m).2.1).arr) (ev' (.pointer (some ⟨b87, 0, none⟩)) rfl rfl) (ev' (.agg ((placeR t m).2.1).arr) rfl rfl) h105 (Msg.size_arr _) sz30 (Msg.size_arr _) (Msg.oneCellA _) rfl) ?_
    rintro w106 ⟨c107, hB108⟩
    have R109 := R103.stN c107 l96
    refine W.val rfl rfl (X.assign (ev' (.int .i64 ((placeR t m).2.2)) rfl rfl)) ?_
    refine W.nil ?_
    refine then_n ?_
    refine W.fresh ?_
    intro r111 er112
    have s113 : r111 2 = .int .i64 id := (congrFun er112 2).trans s50
    have s114 : r111 3 = .pointer (some ⟨b4, 0, none⟩) := (congrFun er112 3).trans s51
    have s115 : r111 4 = .pointer (some ⟨b12, 0, none⟩) := (congrFun er112 4).trans s52
    have s116 : r111 7 = .pointer (some ⟨b75, 0, none⟩) := (congrFun er112 7).trans rfl
    have s117 : r111 8 = .pointer (some ⟨b87, 0, none⟩) := (congrFun er112 8).trans rfl
    have s118 : r111 9 = .int .i64 ((placeR t m).2.2) := (congrFun er112 9).trans rfl
    clear er112
    refine W.seq ?_
    refine W.reg ?_
    have h119 := h91.gr g88
    have h120 := h119.st c101 ne80
    have h121 := h120.st c107 ne92
    refine W.val rfl rfl (X.loadR (ev' (.pointer (some ⟨b4, 0, none⟩)) rfl s114) rt24 (row_blk_trade h121) rfl) ?_
    have h122 := h93.gr g88
    have h123 := h122.st c101 ne82
    have h124 := h123.st c107 ne94
    refine W.val rfl rfl (X.loadR (ev' (.pointer (some ⟨b12, 0, none⟩)) rfl s115) rt30 (row_blk_msg h124) rfl) ?_
    have h125 := h62.gr g71
    have h126 := (h125.ext lt78).gr g76
    have h127 := (h126.ext lt90).gr g88
    have h128 := h127.st c101 (.tail _ (.head _))
    have h129 := h128.st c107 (.head _)
    have h130 := h67.gr g71
    have h131 := h130.new g76 hB77.lt
    have h132 := h131.new g88 hB89.lt
    have h133 := h132.gr c101
    have h134 := h133.gr c107
    refine W.call rfl rfl (X.callF go13 (args2 (ev' (T.val) rfl rfl) (ev' (.agg m.arr) rfl rfl))) (rplace_c m _ h129 h134) ?_
    rintro _ w135 ⟨T136, rfl, hT137, g138⟩
    have R139 := R109.gr g138
    refine W.val rfl rfl (X.move (ev' (.tuple #[T136.val, .agg ((placeR t m).2.1).arr, .int .i64 ((placeR t m).2.2)]) rfl rfl)) ?_
    refine W.val rfl rfl (X.extract (ev' (.tuple #[T136.val, .agg ((placeR t m).2.1).arr, .int .i64 ((placeR t m).2.2)]) rfl rfl) rfl) ?_
    refine W.val rfl rfl (X.extract (ev' (.tuple #[T136.val, .agg ((placeR t m).2.1).arr, .int .i64 ((placeR t m).2.2)]) rfl rfl) rfl) ?_
    refine W.val rfl rfl (X.extract (ev' (.tuple #[T136.val, .agg ((placeR t m).2.1).arr, .int .i64 ((placeR t m).2.2)]) rfl rfl) rfl) ?_
    refine W.eff rfl rfl (Y.alloc (cs := TV.zero.arr) zero24 rfl) ?_
    rintro _ w141 ⟨b142, rfl, g143, hB144, lt145⟩
    have h146 := h121.gr g138
    have ne147 := h146.ne lt145
    have h148 := h124.gr g138
    have ne149 := h148.ne lt145
    have h150 := hB102.st c107 ne95
    have h151 := h150.gr g138
    have ne152 := h151.ne lt145
    have h153 := hB108.gr g138
    have ne154 := h153.ne lt145
    have l155 := Nat.le_trans R139.size lt145
    have R156 := R139.gr g143
    refine W.eff rfl rfl (Y.alloc (cs := Msg.zero.arr) zero30 rfl) ?_
    rintro _ w158 ⟨b159, rfl, g160, hB161, lt162⟩
    have h163 := h146.gr g143
    have ne164 := h163.ne lt162
    have h165 := h148.gr g143
    have ne166 := h165.ne lt162
    have h167 := h151.gr g143
    have ne168 := h167.ne lt162
    have h169 := h153.gr g143
    have ne170 := h169.ne lt162
    have ne171 := hB144.ne lt162
    have l172 := Nat.le_trans R156.size lt162
    have R173 := R156.gr g160
    have h175 := hB144.gr g160
    refine W.eff0 rfl rfl (Y.storeW (ds := T136.arr) (ev' (.pointer (some ⟨b142, 0, none⟩)) rfl rfl) (ev' (T136.val) rfl rfl) h175 (n := 4) rfl sz24 rfl (TV.oneCell _) rfl) ?_
    rintro w176 ⟨c177, hB178⟩
    have R179 := R173.stN c177 l155
    have h181 := hB161.st c177 ne171.symm
    refine W.eff0 rfl rfl (Y.storeW (ds := ((placeR t m).2.1).arr) (ev' (.pointer (some ⟨b159, 0, none⟩)) rfl rfl) (ev' (.agg ((placeR t m).2.1).arr) rfl rfl) h181 (Msg.size_arr _) sz30 (Msg.size_arr _) (Msg.oneCellA _) rfl) ?_
    rintro w182 ⟨c183, hB184⟩
    have R185 := R179.stN c183 l172
    refine W.val rfl rfl (X.assign (ev' (.int .i64 ((placeR t m).2.2)) rfl rfl)) ?_
    refine W.nil ?_
    refine then_n ?_
    refine W.fresh ?_
    intro r187 er188
    have s189 : r187 2 = .int .i64 id := (congrFun er188 2).trans s113
    have s190 : r187 3 = .pointer (some ⟨b4, 0, none⟩) := (congrFun er188 3).trans s114
    have s191 : r187 7 = .pointer (some ⟨b75, 0, none⟩) := (congrFun er188 7).trans s116
    have s192 : r187 8 = .pointer (some ⟨b87, 0, none⟩) := (congrFun er188 8).trans s117
    have s193 : r187 9 = .int .i64 ((placeR t m).2.2) := (congrFun er188 9).trans s118
    have s194 : r187 10 = .pointer (some ⟨b142, 0, none⟩) := (congrFun er188 10).trans rfl
    have s195 : r187 11 = .pointer (some ⟨b159, 0, none⟩) := (congrFun er188 11).trans rfl
    have s196 : r187 12 = .int .i64 ((placeR t m).2.2) := (congrFun er188 12).trans rfl
    clear er188
    refine W.seq ?_
    refine A.begin' (cs := []) rfl ?_
    intro w197 g198
    have R199 := R185.gr g198
    have R200 : Chg [] w197 w197 := Chg.of_refl _ _
    have h201 := h167.gr g160
    have h202 := h201.st c177 ne152
    have h203 := h202.st c183 ne168
    have h204 := h203.gr g198
    refine A.take (i := 0) rfl (by kernel_rfl) (by kernel_rfl) (by kernel_rfl) (fun _ _ _ h => h) R200 rfl rfl (fun _ hw => (X.loadR (ev' (.pointer (some ⟨b75, 0, none⟩)) rfl s191) rt24 (row_blk_trade (h204.gr hw)) rfl)) ?_
    have h205 := hB178.st c183 ne171
    have h206 := h205.gr g198
    refine A.take (i := 1) rfl (by kernel_rfl) (by kernel_rfl) (by kernel_rfl) (fun _ _ _ h => h) R200 rfl rfl (fun _ hw => (X.loadR (ev' (.pointer (some ⟨b142, 0, none⟩)) rfl s194) rt24 (row_blk_trade (h206.gr hw)) rfl)) ?_
    refine A.one (i := 2) (by kernel_rfl) ?_
    have h207 := (hT70.ext lt78).gr g76
    have h208 := (h207.ext lt90).gr g88
    have h209 := h208.st c101 (.tail _ (.head _))
    have h210 := h209.st c107 (.head _)
    have h211 := h210.gr g138
    have h212 := (h211.ext lt145).gr g143
    have h213 := (h212.ext lt162).gr g160
    have h214 := h213.st c177 (.tail _ (.head _))
    have h215 := h214.st c183 (.head _)
    have h216 := h215.gr g198
    have h217 := (hT137.ext lt145).gr g143
    have h218 := (h217.ext lt162).gr g160
    have h219 := h218.st c177 (.tail _ (.head _))
    have h220 := h219.st c183 (.head _)
    have h221 := h220.gr g198
    refine E.call (i := 2) rfl rfl rfl (X.callF go14 (args2 (ev' (T69.val) rfl rfl) (ev' (T136.val) rfl rfl))) (sameT_c _ h216 h221) ?_
    rintro _ w222 ⟨rfl, g223⟩
    have R224 := R199.gr g223
    have R225 := R200.gr g223
    refine ⟨R225, ?_⟩
    refine A.take (i := 3) rfl (by kernel_rfl) (by kernel_rfl) (by kernel_rfl) (fun _ _ _ h => h) R225 rfl rfl (fun _ _ => (eqv (X.move (ev' (.bool (sameT ((placeR t m).1) ((placeR t m).1))) rfl rfl)) (show (sameT ((placeR t m).1) ((placeR t m).1)) = true from (sameT_refl _)))) ?_
    have h226 := h169.gr g160
    have h227 := h226.st c177 ne154
    have h228 := h227.st c183 ne170
    have h229 := h228.gr g198
    refine A.takeL (i := 4) rfl (by kernel_rfl) (by kernel_rfl) (by kernel_rfl) (fun _ _ _ _ h => h) R225 rfl rfl rfl rfl rfl rfl (fun _ hw => (X.loadR (ev' (.pointer (some ⟨b87, 0, none⟩)) rfl s192) rt30 (row_blk_msg (h229.gr hw)) rfl)) ?_
    have h230 := hB184.gr g198
    refine A.takeL (i := 5) rfl (by kernel_rfl) (by kernel_rfl) (by kernel_rfl) (fun _ _ _ _ h => h) R225 rfl rfl rfl rfl rfl rfl (fun _ hw => (X.loadR (ev' (.pointer (some ⟨b159, 0, none⟩)) rfl s195) rt30 (row_blk_msg (h230.gr hw)) rfl)) ?_
    refine A.one (i := 6) (by kernel_rfl) ?_
    refine E.callL (i := 6) rfl rfl rfl rfl rfl rfl rfl (X.callF go15 (args2 (ev' (.agg ((placeR t m).2.1).arr) rfl rfl) (ev' (.agg ((placeR t m).2.1).arr) rfl rfl))) (same_c ((placeR t m).2.1) ((placeR t m).2.1) _) ?_
    rintro _ w231 ⟨rfl, g232⟩
    have R233 := R224.gr g232
    have R234 := R225.gr g232
    refine ⟨R234, ?_⟩
    refine A.take (i := 7) rfl (by kernel_rfl) (by kernel_rfl) (by kernel_rfl) (fun _ _ _ h => h) R234 rfl rfl (fun _ _ => (eqv (X.and (ev' (.bool true) rfl rfl) (ev' (gv (true == true) (.bool (same ((placeR t m).2.1) ((placeR t m).2.1)))) rfl rfl)) (show (same ((placeR t m).2.1) ((placeR t m).2.1)) = true from (same_refl _)))) ?_
    refine A.take (i := 8) rfl (by kernel_rfl) (by kernel_rfl) (by kernel_rfl) (fun _ _ _ h => h) R234 rfl rfl (fun _ _ => (X.move (ev' (.bool true) rfl rfl))) ?_
    refine A.takeL (i := 9) rfl (by kernel_rfl) (by kernel_rfl) (by kernel_rfl) (fun _ _ _ _ h => h) R234 rfl rfl rfl rfl rfl rfl (fun _ _ => (X.move (ev' (.int .i64 ((placeR t m).2.2)) rfl s193))) ?_
    refine A.takeL (i := 10) rfl (by kernel_rfl) (by kernel_rfl) (by kernel_rfl) (fun _ _ _ _ h => h) R234 rfl rfl rfl rfl rfl rfl (fun _ _ => (X.move (ev' (.int .i64 ((placeR t m).2.2)) rfl s196))) ?_
    refine A.takeL (i := 11) rfl (by kernel_rfl) (by kernel_rfl) (by kernel_rfl) (fun _ _ _ _ h => h) R234 rfl rfl rfl rfl rfl rfl (fun _ _ => (X.eql (ev' (.int .i64 ((placeR t m).2.2)) rfl rfl) (ev' (.int .i64 ((placeR t m).2.2)) rfl rfl))) ?_
    refine A.take (i := 12) rfl (by kernel_rfl) (by kernel_rfl) (by kernel_rfl) (fun _ _ _ h => h) R234 rfl rfl (fun _ _ => (eqv (X.and (ev' (.bool true) rfl rfl) (ev' (gv (true == true) (.bool (((placeR t m).2.2 : Int) == ((placeR t m).2.2 : Int)))) rfl rfl)) (show (((placeR t m).2.2 : Int) == ((placeR t m).2.2 : Int)) = true from beq_self_eq_true _))) ?_
    refine A.take (i := 13) rfl (by kernel_rfl) (by kernel_rfl) (by kernel_rfl) (fun _ _ _ h => h) R234 rfl rfl (fun _ _ => (X.move (ev' (.bool true) rfl rfl))) ?_
    have h235 := h163.gr g160
    have h236 := h235.st c177 ne147
    have h237 := h236.st c183 ne164
    have h238 := h237.gr g198
    refine A.takeL (i := 14) rfl (by kernel_rfl) (by kernel_rfl) (by kernel_rfl) (fun _ _ _ _ h => h) R234 rfl rfl rfl rfl rfl rfl (fun _ hw => (X.loadR (ev' (.pointer (some ⟨b4, 0, none⟩)) rfl s190) rt24 (row_blk_trade (h238.gr hw)) rfl)) ?_
    refine A.takeL (i := 15) rfl (by kernel_rfl) (by kernel_rfl) (by kernel_rfl) (fun _ _ _ _ h => h) R234 rfl rfl rfl rfl rfl rfl (fun _ _ => (X.move (ev' (.int .i64 id) rfl s189))) ?_
    refine A.takeL (i := 17) rfl (by kernel_rfl) (by kernel_rfl) (by kernel_rfl) (fun _ _ _ _ h => h) R234 rfl rfl rfl rfl rfl rfl (fun _ hw => (X.loadR (ev' (.pointer (some ⟨b4, 0, none⟩)) rfl s190) rt24 (row_blk_trade (h238.gr hw)) rfl)) ?_
    refine A.takeL (i := 18) rfl (by kernel_rfl) (by kernel_rfl) (by kernel_rfl) (fun _ _ _ _ h => h) R234 rfl rfl rfl rfl rfl rfl (fun _ _ => (X.move (ev' (.int .i64 id) rfl s189))) ?_
    refine A.one (i := 16) (by kernel_rfl) ?_
    have h239 := h129.gr g138
    have h240 := (h239.ext lt145).gr g143
    have h241 := (h240.ext lt162).gr g160
    have h242 := h241.st c177 (.tail _ (.head _))
    have h243 := h242.st c183 (.head _)
    have h244 := h243.gr g198
    have h245 := h244.gr g223
    have h246 := h245.gr g232
    refine E.callL (i := 16) rfl rfl rfl rfl rfl rfl rfl (X.callF go16 (args2 (ev' (T.val) rfl rfl) (ev' (.int .i64 id) rfl rfl))) (tcheck_c id _ h246) ?_
    rintro _ w247 ⟨rfl, g248⟩
    have R249 := R233.gr g248
    have R250 := R234.gr g248
    refine ⟨R250, ?_⟩
    refine A.one (i := 19) (by kernel_rfl) ?_
    have h251 := h246.gr g248
    refine E.callL (i := 19) rfl rfl rfl rfl rfl rfl rfl (X.callF go17 (args2 (ev' (T.val) rfl rfl) (ev' (.int .i64 id) rfl rfl))) (rcheck_c id _ h251) ?_
    rintro _ w252 ⟨rfl, g253⟩
    have R254 := R249.gr g253
    have R255 := R250.gr g253
    refine ⟨R255, ?_⟩
    refine A.takeL (i := 20) rfl (by kernel_rfl) (by kernel_rfl) (by kernel_rfl) (fun _ _ _ _ h => h) R255 rfl rfl rfl rfl rfl rfl (fun _ _ => (X.eql (ev' (.int .i64 (chk t id)) rfl rfl) (ev' (.int .i64 (chk t id)) rfl rfl))) ?_
    refine A.take (i := 21) rfl (by kernel_rfl) (by kernel_rfl) (by kernel_rfl) (fun _ _ _ h => h) R255 rfl rfl (fun _ _ => (eqv (X.and (ev' (.bool true) rfl rfl) (ev' (gv (true == true) (.bool ((chk t id : Int) == (chk t id : Int)))) rfl rfl)) (show ((chk t id : Int) == (chk t id : Int)) = true from beq_self_eq_true _))) ?_
    refine A.take (i := 22) rfl (by kernel_rfl) (by kernel_rfl) (by kernel_rfl) (fun _ _ _ h => h) R255 rfl rfl (fun _ _ => (X.move (ev' (.bool true) rfl rfl))) ?_
    refine A.takeL (i := 23) rfl (by kernel_rfl) (by kernel_rfl) (by kernel_rfl) (fun _ _ _ _ h => h) R255 rfl rfl rfl rfl rfl rfl (fun _ hw => (X.loadR (ev' (.pointer (some ⟨b4, 0, none⟩)) rfl s190) rt24 (row_blk_trade (h238.gr hw)) rfl)) ?_
    refine A.takeL (i := 24) rfl (by kernel_rfl) (by kernel_rfl) (by kernel_rfl) (fun _ _ _ _ h => h) R255 rfl rfl rfl rfl rfl rfl (fun _ _ => (X.move (ev' (.int .i64 id) rfl s189))) ?_
    refine A.takeL (i := 26) rfl (by kernel_rfl) (by kernel_rfl) (by kernel_rfl) (fun _ _ _ _ h => h) R255 rfl rfl rfl rfl rfl rfl (fun _ hw => (X.loadR (ev' (.pointer (some ⟨b4, 0, none⟩)) rfl s190) rt24 (row_blk_trade (h238.gr hw)) rfl)) ?_
    refine A.takeL (i := 27) rfl (by kernel_rfl) (by kernel_rfl) (by kernel_rfl) (fun _ _ _ _ h => h) R255 rfl rfl rfl rfl rfl rfl (fun _ _ => (X.move (ev' (.int .i64 id) rfl s189))) ?_
    refine A.one (i := 25) (by kernel_rfl) ?_
    have h256 := h251.gr g253
    have h257 := h134.gr g138
    have h258 := h257.new g143 hB144.lt
    have h259 := h258.new g160 hB161.lt
    have h260 := h259.gr c177
    have h261 := h260.gr c183
    have h262 := h261.gr g198
    have h263 := h262.gr g223
    have h264 := h263.gr g232
    have h265 := h264.gr g248
    have h266 := h265.gr g253
    refine E.callL (i := 25) rfl rfl rfl rfl rfl rfl rfl (X.callF go19 (args2 (ev' (T.val) rfl rfl) (ev' (.int .i64 id) rfl rfl))) (twaiting_c id _ h256 h266 (few_len k54)) ?_
    rintro _ w267 ⟨s268, rfl, hS269, g270⟩
    have R271 := R254.gr g270
    have R272 := R255.gr g270
    refine ⟨R272, ?_⟩
    refine A.one (i := 28) (by kernel_rfl) ?_
    have h274 := h256.gr g270
    have h275 := h266.gr g270
    refine E.callL (i := 28) rfl rfl rfl rfl rfl rfl rfl (X.callF go20 (args2 (ev' (T.val) rfl rfl) (ev' (.int .i64 id) rfl rfl))) (rwaiting_c id _ h274 h275 (few_len k54)) ?_
    rintro _ w276 ⟨s277, rfl, hS278, g279⟩
    have R280 := R271.gr g279
    have R281 := R272.gr g279
    refine ⟨R281, ?_⟩
    refine A.one (i := 29) (by kernel_rfl) ?_
    have h283 := hS269.gr g279
    refine E.callL (i := 29) rfl rfl rfl rfl rfl rfl rfl (X.callF go18 (args2 (ev' (s268.val) rfl rfl) (ev' (s277.val) rfl rfl))) (sameL_c _ h283 hS278) ?_
    rintro _ w284 ⟨rfl, g285⟩
    have R286 := R280.gr g285
    have R287 := R281.gr g285
    refine ⟨R287, ?_⟩
    refine A.take (i := 30) rfl (by kernel_rfl) (by kernel_rfl) (by kernel_rfl) (fun _ _ _ h => h) R287 rfl rfl (fun _ _ => (eqv (X.and (ev' (.bool true) rfl rfl) (ev' (gv (true == true) (.bool (sameL (waitL t id) (waitL t id)))) rfl rfl)) (show (sameL (waitL t id) (waitL t id)) = true from (sameL_refl _)))) ?_
    refine A.take (i := 31) rfl (by kernel_rfl) (by kernel_rfl) (by kernel_rfl) (fun _ _ _ h => h) R287 rfl rfl (fun _ _ => (X.move (ev' (.bool true) rfl rfl))) ?_
    refine A.takeL (i := 33) rfl (by kernel_rfl) (by kernel_rfl) (by kernel_rfl) (fun _ _ _ _ h => h) R287 rfl rfl rfl rfl rfl rfl (fun _ _ => X.build24) ?_
    refine A.one (i := 32) (by kernel_rfl) ?_
    refine E.callL (i := 32) rfl rfl rfl rfl rfl rfl rfl (X.callF go21 (by simp)) (new_c _) ?_
    rintro _ w288 ⟨rfl, g289⟩
    have R290 := R286.gr g289
    have R291 := R287.gr g289
    refine ⟨R291, ?_⟩
    refine A.one (i := 34) (by kernel_rfl) ?_
    refine E.callL (i := 34) rfl rfl rfl rfl rfl rfl rfl (X.callF go14 (args2 (ev' (TV.zero.val) rfl rfl) (ev' (TV.zero.val) rfl rfl))) (sameT_c _ (Tr.zero_ (b159 :: b142 :: b87 :: b75 :: b12 :: b4 :: bs) _) (Tr.zero_ (b159 :: b142 :: b87 :: b75 :: b12 :: b4 :: bs) _)) ?_
    rintro _ w292 ⟨rfl, g293⟩
    have R294 := R290.gr g293
    have R295 := R291.gr g293
    refine ⟨R295, ?_⟩
    refine A.take (i := 35) rfl (by kernel_rfl) (by kernel_rfl) (by kernel_rfl) (fun _ _ _ h => h) R295 rfl rfl (fun _ _ => (eqv (X.and (ev' (.bool true) rfl rfl) (ev' (gv (true == true) (.bool (sameT Trade.zero Trade.zero))) rfl rfl)) (show (sameT Trade.zero Trade.zero) = true from (sameT_refl _)))) ?_
    refine A.take (i := 36) rfl (by kernel_rfl) (by kernel_rfl) (by kernel_rfl) (fun _ _ _ h => h) R295 rfl rfl (fun _ _ => (X.assign (ev' (.bool true) rfl rfl))) ?_
    refine A.done (by kernel_rfl) ?_
    refine then_n ?_
    refine W.fresh ?_
    intro r296 er297
    have s298 : r296 6 = .bool true := (congrFun er297 6).trans rfl
    clear er297
    refine W.ret (retT rfl rfl (show _ = (.bool true : Value) from s298) ⟨?_, R294⟩)
    rfl

theorem law2_c {bs : List Nat} {T : TV} {t : Trade} (m : Msg) (id : Int) (w : World) (ht : Tr bs w T t) (hl : LtAll bs w) : Calls Try.prog 4 #[T.val, .agg m.arr, .int .i64 id] w (Ret fun v w' => v = .bool (true) ∧ Grow w w') := by
  refine enter (N := 61) Try.func4 rfl Try.ntmps4 rfl ?_
  intro ρ hρ
  have a0 : ρ 0 = T.val := hρ 0 _ rfl
  have a1 : ρ 1 = .agg m.arr := hρ 1 _ rfl
  have a2 : ρ 2 = .int .i64 id := hρ 2 _ rfl
  clear hρ
  have R0 : Grow w w := Chg.refl w
  refine W.seq ?_
  refine W.reg ?_
  refine W.eff rfl rfl (Y.box (cs := T.arr) (ev' (T.val) rfl a0) rfl) ?_
  rintro _ w3 ⟨b4, rfl, g5, hB6, lt7⟩
  have l8 := Nat.le_trans R0.size lt7
  have R9 := R0.gr g5
  refine W.eff rfl rfl (Y.box (cs := m.arr) (ev' (.agg m.arr) rfl a1) rfl) ?_
  rintro _ w11 ⟨b12, rfl, g13, hB14, lt15⟩
  have ne16 := hB6.ne lt15
  have l17 := Nat.le_trans R9.size lt15
  have R18 := R9.gr g13
  refine W.val rfl rfl (X.assign (evc' (.bool false))) ?_
  refine W.nil ?_
  refine then_n ?_
  refine W.fresh ?_
  intro r20 er21
  have s22 : r20 2 = .int .i64 id := (congrFun er21 2).trans a2
  have s23 : r20 3 = .pointer (some ⟨b4, 0, none⟩) := (congrFun er21 3).trans rfl
  have s24 : r20 4 = .pointer (some ⟨b12, 0, none⟩) := (congrFun er21 4).trans rfl
  clear er21
  refine W.seq ?_
  refine W.seq ?_
  refine W.reg ?_
  refine W.call rfl rfl (X.callF go9 (by simp)) (sane_c _) ?_
  rintro _ w25 ⟨rfl, g26⟩
  have R27 := R18.gr g26
  refine W.val rfl rfl (X.not (ev' (.bool true) rfl rfl)) ?_
  refine W.nil ?_
  refine then_n ?_
  refine W.fresh ?_
  intro r28 er29
  have s30 : r28 2 = .int .i64 id := (congrFun er29 2).trans s22
  have s31 : r28 3 = .pointer (some ⟨b4, 0, none⟩) := (congrFun er29 3).trans s23
  have s32 : r28 4 = .pointer (some ⟨b12, 0, none⟩) := (congrFun er29 4).trans s24
  have s33 : r28 16 = .bool false := (congrFun er29 16).trans rfl
  clear er29
  refine W.condF rfl s33 ?_
  refine W.skip ?_
  refine then_n ?_
  refine W.seq ?_
  refine W.seq ?_
  refine W.reg ?_
  have h35 := hB6.gr g13
  have h36 := h35.gr g26
  refine W.val rfl rfl (X.loadR (ev' (.pointer (some ⟨b4, 0, none⟩)) rfl s31) rt24 (row_blk_trade h36) rfl) ?_
  have h37 := (ht.ext lt7).gr g5
  have h38 := (h37.ext lt15).gr g13
  have h39 := h38.gr g26
  refine W.call rfl rfl (X.callF go10 (args1 (ev' (T.val) rfl rfl))) (few_c _ h39) ?_
  rintro _ w40 ⟨rfl, g41⟩
  have R42 := R27.gr g41
  refine W.val rfl rfl (X.not (ev' (.bool (few t)) rfl rfl)) ?_
  refine W.val rfl rfl (X.move (ev' (.bool (!(few t))) rfl rfl)) ?_
  have h43 := hB14.gr g26
  have h44 := h43.gr g41
  refine W.gq rfl rfl rfl rfl rfl (fun _ => (X.loadR (ev' (.pointer (some ⟨b12, 0, none⟩)) rfl s32) rt30 (row_blk_msg h44) rfl)) ?_
  refine W.gcallS rfl rfl rfl rfl rfl (fun hc => X.callF go11 (args1 (ev' (.agg m.arr) rfl (gvt hc rfl)))) (fun _ => (fewM_c m _)) ?_
  intro w45 g46
  have R47 := R42.gr g46
  refine W.gq rfl rfl rfl rfl rfl (fun hc => (X.not (ev' (.bool (fewM m)) rfl (gvt hc rfl)))) ?_
  refine W.val rfl rfl (X.or (ev' (.bool (!(few t))) rfl rfl) (ev' (gv ((!(few t)) == false) (.bool (!(fewM m)))) rfl rfl)) ?_
  refine W.nil ?_
  refine then_n ?_
  refine W.fresh ?_
  intro r48 er49
  have s50 : r48 2 = .int .i64 id := (congrFun er49 2).trans s30
  have s51 : r48 3 = .pointer (some ⟨b4, 0, none⟩) := (congrFun er49 3).trans s31
  have s52 : r48 4 = .pointer (some ⟨b12, 0, none⟩) := (congrFun er49 4).trans s32
  have s53 : r48 24 = .bool ((!(few t)) || (!(fewM m))) := (congrFun er49 24).trans rfl
  clear er49
  refine W.cond rfl s53 (fun k54 => ?_) (fun k54 => ?_)
  · skip
    refine W.seq ?_
    refine W.reg ?_
    refine W.val rfl rfl (X.assign (evc' (.bool true))) ?_
    refine W.nil ?_
    refine then_n ?_
    refine W.fresh ?_
    intro r55 er56
    have s57 : r55 6 = .bool true := (congrFun er56 6).trans rfl
    clear er56
    refine W.ret (then_r (retT rfl rfl (show _ = (.bool true : Value) from s57) ⟨?_, R47⟩))
    rfl
  · skip
    refine W.skip ?_
    refine then_n ?_
    refine W.seq ?_
    refine W.reg ?_
    have h58 := h36.gr g41
    have h59 := h58.gr g46
    refine W.val rfl rfl (X.loadR (ev' (.pointer (some ⟨b4, 0, none⟩)) rfl s51) rt24 (row_blk_trade h59) rfl) ?_
    have h60 := h44.gr g46
    refine W.val rfl rfl (X.loadR (ev' (.pointer (some ⟨b12, 0, none⟩)) rfl s52) rt30 (row_blk_msg h60) rfl) ?_
    refine W.val rfl rfl (X.move (ev' (.int .i64 id) rfl s50)) ?_
    have h61 := h39.gr g41
    have h62 := h61.gr g46
    have h63 := hl.new g5 hB6.lt
    have h64 := h63.new g13 hB14.lt
    have h65 := h64.gr g26
    have h66 := h65.gr g41
    have h67 := h66.gr g46
    refine W.call rfl rfl (X.callF go22 (args3 (ev' (T.val) rfl rfl) (ev' (.agg m.arr) rfl rfl) (ev' (.int .i64 id) rfl rfl))) (ttake_c m id _ h62 h67) ?_
    rintro _ w68 ⟨T69, s70, rfl, hT71, hS72, g73⟩
    have R74 := R47.gr g73
    refine W.val rfl rfl (X.move (ev' (.tuple #[T69.val, s70.val, .bool ((takeR t m id).2.2.1), .int .i64 ((takeR t m id).2.2.2)]) rfl rfl)) ?_
    refine W.val rfl rfl (X.extract (ev' (.tuple #[T69.val, s70.val, .bool ((takeR t m id).2.2.1), .int .i64 ((takeR t m id).2.2.2)]) rfl rfl) rfl) ?_
    refine W.val rfl rfl (X.extract (ev' (.tuple #[T69.val, s70.val, .bool ((takeR t m id).2.2.1), .int .i64 ((takeR t m id).2.2.2)]) rfl rfl) rfl) ?_
    refine W.val rfl rfl (X.extract (ev' (.tuple #[T69.val, s70.val, .bool ((takeR t m id).2.2.1), .int .i64 ((takeR t m id).2.2.2)]) rfl rfl) rfl) ?_
    refine W.val rfl rfl (X.extract (ev' (.tuple #[T69.val, s70.val, .bool ((takeR t m id).2.2.1), .int .i64 ((takeR t m id).2.2.2)]) rfl rfl) rfl) ?_
    refine W.eff rfl rfl (Y.alloc (cs := TV.zero.arr) zero24 rfl) ?_
    rintro _ w77 ⟨b78, rfl, g79, hB80, lt81⟩
    have h82 := h59.gr g73
    have ne83 := h82.ne lt81
    have h84 := h60.gr g73
    have ne85 := h84.ne lt81
    have l86 := Nat.le_trans R74.size lt81
    have R87 := R74.gr g79
    refine W.eff0 rfl rfl (Y.storeW (ds := T69.arr) (ev' (.pointer (some ⟨b78, 0, none⟩)) rfl rfl) (ev' (T69.val) rfl rfl) hB80 (n := 4) rfl sz24 rfl (TV.oneCell _) rfl) ?_
    rintro w89 ⟨c90, hB91⟩
    have R92 := R87.stN c90 l86
    refine W.val rfl rfl (X.assign (ev' (s70.val) rfl rfl)) ?_
    refine W.val rfl rfl (X.assign (ev' (.bool ((takeR t m id).2.2.1)) rfl rfl)) ?_
    refine W.val rfl rfl (X.assign (ev' (.int .i64 ((takeR t m id).2.2.2)) rfl rfl)) ?_
    refine W.nil ?_
    refine then_n ?_
    refine W.fresh ?_
    intro r94 er95
    have s96 : r94 2 = .int .i64 id := (congrFun er95 2).trans s50
    have s97 : r94 3 = .pointer (some ⟨b4, 0, none⟩) := (congrFun er95 3).trans s51
    have s98 : r94 4 = .pointer (some ⟨b12, 0, none⟩) := (congrFun er95 4).trans s52
    have s99 : r94 7 = .pointer (some ⟨b78, 0, none⟩) := (congrFun er95 7).trans rfl
    have s100 : r94 8 = s70.val := (congrFun er95 8).trans rfl
    have s101 : r94 9 = .bool ((takeR t m id).2.2.1) := (congrFun er95 9).trans rfl
    have s102 : r94 10 = .int .i64 ((takeR t m id).2.2.2) := (congrFun er95 10).trans rfl
    clear er95
    refine W.seq ?_
    refine W.reg ?_
    have h103 := h82.gr g79
    have h104 := h103.st c90 ne83
    refine W.val rfl rfl (X.loadR (ev' (.pointer (some ⟨b4, 0, none⟩)) rfl s97) rt24 (row_blk_trade h104) rfl) ?_
    have h105 := h84.gr g79
    have h106 := h105.st c90 ne85
    refine W.val rfl rfl (X.loadR (ev' (.pointer (some ⟨b12, 0, none⟩)) rfl s98) rt30 (row_blk_msg h106) rfl) ?_
    refine W.val rfl rfl (X.move (ev' (.int .i64 id) rfl s96)) ?_
    have h107 := h62.gr g73
    have h108 := (h107.ext lt81).gr g79
    have h109 := h108.st c90 (.head _)
    have h110 := h67.gr g73
    have h111 := h110.new g79 hB80.lt
    have h112 := h111.gr c90
    refine W.call rfl rfl (X.callF go23 (args3 (ev' (T.val) rfl rfl) (ev' (.agg m.arr) rfl rfl) (ev' (.int .i64 id) rfl rfl))) (rtake_c m id _ h109 h112) ?_
    rintro _ w113 ⟨T114, s115, rfl, hT116, hS117, g118⟩
    have R119 := R92.gr g118
    refine W.val rfl rfl (X.move (ev' (.tuple #[T114.val, s115.val, .bool ((takeR t m id).2.2.1), .int .i64 ((takeR t m id).2.2.2)]) rfl rfl)) ?_
    refine W.val rfl rfl (X.extract (ev' (.tuple #[T114.val, s115.val, .bool ((takeR t m id).2.2.1), .int .i64 ((takeR t m id).2.2.2)]) rfl rfl) rfl) ?_
    refine W.val rfl rfl (X.extract (ev' (.tuple #[T114.val, s115.val, .bool ((takeR t m id).2.2.1), .int .i64 ((takeR t m id).2.2.2)]) rfl rfl) rfl) ?_
    refine W.val rfl rfl (X.extract (ev' (.tuple #[T114.val, s115.val, .bool ((takeR t m id).2.2.1), .int .i64 ((takeR t m id).2.2.2)]) rfl rfl) rfl) ?_
    refine W.val rfl rfl (X.extract (ev' (.tuple #[T114.val, s115.val, .bool ((takeR t m id).2.2.1), .int .i64 ((takeR t m id).2.2.2)]) rfl rfl) rfl) ?_
    refine W.eff rfl rfl (Y.alloc (cs := TV.zero.arr) zero24 rfl) ?_
    rintro _ w122 ⟨b123, rfl, g124, hB125, lt126⟩
    have h127 := h104.gr g118
    have ne128 := h127.ne lt126
    have h129 := h106.gr g118
    have ne130 := h129.ne lt126
    have h131 := hB91.gr g118
    have ne132 := h131.ne lt126
    have l133 := Nat.le_trans R119.size lt126
    have R134 := R119.gr g124
    refine W.eff0 rfl rfl (Y.storeW (ds := T114.arr) (ev' (.pointer (some ⟨b123, 0, none⟩)) rfl rfl) (ev' (T114.val) rfl rfl) hB125 (n := 4) rfl sz24 rfl (TV.oneCell _) rfl) ?_
    rintro w136 ⟨c137, hB138⟩
    have R139 := R134.stN c137 l133
    refine W.val rfl rfl (X.assign (ev' (s115.val) rfl rfl)) ?_
    refine W.val rfl rfl (X.assign (ev' (.bool ((takeR t m id).2.2.1)) rfl rfl)) ?_
    refine W.val rfl rfl (X.assign (ev' (.int .i64 ((takeR t m id).2.2.2)) rfl rfl)) ?_
    refine W.nil ?_
    refine then_n ?_
    refine W.fresh ?_
    intro r141 er142
    have s143 : r141 7 = .pointer (some ⟨b78, 0, none⟩) := (congrFun er142 7).trans s99
    have s144 : r141 8 = s70.val := (congrFun er142 8).trans s100
    have s145 : r141 9 = .bool ((takeR t m id).2.2.1) := (congrFun er142 9).trans s101
    have s146 : r141 10 = .int .i64 ((takeR t m id).2.2.2) := (congrFun er142 10).trans s102
    have s147 : r141 11 = .pointer (some ⟨b123, 0, none⟩) := (congrFun er142 11).trans rfl
    have s148 : r141 12 = s115.val := (congrFun er142 12).trans rfl
    have s149 : r141 13 = .bool ((takeR t m id).2.2.1) := (congrFun er142 13).trans rfl
    have s150 : r141 14 = .int .i64 ((takeR t m id).2.2.2) := (congrFun er142 14).trans rfl
    clear er142
    refine W.seq ?_
    refine W.reg ?_
    have h151 := h131.gr g124
    have h152 := h151.st c137 ne132
    refine W.val rfl rfl (X.loadR (ev' (.pointer (some ⟨b78, 0, none⟩)) rfl s143) rt24 (row_blk_trade h152) rfl) ?_
    refine W.val rfl rfl (X.loadR (ev' (.pointer (some ⟨b123, 0, none⟩)) rfl s147) rt24 (row_blk_trade hB138) rfl) ?_
    have h153 := (hT71.ext lt81).gr g79
    have h154 := h153.st c90 (.head _)
    have h155 := h154.gr g118
    have h156 := (h155.ext lt126).gr g124
    have h157 := h156.st c137 (.head _)
    have h158 := (hT116.ext lt126).gr g124
    have h159 := h158.st c137 (.head _)
    refine W.call rfl rfl (X.callF go14 (args2 (ev' (T69.val) rfl rfl) (ev' (T114.val) rfl rfl))) (sameT_c _ h157 h159) ?_
    rintro _ w160 ⟨rfl, g161⟩
    have R162 := R139.gr g161
    refine W.val rfl rfl (eqv (X.move (ev' (.bool (sameT ((takeR t m id).1) ((takeR t m id).1))) rfl rfl)) (show (sameT ((takeR t m id).1) ((takeR t m id).1)) = true from (sameT_refl _))) ?_
    refine W.valL rfl rfl rfl rfl rfl rfl (X.move (ev' (s70.val) rfl s144)) ?_
    refine W.valL rfl rfl rfl rfl rfl rfl (X.move (ev' (s115.val) rfl s148)) ?_
    have h163 := (hS72.ext lt81).gr g79
    have h164 := h163.st c90 (.head _)
    have h165 := h164.gr g118
    have h166 := (h165.ext lt126).gr g124
    have h167 := h166.st c137 (.head _)
    have h168 := h167.gr g161
    have h169 := (hS117.ext lt126).gr g124
    have h170 := h169.st c137 (.head _)
    have h171 := h170.gr g161
    refine W.callL rfl rfl rfl rfl rfl rfl (X.callF go18 (args2 (ev' (s70.val) rfl rfl) (ev' (s115.val) rfl rfl))) (sameL_c _ h168 h171) ?_
    rintro _ w172 ⟨rfl, g173⟩
    have R174 := R162.gr g173
    refine W.val rfl rfl (eqv (X.and (ev' (.bool true) rfl rfl) (ev' (gv (true == true) (.bool (sameL ((takeR t m id).2.1) ((takeR t m id).2.1)))) rfl rfl)) (show (sameL ((takeR t m id).2.1) ((takeR t m id).2.1)) = true from (sameL_refl _))) ?_
    refine W.val rfl rfl (X.move (ev' (.bool true) rfl rfl)) ?_
    refine W.valL rfl rfl rfl rfl rfl rfl (X.move (ev' (.bool ((takeR t m id).2.2.1)) rfl s145)) ?_
    refine W.valL rfl rfl rfl rfl rfl rfl (X.move (ev' (.bool ((takeR t m id).2.2.1)) rfl s149)) ?_
    refine W.valL rfl rfl rfl rfl rfl rfl (X.eqlB (ev' (.bool ((takeR t m id).2.2.1)) rfl rfl) (ev' (.bool ((takeR t m id).2.2.1)) rfl rfl) Try.underlying4) ?_
    refine W.val rfl rfl (eqv (X.and (ev' (.bool true) rfl rfl) (ev' (gv (true == true) (.bool (((takeR t m id).2.2.1) == ((takeR t m id).2.2.1)))) rfl rfl)) (show (((takeR t m id).2.2.1) == ((takeR t m id).2.2.1)) = true from beq_self_eq_true _)) ?_
    refine W.val rfl rfl (X.move (ev' (.bool true) rfl rfl)) ?_
    refine W.valL rfl rfl rfl rfl rfl rfl (X.move (ev' (.int .i64 ((takeR t m id).2.2.2)) rfl s146)) ?_
    refine W.valL rfl rfl rfl rfl rfl rfl (X.move (ev' (.int .i64 ((takeR t m id).2.2.2)) rfl s150)) ?_
    refine W.valL rfl rfl rfl rfl rfl rfl (X.eql (ev' (.int .i64 ((takeR t m id).2.2.2)) rfl rfl) (ev' (.int .i64 ((takeR t m id).2.2.2)) rfl rfl)) ?_
    refine W.val rfl rfl (eqv (X.and (ev' (.bool true) rfl rfl) (ev' (gv (true == true) (.bool (((takeR t m id).2.2.2 : Int) == ((takeR t m id).2.2.2 : Int)))) rfl rfl)) (show (((takeR t m id).2.2.2 : Int) == ((takeR t m id).2.2.2 : Int)) = true from beq_self_eq_true _)) ?_
    refine W.val rfl rfl (X.assign (ev' (.bool true) rfl rfl)) ?_
    refine W.nil ?_
    refine then_n ?_
    refine W.fresh ?_
    intro r175 er176
    have s177 : r175 6 = .bool true := (congrFun er176 6).trans rfl
    clear er176
    refine W.ret (retT rfl rfl (show _ = (.bool true : Value) from s177) ⟨?_, R174⟩)
    rfl

end Go.Proofs.Ytigimkmkbdnlpaa
