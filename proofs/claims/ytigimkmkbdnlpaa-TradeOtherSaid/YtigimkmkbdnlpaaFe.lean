/- Place and its reference. Printed by gen.py. -/
import Derived.Test.YtigimkmkbdnlpaaFb
import Derived.Test.YtigimkmkbdnlpaaFc
import Derived.Test.YtigimkmkbdnlpaaPl
namespace Go.Proofs.Ytigimkmkbdnlpaa
open Go.RowKit

theorem tplace_c {bs : List Nat} {T : TV} {t : Trade} (m : Msg) (w : World) (ht : Tr bs w T t) (hl : LtAll bs w) : Calls Try.prog 12 #[T.val, .agg m.arr] w (Ret fun v w' => ∃ T' : TV, v = .tuple #[T'.val, .agg (placeR t m).2.1.arr, .int .i64 (placeR t m).2.2] ∧ Tr bs w' T' (placeR t m).1 ∧ Grow w w') := by
  refine enter (N := 51) Try.func12 rfl Try.ntmps12 rfl ?_
  intro ρ hρ
  have a0 : ρ 0 = T.val := hρ 0 _ rfl
  have a1 : ρ 1 = .agg m.arr := hρ 1 _ rfl
  clear hρ
  have R0 : Grow w w := Chg.refl w
  refine W.seq ?_
  refine W.reg ?_
  refine W.eff rfl rfl (Y.box (cs := T.arr) (ev' (T.val) rfl a0) rfl) ?_
  rintro _ w3 ⟨b4, rfl, g5, hB6, lt7⟩
  have l8 := Nat.le_trans R0.size lt7
  have R9 := R0.gr g5
  refine W.eff rfl rfl (Y.box (cs := m.arr) (ev' (.agg m.arr) rfl a1) rfl) ?_
  rintro _ w11 ⟨b12, rfl, g13, hB14, lt15⟩
  have ne16 := hB6.ne lt15
  have l17 := Nat.le_trans R9.size lt15
  have R18 := R9.gr g13
  refine W.eff rfl rfl (Y.alloc (cs := TV.zero.arr) zero24 rfl) ?_
  rintro _ w20 ⟨b21, rfl, g22, hB23, lt24⟩
  have h25 := hB6.gr g13
  have ne26 := h25.ne lt24
  have ne27 := hB14.ne lt24
  have l28 := Nat.le_trans R18.size lt24
  have R29 := R18.gr g22
  refine W.eff rfl rfl (Y.alloc (cs := Msg.zero.arr) zero30 rfl) ?_
  rintro _ w31 ⟨b32, rfl, g33, hB34, lt35⟩
  have h36 := h25.gr g22
  have ne37 := h36.ne lt35
  have h38 := hB14.gr g22
  have ne39 := h38.ne lt35
  have ne40 := hB23.ne lt35
  have l41 := Nat.le_trans R29.size lt35
  have R42 := R29.gr g33
  refine W.val rfl rfl (X.assign (evc' (.int .i64 0))) ?_
  refine W.nil ?_
  refine then_n ?_
  refine W.fresh ?_
  intro r44 er45
  have s46 : r44 2 = .pointer (some ⟨b4, 0, none⟩) := (congrFun er45 2).trans rfl
  have s47 : r44 3 = .pointer (some ⟨b12, 0, none⟩) := (congrFun er45 3).trans rfl
  have s48 : r44 4 = .pointer (some ⟨b21, 0, none⟩) := (congrFun er45 4).trans rfl
  have s49 : r44 5 = .pointer (some ⟨b32, 0, none⟩) := (congrFun er45 5).trans rfl
  clear er45
  refine W.seq ?_
  refine W.seq ?_
  refine W.reg ?_
  have h50 := h36.gr g33
  refine W.val rfl rfl (X.loadR (ev' (.pointer (some ⟨b4, 0, none⟩)) rfl s46) rt24 (row_blk_trade h50) rfl) ?_
  refine W.val rfl rfl (X.fieldAddr (ev' (.pointer (some ⟨b12, 0, none⟩)) rfl s47) fo30_1 (b := ⟨b12, 1, none⟩) (Addr.add_lit _ _ _)) ?_
  have h51 := h38.gr g33
  refine W.val rfl rfl (X.load (ev' (.pointer (some ⟨b12, 1, none⟩)) rfl rfl) pt3 (Blk.lc h51 (Msg.arr1 _))) ?_
  have h52 := (ht.ext lt7).gr g5
  have h53 := (h52.ext lt15).gr g13
  have h54 := (h53.ext lt24).gr g22
  have h55 := (h54.ext lt35).gr g33
  refine W.call rfl rfl (X.callF go16 (args2 (ev' (T.val) rfl rfl) (ev' (.int .i64 m.frm) rfl rfl))) (tcheck_c m.frm _ h55) ?_
  rintro _ w56 ⟨rfl, g57⟩
  have R58 := R42.gr g57
  refine W.val rfl rfl (X.assign (ev' (.int .i64 (chk t m.frm)) rfl rfl)) ?_
  refine W.nil ?_
  refine then_n ?_
  refine W.fresh ?_
  intro r59 er60
  have s61 : r59 2 = .pointer (some ⟨b4, 0, none⟩) := (congrFun er60 2).trans s46
  have s62 : r59 3 = .pointer (some ⟨b12, 0, none⟩) := (congrFun er60 3).trans s47
  have s63 : r59 4 = .pointer (some ⟨b21, 0, none⟩) := (congrFun er60 4).trans s48
  have s64 : r59 5 = .pointer (some ⟨b32, 0, none⟩) := (congrFun er60 5).trans s49
  have s65 : r59 7 = .int .i64 (chk t m.frm) := (congrFun er60 7).trans rfl
  clear er60
  refine W.seq ?_
  refine W.reg ?_
  refine W.val rfl rfl (X.move (ev' (.int .i64 (chk t m.frm)) rfl s65)) ?_
  refine W.val rfl rfl (X.neq (ev' (.int .i64 (chk t m.frm)) rfl rfl) (evc' (.int .i64 0))) ?_
  refine W.nil ?_
  refine then_n ?_
  refine W.fresh ?_
  intro r66 er67
  have s68 : r66 2 = .pointer (some ⟨b4, 0, none⟩) := (congrFun er67 2).trans s61
  have s69 : r66 3 = .pointer (some ⟨b12, 0, none⟩) := (congrFun er67 3).trans s62
  have s70 : r66 4 = .pointer (some ⟨b21, 0, none⟩) := (congrFun er67 4).trans s63
  have s71 : r66 5 = .pointer (some ⟨b32, 0, none⟩) := (congrFun er67 5).trans s64
  have s72 : r66 7 = .int .i64 (chk t m.frm) := (congrFun er67 7).trans s65
  have s73 : r66 13 = .bool ((chk t m.frm : Int) != (0 : Int)) := (congrFun er67 13).trans rfl
  clear er67
  refine W.cond rfl s73 (fun k74 => ?_) (fun k74 => ?_)
  · skip
    refine W.seq ?_
    refine W.reg ?_
    refine W.val rfl rfl X.build24 ?_
    refine W.val rfl rfl X.build30z ?_
    refine W.val rfl rfl (X.move (ev' (.int .i64 (chk t m.frm)) rfl s72)) ?_
    have h75 := hB23.gr g33
    have h76 := h75.gr g57
    refine W.eff0 rfl rfl (Y.storeW (ds := TV.zero.arr) (ev' (.pointer (some ⟨b21, 0, none⟩)) rfl s70) (ev' (TV.zero.val) rfl rfl) h76 (n := 4) rfl sz24 rfl (TV.oneCell _) rfl) ?_
    rintro w77 ⟨c78, hB79⟩
    have R80 := R58.stN c78 l28
    have h82 := hB34.gr g57
    have h83 := h82.st c78 ne40.symm
    refine W.eff0 rfl rfl (Y.storeW (ds := Msg.zero.arr) (ev' (.pointer (some ⟨b32, 0, none⟩)) rfl s71) (ev' (.agg Msg.zero.arr) rfl rfl) h83 (Msg.size_arr _) sz30 (Msg.size_arr _) (Msg.oneCellA _) rfl) ?_
    rintro w84 ⟨c85, hB86⟩
    have R87 := R80.stN c85 l41
    refine W.val rfl rfl (X.assign (ev' (.int .i64 (chk t m.frm)) rfl rfl)) ?_
    refine W.nil ?_
    refine then_n ?_
    refine W.fresh ?_
    intro r89 er90
    have s91 : r89 4 = .pointer (some ⟨b21, 0, none⟩) := (congrFun er90 4).trans s70
    have s92 : r89 5 = .pointer (some ⟨b32, 0, none⟩) := (congrFun er90 5).trans s71
    have s93 : r89 6 = .int .i64 (chk t m.frm) := (congrFun er90 6).trans rfl
    clear er90
    have h94 := hB79.st c85 ne40
    have h95 := h55.gr g57
    have h96 := h95.st c78 (.tail _ (.head _))
    have h97 := h96.st c85 (.head _)
    have pe98 : placeR t m = _ := (by exact (place_1 k74))
    have hT99 : Tr (b32 :: b21 :: b12 :: b4 :: bs) w84 TV.zero Trade.zero := (Tr.zero_ _ _)
    refine W.ret (then_r (retCCT rfl rfl (show _ = (.pointer (some ⟨b21, 0, none⟩) : Value) from s91) (run_loadAt_row rt24 (row_blk_trade h94)) rfl (show _ = (.pointer (some ⟨b32, 0, none⟩) : Value) from s92) (run_loadAt_row rt30 (row_blk_msg hB86)) rfl (show _ = (.int .i64 (chk t m.frm) : Value) from s93) ⟨TV.zero, congrArg (fun (p : Trade × Msg × Int) => Value.tuple #[TV.val TV.zero, .agg (Msg.arr p.2.1), .int .i64 p.2.2]) (Eq.symm pe98), by rw [pe98]; exact hT99.tl.tl.tl.tl, R87⟩))
  · skip
    refine W.skip ?_
    refine then_n ?_
    refine W.seq ?_
    refine W.seq ?_
    refine W.reg ?_
    refine W.val rfl rfl (X.fieldAddr (ev' (.pointer (some ⟨b4, 0, none⟩)) rfl s68) fo24_0 (b := ⟨b4, 0, none⟩) (Addr.add_lit _ _ _)) ?_
    have h100 := h50.gr g57
    refine W.val rfl rfl (X.load (ev' (.pointer (some ⟨b4, 0, none⟩)) rfl rfl) pt3 (Blk.lc h100 rfl)) ?_
    refine W.val rfl rfl (X.eql (ev' (.int .i64 T.next) rfl rfl) (evc' (.int .i64 4096))) ?_
    refine W.nil ?_
    refine then_n ?_
    refine W.fresh ?_
    intro r101 er102
    have s103 : r101 2 = .pointer (some ⟨b4, 0, none⟩) := (congrFun er102 2).trans s68
    have s104 : r101 3 = .pointer (some ⟨b12, 0, none⟩) := (congrFun er102 3).trans s69
    have s105 : r101 4 = .pointer (some ⟨b21, 0, none⟩) := (congrFun er102 4).trans s70
    have s106 : r101 5 = .pointer (some ⟨b32, 0, none⟩) := (congrFun er102 5).trans s71
    have s107 : r101 19 = .bool ((T.next : Int) == (4096 : Int)) := (congrFun er102 19).trans rfl
    clear er102
    refine W.cond rfl s107 (fun k108 => ?_) (fun k108 => ?_)
    · skip
      refine W.seq ?_
      refine W.reg ?_
      refine W.val rfl rfl X.build24 ?_
      refine W.val rfl rfl X.build30z ?_
      have h109 := hB23.gr g33
      have h110 := h109.gr g57
      refine W.eff0 rfl rfl (Y.storeW (ds := TV.zero.arr) (ev' (.pointer (some ⟨b21, 0, none⟩)) rfl s105) (ev' (TV.zero.val) rfl rfl) h110 (n := 4) rfl sz24 rfl (TV.oneCell _) rfl) ?_
      rintro w111 ⟨c112, hB113⟩
      have R114 := R58.stN c112 l28
      have h116 := hB34.gr g57
      have h117 := h116.st c112 ne40.symm
      refine W.eff0 rfl rfl (Y.storeW (ds := Msg.zero.arr) (ev' (.pointer (some ⟨b32, 0, none⟩)) rfl s106) (ev' (.agg Msg.zero.arr) rfl rfl) h117 (Msg.size_arr _) sz30 (Msg.size_arr _) (Msg.oneCellA _) rfl) ?_
      rintro w118 ⟨c119, hB120⟩
      have R121 := R114.stN c119 l41
      refine W.val rfl rfl (X.assign (evc' (.int .i64 2))) ?_
      refine W.nil ?_
      refine then_n ?_
      refine W.fresh ?_
      intro r123 er124
      have s125 : r123 4 = .pointer (some ⟨b21, 0, none⟩) := (congrFun er124 4).trans s105
      have s126 : r123 5 = .pointer (some ⟨b32, 0, none⟩) := (congrFun er124 5).trans s106
      have s127 : r123 6 = .int .i64 2 := (congrFun er124 6).trans rfl
      clear er124
      have h128 := hB113.st c119 ne40
      have h129 := h55.gr g57
      have h130 := h129.st c112 (.tail _ (.head _))
      have h131 := h130.st c119 (.head _)
      have pe132 : placeR t m = _ := (by exact (place_2 ht.next k74 k108))
      have hT133 : Tr (b32 :: b21 :: b12 :: b4 :: bs) w118 TV.zero Trade.zero := (Tr.zero_ _ _)
      refine W.ret (then_r (retCCT rfl rfl (show _ = (.pointer (some ⟨b21, 0, none⟩) : Value) from s125) (run_loadAt_row rt24 (row_blk_trade h128)) rfl (show _ = (.pointer (some ⟨b32, 0, none⟩) : Value) from s126) (run_loadAt_row rt30 (row_blk_msg hB120)) rfl (show _ = (.int .i64 2 : Value) from s127) ⟨TV.zero, congrArg (fun (p : Trade × Msg × Int) => Value.tuple #[TV.val TV.zero, .agg (Msg.arr p.2.1), .int .i64 p.2.2]) (Eq.symm pe132), by rw [pe132]; exact hT133.tl.tl.tl.tl, R121⟩))
    · skip
      refine W.skip ?_
      refine then_n ?_
      refine W.seq ?_
      refine W.reg ?_
      have h134 := h51.gr g57
      refine W.val rfl rfl (X.loadR (ev' (.pointer (some ⟨b12, 0, none⟩)) rfl s104) rt30 (row_blk_msg h134) rfl) ?_
      have h135 := hB34.gr g57
      refine W.eff0 rfl rfl (Y.storeW (ds := m.arr) (ev' (.pointer (some ⟨b32, 0, none⟩)) rfl s106) (ev' (.agg m.arr) rfl rfl) h135 (Msg.size_arr _) sz30 (Msg.size_arr _) (Msg.oneCellA _) rfl) ?_
      rintro w136 ⟨c137, hB138⟩
      have R139 := R58.stN c137 l41
      refine W.nil ?_
      refine then_n ?_
      refine W.fresh ?_
      intro r141 er142
      have s143 : r141 2 = .pointer (some ⟨b4, 0, none⟩) := (congrFun er142 2).trans s103
      have s144 : r141 4 = .pointer (some ⟨b21, 0, none⟩) := (congrFun er142 4).trans s105
      have s145 : r141 5 = .pointer (some ⟨b32, 0, none⟩) := (congrFun er142 5).trans s106
      clear er142
      refine W.seq ?_
      refine W.reg ?_
      refine W.val rfl rfl (X.fieldAddr (ev' (.pointer (some ⟨b4, 0, none⟩)) rfl s143) fo24_0 (b := ⟨b4, 0, none⟩) (Addr.add_lit _ _ _)) ?_
      have h146 := h100.st c137 ne37
      refine W.val rfl rfl (X.load (ev' (.pointer (some ⟨b4, 0, none⟩)) rfl rfl) pt3 (Blk.lc h146 rfl)) ?_
      refine W.val rfl rfl (X.fieldAddr (ev' (.pointer (some ⟨b32, 0, none⟩)) rfl s145) fo30_3 (b := ⟨b32, 3, none⟩) (Addr.add_lit _ _ _)) ?_
      refine W.eff0 rfl rfl (Y.storeC (ds := ({ m with no := T.next } : Msg).arr) (ev' (.pointer (some ⟨b32, 3, none⟩)) rfl rfl) (ev' (.int .i64 T.next) rfl rfl) hB138 (by rw [Msg.size_arr]; decide) sz3 rfl rfl (Msg.set3 _ _)) ?_
      rintro w147 ⟨c148, hB149⟩
      have R150 := R139.stN c148 l41
      refine W.nil ?_
      refine then_n ?_
      refine W.fresh ?_
      intro r152 er153
      have s154 : r152 2 = .pointer (some ⟨b4, 0, none⟩) := (congrFun er153 2).trans s143
      have s155 : r152 4 = .pointer (some ⟨b21, 0, none⟩) := (congrFun er153 4).trans s144
      have s156 : r152 5 = .pointer (some ⟨b32, 0, none⟩) := (congrFun er153 5).trans s145
      clear er153
      refine W.seq ?_
      refine W.seq ?_
      refine W.reg ?_
      refine W.val rfl rfl (X.loadR (ev' (.pointer (some ⟨b32, 0, none⟩)) rfl s156) rt30 (row_blk_msg hB149) rfl) ?_
      refine W.call rfl rfl (X.callF go36 (args1 (ev' (.agg ({ m with no := T.next } : Msg).arr) rfl rfl))) (right_c ({ m with no := T.next } : Msg) _) ?_
      rintro _ w157 ⟨rfl, g158⟩
      have R159 := R150.gr g158
      refine W.val rfl rfl (X.not (ev' (.bool (ok ({ m with no := T.next } : Msg))) rfl rfl)) ?_
      refine W.val rfl rfl (X.move (ev' (.bool (!(ok ({ m with no := T.next } : Msg)))) rfl rfl)) ?_
      refine W.gq rfl rfl rfl rfl rfl (fun _ => (X.fieldAddr (ev' (.pointer (some ⟨b32, 0, none⟩)) rfl s156) fo30_0 (b := ⟨b32, 0, none⟩) (Addr.add_lit _ _ _))) ?_
      have h160 := hB149.gr g158
      refine W.gq rfl rfl rfl rfl rfl (fun hc => (X.load (ev' (.pointer (some ⟨b32, 0, none⟩)) rfl (gvt hc rfl)) pt3 (Blk.lc h160 (Msg.arr0 _)))) ?_
      refine W.gcallS rfl rfl rfl rfl rfl (fun hc => X.callF go37 (args1 (ev' (.int .i64 (({ m with no := T.next } : Msg).kind)) rfl (gvt hc rfl)))) (fun _ => (placed_c (({ m with no := T.next } : Msg).kind) _)) ?_
      intro w161 g162
      have R163 := R159.gr g162
      refine W.gq rfl rfl rfl rfl rfl (fun hc => (X.not (ev' (.bool (({ m with no := T.next } : Msg).kind == 1 || ({ m with no := T.next } : Msg).kind == 3)) rfl (gvt hc rfl)))) ?_
      refine W.valN rfl rfl (X.or (ev' (.bool (!(ok ({ m with no := T.next } : Msg)))) rfl rfl) (ev' (gv ((!(ok ({ m with no := T.next } : Msg))) == false) (.bool (!(({ m with no := T.next } : Msg).kind == 1 || ({ m with no := T.next } : Msg).kind == 3)))) rfl rfl)) ?_
      intro q164 eq164
      refine W.nil ?_
      refine then_n ?_
      refine W.fresh ?_
      intro r165 er166
      have s167 : r165 2 = .pointer (some ⟨b4, 0, none⟩) := (congrFun er166 2).trans s154
      have s168 : r165 4 = .pointer (some ⟨b21, 0, none⟩) := (congrFun er166 4).trans s155
      have s169 : r165 5 = .pointer (some ⟨b32, 0, none⟩) := (congrFun er166 5).trans s156
      have s170 : r165 34 = .bool q164 := (congrFun er166 34).trans rfl
      clear er166
      refine W.cond rfl s170 (fun k171 => ?_) (fun k171 => ?_)
      · skip
        refine W.seq ?_
        refine W.reg ?_
        refine W.val rfl rfl X.build24 ?_
        refine W.val rfl rfl X.build30z ?_
        have h172 := hB23.gr g33
        have h173 := h172.gr g57
        have h174 := h173.st c137 ne40
        have h175 := h174.st c148 ne40
        have h176 := h175.gr g158
        have h177 := h176.gr g162
        refine W.eff0 rfl rfl (Y.storeW (ds := TV.zero.arr) (ev' (.pointer (some ⟨b21, 0, none⟩)) rfl s168) (ev' (TV.zero.val) rfl rfl) h177 (n := 4) rfl sz24 rfl (TV.oneCell _) rfl) ?_
        rintro w178 ⟨c179, hB180⟩
        have R181 := R163.stN c179 l28
        have h183 := h160.gr g162
        have h184 := h183.st c179 ne40.symm
        refine W.eff0 rfl rfl (Y.storeW (ds := Msg.zero.arr) (ev' (.pointer (some ⟨b32, 0, none⟩)) rfl s169) (ev' (.agg Msg.zero.arr) rfl rfl) h184 (Msg.size_arr _) sz30 (Msg.size_arr _) (Msg.oneCellA _) rfl) ?_
        rintro w185 ⟨c186, hB187⟩
        have R188 := R181.stN c186 l41
        refine W.val rfl rfl (X.assign (evc' (.int .i64 480))) ?_
        refine W.nil ?_
        refine then_n ?_
        refine W.fresh ?_
        intro r190 er191
        have s192 : r190 4 = .pointer (some ⟨b21, 0, none⟩) := (congrFun er191 4).trans s168
        have s193 : r190 5 = .pointer (some ⟨b32, 0, none⟩) := (congrFun er191 5).trans s169
        have s194 : r190 6 = .int .i64 480 := (congrFun er191 6).trans rfl
        clear er191
        have h195 := hB180.st c186 ne40
        have h196 := h55.gr g57
        have h197 := h196.st c137 (.head _)
        have h198 := h197.st c148 (.head _)
        have h199 := h198.gr g158
        have h200 := h199.gr g162
        have h201 := h200.st c179 (.tail _ (.head _))
        have h202 := h201.st c186 (.head _)
        have pe203 : placeR t m = _ := (by subst eq164; exact (place_3 ht.next k74 k108 k171))
        have hT204 : Tr (b32 :: b21 :: b12 :: b4 :: bs) w185 TV.zero Trade.zero := (Tr.zero_ _ _)
        refine W.ret (then_r (retCCT rfl rfl (show _ = (.pointer (some ⟨b21, 0, none⟩) : Value) from s192) (run_loadAt_row rt24 (row_blk_trade h195)) rfl (show _ = (.pointer (some ⟨b32, 0, none⟩) : Value) from s193) (run_loadAt_row rt30 (row_blk_msg hB187)) rfl (show _ = (.int .i64 480 : Value) from s194) ⟨TV.zero, congrArg (fun (p : Trade × Msg × Int) => Value.tuple #[TV.val TV.zero, .agg (Msg.arr p.2.1), .int .i64 p.2.2]) (Eq.symm pe203), by rw [pe203]; exact hT204.tl.tl.tl.tl, R188⟩))
      · skip
        refine W.skip ?_
        refine then_n ?_
        refine W.seq ?_
        refine W.reg ?_
        have h205 := h146.st c148 ne37
        have h206 := h205.gr g158
        have h207 := h206.gr g162
        refine W.val rfl rfl (X.loadR (ev' (.pointer (some ⟨b4, 0, none⟩)) rfl s167) rt24 (row_blk_trade h207) rfl) ?_
        have h208 := hB23.gr g33
        have h209 := h208.gr g57
        have h210 := h209.st c137 ne40
        have h211 := h210.st c148 ne40
        have h212 := h211.gr g158
        have h213 := h212.gr g162
        refine W.eff0 rfl rfl (Y.storeW (ds := T.arr) (ev' (.pointer (some ⟨b21, 0, none⟩)) rfl s168) (ev' (T.val) rfl rfl) h213 (n := 4) rfl sz24 rfl (TV.oneCell _) rfl) ?_
        rintro w214 ⟨c215, hB216⟩
        have R217 := R163.stN c215 l28
        refine W.nil ?_
        refine then_n ?_
        refine W.fresh ?_
        intro r219 er220
        have s221 : r219 2 = .pointer (some ⟨b4, 0, none⟩) := (congrFun er220 2).trans s167
        have s222 : r219 4 = .pointer (some ⟨b21, 0, none⟩) := (congrFun er220 4).trans s168
        have s223 : r219 5 = .pointer (some ⟨b32, 0, none⟩) := (congrFun er220 5).trans s169
        clear er220
        refine W.seq ?_
        refine W.reg ?_
        refine W.val rfl rfl (X.fieldAddr (ev' (.pointer (some ⟨b21, 0, none⟩)) rfl s222) fo24_0 (b := ⟨b21, 0, none⟩) (Addr.add_lit _ _ _)) ?_
        refine W.val rfl rfl (X.load (ev' (.pointer (some ⟨b21, 0, none⟩)) rfl rfl) pt3 (Blk.lc hB216 rfl)) ?_
        refine W.val rfl rfl (X.addIn (ev' (.int .i64 T.next) rfl rfl) (evc' (.int .i64 1)) (next_small ht.next k74).1 (next_small ht.next k74).2) ?_
        refine W.val rfl rfl (X.fieldAddr (ev' (.pointer (some ⟨b21, 0, none⟩)) rfl s222) fo24_0 (b := ⟨b21, 0, none⟩) (Addr.add_lit _ _ _)) ?_
        refine W.eff0 rfl rfl (Y.storeC (ds := ({ T with next := T.next + 1 } : TV).arr) (ev' (.pointer (some ⟨b21, 0, none⟩)) rfl rfl) (ev' (.int .i64 (T.next + 1)) rfl rfl) hB216 (show 0 < 4 from by decide) sz3 rfl rfl rfl) ?_
        rintro w224 ⟨c225, hB226⟩
        have R227 := R217.stN c225 l28
        refine W.nil ?_
        refine then_n ?_
        refine W.fresh ?_
        intro r229 er230
        have s231 : r229 2 = .pointer (some ⟨b4, 0, none⟩) := (congrFun er230 2).trans s221
        have s232 : r229 4 = .pointer (some ⟨b21, 0, none⟩) := (congrFun er230 4).trans s222
        have s233 : r229 5 = .pointer (some ⟨b32, 0, none⟩) := (congrFun er230 5).trans s223
        clear er230
        refine W.seq ?_
        refine A.begin' (cs := [b21]) rfl ?_
        intro w234 g235
        have R236 := R227.gr g235
        have R237 : Chg [b21] w234 w234 := Chg.of_refl _ _
        refine A.take (i := 0) rfl (by kernel_rfl) (by kernel_rfl) (by kernel_rfl) (fun _ _ _ h => h) R237 rfl rfl (fun _ _ => (X.fieldAddr (ev' (.pointer (some ⟨b4, 0, none⟩)) rfl s231) fo24_1 (b := ⟨b4, 1, none⟩) (Addr.add_lit _ _ _))) ?_
        have h238 := h207.st c215 ne26
        have h239 := h238.st c225 ne26
        have h240 := h239.gr g235
        refine A.take (i := 1) rfl (by kernel_rfl) (by kernel_rfl) (by kernel_rfl) (fun _ _ _ h => h) R237 rfl rfl (fun _ hw => (X.load (ev' (.pointer (some ⟨b4, 1, none⟩)) rfl rfl) pt22 (Blk.lc (h240.chg hw (by simp [ne26])) rfl))) ?_
        have h241 := h160.gr g162
        have h242 := h241.st c215 ne40.symm
        have h243 := h242.st c225 ne40.symm
        have h244 := h243.gr g235
        refine A.take (i := 3) rfl (by kernel_rfl) (by kernel_rfl) (by kernel_rfl) (fun _ _ _ h => h) R237 rfl rfl (fun _ hw => (X.loadR (ev' (.pointer (some ⟨b32, 0, none⟩)) rfl s233) rt30 (row_blk_msg (h244.chg hw (by simp [ne40.symm]))) rfl)) ?_
        refine A.two (i := 2) (j := 4) (by kernel_rfl) ?_ ?_
        · skip
          have h245 := h55.gr g57
          have h246 := h245.st c137 (.head _)
          have h247 := h246.st c148 (.head _)
          have h248 := h247.gr g158
          have h249 := h248.gr g162
          have h250 := h249.st c215 (.tail _ (.head _))
          have h251 := h250.st c225 (.tail _ (.head _))
          have h252 := h251.gr g235
          refine E.call (i := 2) rfl rfl rfl (X.callF go38 (args1 (ev' (T.p.val) rfl rfl))) (clip_c _ h252.p) ?_
          rintro _ w253 ⟨rfl, g254⟩
          have R255 := R236.gr g254
          have R256 := R237.gr g254
          refine ⟨R256, ?_⟩
          refine A.one (i := 4) (by kernel_rfl) ?_
          have h257 := hl.new g5 hB6.lt
          have h258 := h257.new g13 hB14.lt
          have h259 := h258.new g22 hB23.lt
          have h260 := h259.new g33 hB34.lt
          have h261 := h260.gr g57
          have h262 := h261.gr c137
          have h263 := h262.gr c148
          have h264 := h263.gr g158
          have h265 := h264.gr g162
          have h266 := h265.gr c215
          have h267 := h266.gr c225
          have h268 := h267.gr g235
          have h269 := h268.gr g254
          refine E.eff (i := 4) rfl rfl rfl (Y.slice1 (bs := (b32 :: b21 :: b12 :: b4 :: bs)) (ev' (.agg ({ m with no := T.next } : Msg).arr) rfl rfl) h269) ?_
          rintro _ w270 ⟨s271, rfl, g272, hs273⟩
          have R274 := R255.gr g272
          have R275 := R256.gr g272
          refine ⟨R275, ?_⟩
          refine A.one (i := 5) (by kernel_rfl) ?_
          have h277 := h252.gr g254
          have h278 := h277.gr g272
          have h279 := h269.gr g272
          refine E.eff (i := 5) rfl rfl rfl (Y.append (ev' ((clip T.p).val) rfl rfl) (ev' (s271.val) rfl rfl) (Sl.clip h278.p) hs273 rfl (by simp) (placed_len k74) h279) ?_
          rintro _ w280 ⟨s281, rfl, g282, hs283⟩
          have R284 := R274.gr g282
          have R285 := R275.gr g282
          refine ⟨R285, ?_⟩
          refine A.take (i := 6) rfl (by kernel_rfl) (by kernel_rfl) (by kernel_rfl) (fun _ _ _ h => h) R285 rfl rfl (fun _ _ => (X.fieldAddr (ev' (.pointer (some ⟨b21, 0, none⟩)) rfl s232) fo24_1 (b := ⟨b21, 1, none⟩) (Addr.add_lit _ _ _))) ?_
          refine A.one (i := 7) (by kernel_rfl) ?_
          have h287 := hB226.gr g235
          have h288 := h287.gr g254
          have h289 := h288.gr g272
          have h290 := h289.gr g282
          refine E.eff0 (i := 7) rfl rfl rfl (Y.storeC (ds := ({ ({ T with next := T.next + 1 } : TV) with p := s281 } : TV).arr) (ev' (.pointer (some ⟨b21, 1, none⟩)) rfl rfl) (ev' (s281.val) rfl rfl) h290 (show 1 < 4 from by decide) sz22 rfl rfl rfl) ?_
          rintro w291 ⟨c292, hB293⟩
          have R294 := R284.stN c292 l28
          have R295 := R285.stO c292 (.head _)
          refine ⟨R295, ?_⟩
          refine A.done (by kernel_rfl) ?_
          refine then_n ?_
          refine W.fresh ?_
          intro r297 er298
          have s299 : r297 4 = .pointer (some ⟨b21, 0, none⟩) := (congrFun er298 4).trans s232
          have s300 : r297 5 = .pointer (some ⟨b32, 0, none⟩) := (congrFun er298 5).trans s233
          clear er298
          refine W.seq ?_
          refine A.begin' (cs := [b21, b32]) rfl ?_
          intro w301 g302
          have R303 := R294.gr g302
          have R304 : Chg [b21, b32] w301 w301 := Chg.of_refl _ _
          refine A.two (i := 0) (j := 1) (by kernel_rfl) ?_ ?_
          · skip
            have h305 := hB293.gr g302
            refine E.val (i := 0) rfl rfl rfl (X.loadR (ev' (.pointer (some ⟨b21, 0, none⟩)) rfl s299) rt24 (row_blk_trade h305) rfl) ?_
            refine ⟨R304, ?_⟩
            refine A.two (i := 1) (j := 2) (by kernel_rfl) ?_ ?_
            · skip
              have h306 := h244.gr g254
              have h307 := h306.gr g272
              have h308 := h307.gr g282
              have h309 := h308.st c292 ne40.symm
              have h310 := h309.gr g302
              refine E.val (i := 1) rfl rfl rfl (X.loadR (ev' (.pointer (some ⟨b32, 0, none⟩)) rfl s300) rt30 (row_blk_msg h310) rfl) ?_
              refine ⟨R304, ?_⟩
              refine A.one (i := 2) (by kernel_rfl) ?_
              refine E.eff0 (i := 2) rfl rfl rfl (Y.storeW (ds := ({ ({ T with next := T.next + 1 } : TV) with p := s281 } : TV).arr) (ev' (.pointer (some ⟨b21, 0, none⟩)) rfl s299) (ev' (({ ({ T with next := T.next + 1 } : TV) with p := s281 } : TV).val) rfl rfl) h305 (n := 4) rfl sz24 rfl (TV.oneCell _) rfl) ?_
              rintro w311 ⟨c312, hB313⟩
              have R314 := R303.stN c312 l28
              have R315 := R304.stO c312 (.head _)
              refine ⟨R315, ?_⟩
              refine A.one (i := 3) (by kernel_rfl) ?_
              have h317 := h310.st c312 ne40.symm
              refine E.eff0 (i := 3) rfl rfl rfl (Y.storeW (ds := ({ m with no := T.next } : Msg).arr) (ev' (.pointer (some ⟨b32, 0, none⟩)) rfl s300) (ev' (.agg ({ m with no := T.next } : Msg).arr) rfl rfl) h317 (Msg.size_arr _) sz30 (Msg.size_arr _) (Msg.oneCellA _) rfl) ?_
              rintro w318 ⟨c319, hB320⟩
              have R321 := R314.stN c319 l41
              have R322 := R315.stO c319 (.tail _ (.head _))
              refine ⟨R322, ?_⟩
              refine A.take (i := 4) rfl (by kernel_rfl) (by kernel_rfl) (by kernel_rfl) (fun _ _ _ h => h) R322 rfl rfl (fun _ _ => (X.assign (evc' (.int .i64 0)))) ?_
              refine A.done (by kernel_rfl) ?_
              refine then_n ?_
              refine W.fresh ?_
              intro r324 er325
              have s326 : r324 4 = .pointer (some ⟨b21, 0, none⟩) := (congrFun er325 4).trans s299
              have s327 : r324 5 = .pointer (some ⟨b32, 0, none⟩) := (congrFun er325 5).trans s300
              have s328 : r324 6 = .int .i64 0 := (congrFun er325 6).trans rfl
              clear er325
              have h329 := hB313.st c319 ne40
              have h330 := h278.gr g282
              have h331 := h330.st c292 (.tail _ (.head _))
              have h332 := h331.gr g302
              have h333 := h332.st c312 (.tail _ (.head _))
              have h334 := h333.st c319 (.head _)
              have h335 := hs283.st c292 (.tail _ (.head _))
              have h336 := h335.gr g302
              have h337 := h336.st c312 (.tail _ (.head _))
              have h338 := h337.st c319 (.head _)
              have pe339 : placeR t m = _ := (by subst eq164; exact (place_4 ht.next k74 k108 k171))
              have hT340 : Tr (b32 :: b21 :: b12 :: b4 :: bs) w318 ({ ({ T with next := T.next + 1 } : TV) with p := s281 } : TV) ({ t with next := t.next + 1, placed := (t.placed ++ [({ m with no := T.next } : Msg)]) } : Trade) := ⟨(congrArg (· + 1) h334.next), h338, h334.r, h334.d⟩
              refine W.ret (retCCT rfl rfl (show _ = (.pointer (some ⟨b21, 0, none⟩) : Value) from s326) (run_loadAt_row rt24 (row_blk_trade h329)) rfl (show _ = (.pointer (some ⟨b32, 0, none⟩) : Value) from s327) (run_loadAt_row rt30 (row_blk_msg hB320)) rfl (show _ = (.int .i64 0 : Value) from s328) ⟨({ ({ T with next := T.next + 1 } : TV) with p := s281 } : TV), congrArg (fun (p : Trade × Msg × Int) => Value.tuple #[TV.val ({ ({ T with next := T.next + 1 } : TV) with p := s281 } : TV), .agg (Msg.arr p.2.1), .int .i64 p.2.2]) (Eq.symm pe339), by rw [pe339]; exact hT340.tl.tl.tl.tl, R321⟩)
            · skip
              refine E.eff0 (i := 2) rfl rfl rfl (Y.storeW (ds := ({ ({ T with next := T.next + 1 } : TV) with p := s281 } : TV).arr) (ev' (.pointer (some ⟨b21, 0, none⟩)) rfl s299) (ev' (({ ({ T with next := T.next + 1 } : TV) with p := s281 } : TV).val) rfl rfl) h305 (n := 4) rfl sz24 rfl (TV.oneCell _) rfl) ?_
              rintro w341 ⟨c342, hB343⟩
              have R344 := R303.stN c342 l28
              have R345 := R304.stO c342 (.head _)
              refine ⟨R345, ?_⟩
              refine A.one (i := 1) (by kernel_rfl) ?_
              have h347 := h244.gr g254
              have h348 := h347.gr g272
              have h349 := h348.gr g282
              have h350 := h349.st c292 ne40.symm
              have h351 := h350.gr g302
              have h352 := h351.st c342 ne40.symm
              refine E.val (i := 1) rfl rfl rfl (X.loadR (ev' (.pointer (some ⟨b32, 0, none⟩)) rfl s300) rt30 (row_blk_msg h352) rfl) ?_
              refine ⟨R345, ?_⟩
              refine A.one (i := 3) (by kernel_rfl) ?_
              refine E.eff0 (i := 3) rfl rfl rfl (Y.storeW (ds := ({ m with no := T.next } : Msg).arr) (ev' (.pointer (some ⟨b32, 0, none⟩)) rfl s300) (ev' (.agg ({ m with no := T.next } : Msg).arr) rfl rfl) h352 (Msg.size_arr _) sz30 (Msg.size_arr _) (Msg.oneCellA _) rfl) ?_
              rintro w353 ⟨c354, hB355⟩
              have R356 := R344.stN c354 l41
              have R357 := R345.stO c354 (.tail _ (.head _))
              refine ⟨R357, ?_⟩
              refine A.take (i := 4) rfl (by kernel_rfl) (by kernel_rfl) (by kernel_rfl) (fun _ _ _ h => h) R357 rfl rfl (fun _ _ => (X.assign (evc' (.int .i64 0)))) ?_
              refine A.done (by kernel_rfl) ?_
              refine then_n ?_
              refine W.fresh ?_
              intro r359 er360
              have s361 : r359 4 = .pointer (some ⟨b21, 0, none⟩) := (congrFun er360 4).trans s299
              have s362 : r359 5 = .pointer (some ⟨b32, 0, none⟩) := (congrFun er360 5).trans s300
              have s363 : r359 6 = .int .i64 0 := (congrFun er360 6).trans rfl
              clear er360
              have h364 := hB343.st c354 ne40
              have h365 := h278.gr g282
              have h366 := h365.st c292 (.tail _ (.head _))
              have h367 := h366.gr g302
              have h368 := h367.st c342 (.tail _ (.head _))
              have h369 := h368.st c354 (.head _)
              have h370 := hs283.st c292 (.tail _ (.head _))
              have h371 := h370.gr g302
              have h372 := h371.st c342 (.tail _ (.head _))
              have h373 := h372.st c354 (.head _)
              have pe374 : placeR t m = _ := (by subst eq164; exact (place_4 ht.next k74 k108 k171))
              have hT375 : Tr (b32 :: b21 :: b12 :: b4 :: bs) w353 ({ ({ T with next := T.next + 1 } : TV) with p := s281 } : TV) ({ t with next := t.next + 1, placed := (t.placed ++ [({ m with no := T.next } : Msg)]) } : Trade) := ⟨(congrArg (· + 1) h369.next), h373, h369.r, h369.d⟩
              refine W.ret (retCCT rfl rfl (show _ = (.pointer (some ⟨b21, 0, none⟩) : Value) from s361) (run_loadAt_row rt24 (row_blk_trade h364)) rfl (show _ = (.pointer (some ⟨b32, 0, none⟩) : Value) from s362) (run_loadAt_row rt30 (row_blk_msg hB355)) rfl (show _ = (.int .i64 0 : Value) from s363) ⟨({ ({ T with next := T.next + 1 } : TV) with p := s281 } : TV), congrArg (fun (p : Trade × Msg × Int) => Value.tuple #[TV.val ({ ({ T with next := T.next + 1 } : TV) with p := s281 } : TV), .agg (Msg.arr p.2.1), .int .i64 p.2.2]) (Eq.symm pe374), by rw [pe374]; exact hT375.tl.tl.tl.tl, R356⟩)
          · skip
            have h376 := h244.gr g254
            have h377 := h376.gr g272
            have h378 := h377.gr g282
            have h379 := h378.st c292 ne40.symm
            have h380 := h379.gr g302
            refine E.val (i := 1) rfl rfl rfl (X.loadR (ev' (.pointer (some ⟨b32, 0, none⟩)) rfl s300) rt30 (row_blk_msg h380) rfl) ?_
            refine ⟨R304, ?_⟩
            refine A.one (i := 0) (by kernel_rfl) ?_
            have h381 := hB293.gr g302
            refine E.val (i := 0) rfl rfl rfl (X.loadR (ev' (.pointer (some ⟨b21, 0, none⟩)) rfl s299) rt24 (row_blk_trade h381) rfl) ?_
            refine ⟨R304, ?_⟩
            refine A.one (i := 2) (by kernel_rfl) ?_
            refine E.eff0 (i := 2) rfl rfl rfl (Y.storeW (ds := ({ ({ T with next := T.next + 1 } : TV) with p := s281 } : TV).arr) (ev' (.pointer (some ⟨b21, 0, none⟩)) rfl s299) (ev' (({ ({ T with next := T.next + 1 } : TV) with p := s281 } : TV).val) rfl rfl) h381 (n := 4) rfl sz24 rfl (TV.oneCell _) rfl) ?_
            rintro w382 ⟨c383, hB384⟩
            have R385 := R303.stN c383 l28
            have R386 := R304.stO c383 (.head _)
            refine ⟨R386, ?_⟩
            refine A.one (i := 3) (by kernel_rfl) ?_
            have h388 := h380.st c383 ne40.symm
            refine E.eff0 (i := 3) rfl rfl rfl (Y.storeW (ds := ({ m with no := T.next } : Msg).arr) (ev' (.pointer (some ⟨b32, 0, none⟩)) rfl s300) (ev' (.agg ({ m with no := T.next } : Msg).arr) rfl rfl) h388 (Msg.size_arr _) sz30 (Msg.size_arr _) (Msg.oneCellA _) rfl) ?_
            rintro w389 ⟨c390, hB391⟩
            have R392 := R385.stN c390 l41
            have R393 := R386.stO c390 (.tail _ (.head _))
            refine ⟨R393, ?_⟩
            refine A.take (i := 4) rfl (by kernel_rfl) (by kernel_rfl) (by kernel_rfl) (fun _ _ _ h => h) R393 rfl rfl (fun _ _ => (X.assign (evc' (.int .i64 0)))) ?_
            refine A.done (by kernel_rfl) ?_
            refine then_n ?_
            refine W.fresh ?_
            intro r395 er396
            have s397 : r395 4 = .pointer (some ⟨b21, 0, none⟩) := (congrFun er396 4).trans s299
            have s398 : r395 5 = .pointer (some ⟨b32, 0, none⟩) := (congrFun er396 5).trans s300
            have s399 : r395 6 = .int .i64 0 := (congrFun er396 6).trans rfl
            clear er396
            have h400 := hB384.st c390 ne40
            have h401 := h278.gr g282
            have h402 := h401.st c292 (.tail _ (.head _))
            have h403 := h402.gr g302
            have h404 := h403.st c383 (.tail _ (.head _))
            have h405 := h404.st c390 (.head _)
            have h406 := hs283.st c292 (.tail _ (.head _))
            have h407 := h406.gr g302
            have h408 := h407.st c383 (.tail _ (.head _))
            have h409 := h408.st c390 (.head _)
            have pe410 : placeR t m = _ := (by subst eq164; exact (place_4 ht.next k74 k108 k171))
            have hT411 : Tr (b32 :: b21 :: b12 :: b4 :: bs) w389 ({ ({ T with next := T.next + 1 } : TV) with p := s281 } : TV) ({ t with next := t.next + 1, placed := (t.placed ++ [({ m with no := T.next } : Msg)]) } : Trade) := ⟨(congrArg (· + 1) h405.next), h409, h405.r, h405.d⟩
            refine W.ret (retCCT rfl rfl (show _ = (.pointer (some ⟨b21, 0, none⟩) : Value) from s397) (run_loadAt_row rt24 (row_blk_trade h400)) rfl (show _ = (.pointer (some ⟨b32, 0, none⟩) : Value) from s398) (run_loadAt_row rt30 (row_blk_msg hB391)) rfl (show _ = (.int .i64 0 : Value) from s399) ⟨({ ({ T with next := T.next + 1 } : TV) with p := s281 } : TV), congrArg (fun (p : Trade × Msg × Int) => Value.tuple #[TV.val ({ ({ T with next := T.next + 1 } : TV) with p := s281 } : TV), .agg (Msg.arr p.2.1), .int .i64 p.2.2]) (Eq.symm pe410), by rw [pe410]; exact hT411.tl.tl.tl.tl, R392⟩)
        · skip
          have h412 := hl.new g5 hB6.lt
          have h413 := h412.new g13 hB14.lt
          have h414 := h413.new g22 hB23.lt
          have h415 := h414.new g33 hB34.lt
          have h416 := h415.gr g57
          have h417 := h416.gr c137
          have h418 := h417.gr c148
          have h419 := h418.gr g158
          have h420 := h419.gr g162
          have h421 := h420.gr c215
          have h422 := h421.gr c225
          have h423 := h422.gr g235
          refine E.eff (i := 4) rfl rfl rfl (Y.slice1 (bs := (b32 :: b21 :: b12 :: b4 :: bs)) (ev' (.agg ({ m with no := T.next } : Msg).arr) rfl rfl) h423) ?_
          rintro _ w424 ⟨s425, rfl, g426, hs427⟩
          have R428 := R236.gr g426
          have R429 := R237.gr g426
          refine ⟨R429, ?_⟩
          refine A.one (i := 2) (by kernel_rfl) ?_
          have h431 := h55.gr g57
          have h432 := h431.st c137 (.head _)
          have h433 := h432.st c148 (.head _)
          have h434 := h433.gr g158
          have h435 := h434.gr g162
          have h436 := h435.st c215 (.tail _ (.head _))
          have h437 := h436.st c225 (.tail _ (.head _))
          have h438 := h437.gr g235
          have h439 := h438.gr g426
          refine E.call (i := 2) rfl rfl rfl (X.callF go38 (args1 (ev' (T.p.val) rfl rfl))) (clip_c _ h439.p) ?_
          rintro _ w440 ⟨rfl, g441⟩
          have R442 := R428.gr g441
          have R443 := R429.gr g441
          refine ⟨R443, ?_⟩
          refine A.one (i := 5) (by kernel_rfl) ?_
          have h444 := h439.gr g441
          have h445 := hs427.gr g441
          have h446 := h423.gr g426
          have h447 := h446.gr g441
          refine E.eff (i := 5) rfl rfl rfl (Y.append (ev' ((clip T.p).val) rfl rfl) (ev' (s425.val) rfl rfl) (Sl.clip h444.p) h445 rfl (by simp) (placed_len k74) h447) ?_
          rintro _ w448 ⟨s449, rfl, g450, hs451⟩
          have R452 := R442.gr g450
          have R453 := R443.gr g450
          refine ⟨R453, ?_⟩
          refine A.take (i := 6) rfl (by kernel_rfl) (by kernel_rfl) (by kernel_rfl) (fun _ _ _ h => h) R453 rfl rfl (fun _ _ => (X.fieldAddr (ev' (.pointer (some ⟨b21, 0, none⟩)) rfl s232) fo24_1 (b := ⟨b21, 1, none⟩) (Addr.add_lit _ _ _))) ?_
          refine A.one (i := 7) (by kernel_rfl) ?_
          have h455 := hB226.gr g235
          have h456 := h455.gr g426
          have h457 := h456.gr g441
          have h458 := h457.gr g450
          refine E.eff0 (i := 7) rfl rfl rfl (Y.storeC (ds := ({ ({ T with next := T.next + 1 } : TV) with p := s449 } : TV).arr) (ev' (.pointer (some ⟨b21, 1, none⟩)) rfl rfl) (ev' (s449.val) rfl rfl) h458 (show 1 < 4 from by decide) sz22 rfl rfl rfl) ?_
          rintro w459 ⟨c460, hB461⟩
          have R462 := R452.stN c460 l28
          have R463 := R453.stO c460 (.head _)
          refine ⟨R463, ?_⟩
          refine A.done (by kernel_rfl) ?_
          refine then_n ?_
          refine W.fresh ?_
          intro r465 er466
          have s467 : r465 4 = .pointer (some ⟨b21, 0, none⟩) := (congrFun er466 4).trans s232
          have s468 : r465 5 = .pointer (some ⟨b32, 0, none⟩) := (congrFun er466 5).trans s233
          clear er466
          refine W.seq ?_
          refine A.begin' (cs := [b21, b32]) rfl ?_
          intro w469 g470
          have R471 := R462.gr g470
          have R472 : Chg [b21, b32] w469 w469 := Chg.of_refl _ _
          refine A.two (i := 0) (j := 1) (by kernel_rfl) ?_ ?_
          · skip
            have h473 := hB461.gr g470
            refine E.val (i := 0) rfl rfl rfl (X.loadR (ev' (.pointer (some ⟨b21, 0, none⟩)) rfl s467) rt24 (row_blk_trade h473) rfl) ?_
            refine ⟨R472, ?_⟩
            refine A.two (i := 1) (j := 2) (by kernel_rfl) ?_ ?_
            · skip
              have h474 := h244.gr g426
              have h475 := h474.gr g441
              have h476 := h475.gr g450
              have h477 := h476.st c460 ne40.symm
              have h478 := h477.gr g470
              refine E.val (i := 1) rfl rfl rfl (X.loadR (ev' (.pointer (some ⟨b32, 0, none⟩)) rfl s468) rt30 (row_blk_msg h478) rfl) ?_
              refine ⟨R472, ?_⟩
              refine A.one (i := 2) (by kernel_rfl) ?_
              refine E.eff0 (i := 2) rfl rfl rfl (Y.storeW (ds := ({ ({ T with next := T.next + 1 } : TV) with p := s449 } : TV).arr) (ev' (.pointer (some ⟨b21, 0, none⟩)) rfl s467) (ev' (({ ({ T with next := T.next + 1 } : TV) with p := s449 } : TV).val) rfl rfl) h473 (n := 4) rfl sz24 rfl (TV.oneCell _) rfl) ?_
              rintro w479 ⟨c480, hB481⟩
              have R482 := R471.stN c480 l28
              have R483 := R472.stO c480 (.head _)
              refine ⟨R483, ?_⟩
              refine A.one (i := 3) (by kernel_rfl) ?_
              have h485 := h478.st c480 ne40.symm
              refine E.eff0 (i := 3) rfl rfl rfl (Y.storeW (ds := ({ m with no := T.next } : Msg).arr) (ev' (.pointer (some ⟨b32, 0, none⟩)) rfl s468) (ev' (.agg ({ m with no := T.next } : Msg).arr) rfl rfl) h485 (Msg.size_arr _) sz30 (Msg.size_arr _) (Msg.oneCellA _) rfl) ?_
              rintro w486 ⟨c487, hB488⟩
              have R489 := R482.stN c487 l41
              have R490 := R483.stO c487 (.tail _ (.head _))
              refine ⟨R490, ?_⟩
              refine A.take (i := 4) rfl (by kernel_rfl) (by kernel_rfl) (by kernel_rfl) (fun _ _ _ h => h) R490 rfl rfl (fun _ _ => (X.assign (evc' (.int .i64 0)))) ?_
              refine A.done (by kernel_rfl) ?_
              refine then_n ?_
              refine W.fresh ?_
              intro r492 er493
              have s494 : r492 4 = .pointer (some ⟨b21, 0, none⟩) := (congrFun er493 4).trans s467
              have s495 : r492 5 = .pointer (some ⟨b32, 0, none⟩) := (congrFun er493 5).trans s468
              have s496 : r492 6 = .int .i64 0 := (congrFun er493 6).trans rfl
              clear er493
              have h497 := hB481.st c487 ne40
              have h498 := h444.gr g450
              have h499 := h498.st c460 (.tail _ (.head _))
              have h500 := h499.gr g470
              have h501 := h500.st c480 (.tail _ (.head _))
              have h502 := h501.st c487 (.head _)
              have h503 := hs451.st c460 (.tail _ (.head _))
              have h504 := h503.gr g470
              have h505 := h504.st c480 (.tail _ (.head _))
              have h506 := h505.st c487 (.head _)
              have pe507 : placeR t m = _ := (by subst eq164; exact (place_4 ht.next k74 k108 k171))
              have hT508 : Tr (b32 :: b21 :: b12 :: b4 :: bs) w486 ({ ({ T with next := T.next + 1 } : TV) with p := s449 } : TV) ({ t with next := t.next + 1, placed := (t.placed ++ [({ m with no := T.next } : Msg)]) } : Trade) := ⟨(congrArg (· + 1) h502.next), h506, h502.r, h502.d⟩
              refine W.ret (retCCT rfl rfl (show _ = (.pointer (some ⟨b21, 0, none⟩) : Value) from s494) (run_loadAt_row rt24 (row_blk_trade h497)) rfl (show _ = (.pointer (some ⟨b32, 0, none⟩) : Value) from s495) (run_loadAt_row rt30 (row_blk_msg hB488)) rfl (show _ = (.int .i64 0 : Value) from s496) ⟨({ ({ T with next := T.next + 1 } : TV) with p := s449 } : TV), congrArg (fun (p : Trade × Msg × Int) => Value.tuple #[TV.val ({ ({ T with next := T.next + 1 } : TV) with p := s449 } : TV), .agg (Msg.arr p.2.1), .int .i64 p.2.2]) (Eq.symm pe507), by rw [pe507]; exact hT508.tl.tl.tl.tl, R489⟩)
            · skip
              refine E.eff0 (i := 2) rfl rfl rfl (Y.storeW (ds := ({ ({ T with next := T.next + 1 } : TV) with p := s449 } : TV).arr) (ev' (.pointer (some ⟨b21, 0, none⟩)) rfl s467) (ev' (({ ({ T with next := T.next + 1 } : TV) with p := s449 } : TV).val) rfl rfl) h473 (n := 4) rfl sz24 rfl (TV.oneCell _) rfl) ?_
              rintro w509 ⟨c510, hB511⟩
              have R512 := R471.stN c510 l28
              have R513 := R472.stO c510 (.head _)
              refine ⟨R513, ?_⟩
              refine A.one (i := 1) (by kernel_rfl) ?_
              have h515 := h244.gr g426
              have h516 := h515.gr g441
              have h517 := h516.gr g450
              have h518 := h517.st c460 ne40.symm
              have h519 := h518.gr g470
              have h520 := h519.st c510 ne40.symm
              refine E.val (i := 1) rfl rfl rfl (X.loadR (ev' (.pointer (some ⟨b32, 0, none⟩)) rfl s468) rt30 (row_blk_msg h520) rfl) ?_
              refine ⟨R513, ?_⟩
              refine A.one (i := 3) (by kernel_rfl) ?_
              refine E.eff0 (i := 3) rfl rfl rfl (Y.storeW (ds := ({ m with no := T.next } : Msg).arr) (ev' (.pointer (some ⟨b32, 0, none⟩)) rfl s468) (ev' (.agg ({ m with no := T.next } : Msg).arr) rfl rfl) h520 (Msg.size_arr _) sz30 (Msg.size_arr _) (Msg.oneCellA _) rfl) ?_
              rintro w521 ⟨c522, hB523⟩
              have R524 := R512.stN c522 l41
              have R525 := R513.stO c522 (.tail _ (.head _))
              refine ⟨R525, ?_⟩
              refine A.take (i := 4) rfl (by kernel_rfl) (by kernel_rfl) (by kernel_rfl) (fun _ _ _ h => h) R525 rfl rfl (fun _ _ => (X.assign (evc' (.int .i64 0)))) ?_
              refine A.done (by kernel_rfl) ?_
              refine then_n ?_
              refine W.fresh ?_
              intro r527 er528
              have s529 : r527 4 = .pointer (some ⟨b21, 0, none⟩) := (congrFun er528 4).trans s467
              have s530 : r527 5 = .pointer (some ⟨b32, 0, none⟩) := (congrFun er528 5).trans s468
              have s531 : r527 6 = .int .i64 0 := (congrFun er528 6).trans rfl
              clear er528
              have h532 := hB511.st c522 ne40
              have h533 := h444.gr g450
              have h534 := h533.st c460 (.tail _ (.head _))
              have h535 := h534.gr g470
              have h536 := h535.st c510 (.tail _ (.head _))
              have h537 := h536.st c522 (.head _)
              have h538 := hs451.st c460 (.tail _ (.head _))
              have h539 := h538.gr g470
              have h540 := h539.st c510 (.tail _ (.head _))
              have h541 := h540.st c522 (.head _)
              have pe542 : placeR t m = _ := (by subst eq164; exact (place_4 ht.next k74 k108 k171))
              have hT543 : Tr (b32 :: b21 :: b12 :: b4 :: bs) w521 ({ ({ T with next := T.next + 1 } : TV) with p := s449 } : TV) ({ t with next := t.next + 1, placed := (t.placed ++ [({ m with no := T.next } : Msg)]) } : Trade) := ⟨(congrArg (· + 1) h537.next), h541, h537.r, h537.d⟩
              refine W.ret (retCCT rfl rfl (show _ = (.pointer (some ⟨b21, 0, none⟩) : Value) from s529) (run_loadAt_row rt24 (row_blk_trade h532)) rfl (show _ = (.pointer (some ⟨b32, 0, none⟩) : Value) from s530) (run_loadAt_row rt30 (row_blk_msg hB523)) rfl (show _ = (.int .i64 0 : Value) from s531) ⟨({ ({ T with next := T.next + 1 } : TV) with p := s449 } : TV), congrArg (fun (p : Trade × Msg × Int) => Value.tuple #[TV.val ({ ({ T with next := T.next + 1 } : TV) with p := s449 } : TV), .agg (Msg.arr p.2.1), .int .i64 p.2.2]) (Eq.symm pe542), by rw [pe542]; exact hT543.tl.tl.tl.tl, R524⟩)
          · skip
            have h544 := h244.gr g426
            have h545 := h544.gr g441
            have h546 := h545.gr g450
            have h547 := h546.st c460 ne40.symm
            have h548 := h547.gr g470
            refine E.val (i := 1) rfl rfl rfl (X.loadR (ev' (.pointer (some ⟨b32, 0, none⟩)) rfl s468) rt30 (row_blk_msg h548) rfl) ?_
            refine ⟨R472, ?_⟩
            refine A.one (i := 0) (by kernel_rfl) ?_
            have h549 := hB461.gr g470
            refine E.val (i := 0) rfl rfl rfl (X.loadR (ev' (.pointer (some ⟨b21, 0, none⟩)) rfl s467) rt24 (row_blk_trade h549) rfl) ?_
            refine ⟨R472, ?_⟩
            refine A.one (i := 2) (by kernel_rfl) ?_
            refine E.eff0 (i := 2) rfl rfl rfl (Y.storeW (ds := ({ ({ T with next := T.next + 1 } : TV) with p := s449 } : TV).arr) (ev' (.pointer (some ⟨b21, 0, none⟩)) rfl s467) (ev' (({ ({ T with next := T.next + 1 } : TV) with p := s449 } : TV).val) rfl rfl) h549 (n := 4) rfl sz24 rfl (TV.oneCell _) rfl) ?_
            rintro w550 ⟨c551, hB552⟩
            have R553 := R471.stN c551 l28
            have R554 := R472.stO c551 (.head _)
            refine ⟨R554, ?_⟩
            refine A.one (i := 3) (by kernel_rfl) ?_
            have h556 := h548.st c551 ne40.symm
            refine E.eff0 (i := 3) rfl rfl rfl (Y.storeW (ds := ({ m with no := T.next } : Msg).arr) (ev' (.pointer (some ⟨b32, 0, none⟩)) rfl s468) (ev' (.agg ({ m with no := T.next } : Msg).arr) rfl rfl) h556 (Msg.size_arr _) sz30 (Msg.size_arr _) (Msg.oneCellA _) rfl) ?_
            rintro w557 ⟨c558, hB559⟩
            have R560 := R553.stN c558 l41
            have R561 := R554.stO c558 (.tail _ (.head _))
            refine ⟨R561, ?_⟩
            refine A.take (i := 4) rfl (by kernel_rfl) (by kernel_rfl) (by kernel_rfl) (fun _ _ _ h => h) R561 rfl rfl (fun _ _ => (X.assign (evc' (.int .i64 0)))) ?_
            refine A.done (by kernel_rfl) ?_
            refine then_n ?_
            refine W.fresh ?_
            intro r563 er564
            have s565 : r563 4 = .pointer (some ⟨b21, 0, none⟩) := (congrFun er564 4).trans s467
            have s566 : r563 5 = .pointer (some ⟨b32, 0, none⟩) := (congrFun er564 5).trans s468
            have s567 : r563 6 = .int .i64 0 := (congrFun er564 6).trans rfl
            clear er564
            have h568 := hB552.st c558 ne40
            have h569 := h444.gr g450
            have h570 := h569.st c460 (.tail _ (.head _))
            have h571 := h570.gr g470
            have h572 := h571.st c551 (.tail _ (.head _))
            have h573 := h572.st c558 (.head _)
            have h574 := hs451.st c460 (.tail _ (.head _))
            have h575 := h574.gr g470
            have h576 := h575.st c551 (.tail _ (.head _))
            have h577 := h576.st c558 (.head _)
            have pe578 : placeR t m = _ := (by subst eq164; exact (place_4 ht.next k74 k108 k171))
            have hT579 : Tr (b32 :: b21 :: b12 :: b4 :: bs) w557 ({ ({ T with next := T.next + 1 } : TV) with p := s449 } : TV) ({ t with next := t.next + 1, placed := (t.placed ++ [({ m with no := T.next } : Msg)]) } : Trade) := ⟨(congrArg (· + 1) h573.next), h577, h573.r, h573.d⟩
            refine W.ret (retCCT rfl rfl (show _ = (.pointer (some ⟨b21, 0, none⟩) : Value) from s565) (run_loadAt_row rt24 (row_blk_trade h568)) rfl (show _ = (.pointer (some ⟨b32, 0, none⟩) : Value) from s566) (run_loadAt_row rt30 (row_blk_msg hB559)) rfl (show _ = (.int .i64 0 : Value) from s567) ⟨({ ({ T with next := T.next + 1 } : TV) with p := s449 } : TV), congrArg (fun (p : Trade × Msg × Int) => Value.tuple #[TV.val ({ ({ T with next := T.next + 1 } : TV) with p := s449 } : TV), .agg (Msg.arr p.2.1), .int .i64 p.2.2]) (Eq.symm pe578), by rw [pe578]; exact hT579.tl.tl.tl.tl, R560⟩)

theorem rplace_c {bs : List Nat} {T : TV} {t : Trade} (m : Msg) (w : World) (ht : Tr bs w T t) (hl : LtAll bs w) : Calls Try.prog 13 #[T.val, .agg m.arr] w (Ret fun v w' => ∃ T' : TV, v = .tuple #[T'.val, .agg (placeR t m).2.1.arr, .int .i64 (placeR t m).2.2] ∧ Tr bs w' T' (placeR t m).1 ∧ Grow w w') := by
  refine enter (N := 53) Try.func13 rfl Try.ntmps13 rfl ?_
  intro ρ hρ
  have a0 : ρ 0 = T.val := hρ 0 _ rfl
  have a1 : ρ 1 = .agg m.arr := hρ 1 _ rfl
  clear hρ
  have R0 : Grow w w := Chg.refl w
  refine W.seq ?_
  refine W.reg ?_
  refine W.eff rfl rfl (Y.box (cs := T.arr) (ev' (T.val) rfl a0) rfl) ?_
  rintro _ w3 ⟨b4, rfl, g5, hB6, lt7⟩
  have l8 := Nat.le_trans R0.size lt7
  have R9 := R0.gr g5
  refine W.eff rfl rfl (Y.box (cs := m.arr) (ev' (.agg m.arr) rfl a1) rfl) ?_
  rintro _ w11 ⟨b12, rfl, g13, hB14, lt15⟩
  have ne16 := hB6.ne lt15
  have l17 := Nat.le_trans R9.size lt15
  have R18 := R9.gr g13
  refine W.eff rfl rfl (Y.alloc (cs := TV.zero.arr) zero24 rfl) ?_
  rintro _ w20 ⟨b21, rfl, g22, hB23, lt24⟩
  have h25 := hB6.gr g13
  have ne26 := h25.ne lt24
  have ne27 := hB14.ne lt24
  have l28 := Nat.le_trans R18.size lt24
  have R29 := R18.gr g22
  refine W.eff rfl rfl (Y.alloc (cs := Msg.zero.arr) zero30 rfl) ?_
  rintro _ w31 ⟨b32, rfl, g33, hB34, lt35⟩
  have h36 := h25.gr g22
  have ne37 := h36.ne lt35
  have h38 := hB14.gr g22
  have ne39 := h38.ne lt35
  have ne40 := hB23.ne lt35
  have l41 := Nat.le_trans R29.size lt35
  have R42 := R29.gr g33
  refine W.val rfl rfl (X.assign (evc' (.int .i64 0))) ?_
  refine W.nil ?_
  refine then_n ?_
  refine W.fresh ?_
  intro r44 er45
  have s46 : r44 2 = .pointer (some ⟨b4, 0, none⟩) := (congrFun er45 2).trans rfl
  have s47 : r44 3 = .pointer (some ⟨b12, 0, none⟩) := (congrFun er45 3).trans rfl
  have s48 : r44 4 = .pointer (some ⟨b21, 0, none⟩) := (congrFun er45 4).trans rfl
  have s49 : r44 5 = .pointer (some ⟨b32, 0, none⟩) := (congrFun er45 5).trans rfl
  clear er45
  refine W.seq ?_
  refine W.reg ?_
  have h50 := h36.gr g33
  refine W.val rfl rfl (X.loadR (ev' (.pointer (some ⟨b4, 0, none⟩)) rfl s46) rt24 (row_blk_trade h50) rfl) ?_
  refine W.val rfl rfl (X.fieldAddr (ev' (.pointer (some ⟨b12, 0, none⟩)) rfl s47) fo30_1 (b := ⟨b12, 1, none⟩) (Addr.add_lit _ _ _)) ?_
  have h51 := h38.gr g33
  refine W.val rfl rfl (X.load (ev' (.pointer (some ⟨b12, 1, none⟩)) rfl rfl) pt3 (Blk.lc h51 (Msg.arr1 _))) ?_
  have h52 := (ht.ext lt7).gr g5
  have h53 := (h52.ext lt15).gr g13
  have h54 := (h53.ext lt24).gr g22
  have h55 := (h54.ext lt35).gr g33
  refine W.call rfl rfl (X.callF go17 (args2 (ev' (T.val) rfl rfl) (ev' (.int .i64 m.frm) rfl rfl))) (rcheck_c m.frm _ h55) ?_
  rintro _ w56 ⟨rfl, g57⟩
  have R58 := R42.gr g57
  refine W.val rfl rfl (X.assign (ev' (.int .i64 (chk t m.frm)) rfl rfl)) ?_
  refine W.nil ?_
  refine then_n ?_
  refine W.fresh ?_
  intro r59 er60
  have s61 : r59 2 = .pointer (some ⟨b4, 0, none⟩) := (congrFun er60 2).trans s46
  have s62 : r59 3 = .pointer (some ⟨b12, 0, none⟩) := (congrFun er60 3).trans s47
  have s63 : r59 4 = .pointer (some ⟨b21, 0, none⟩) := (congrFun er60 4).trans s48
  have s64 : r59 5 = .pointer (some ⟨b32, 0, none⟩) := (congrFun er60 5).trans s49
  have s65 : r59 7 = .int .i64 (chk t m.frm) := (congrFun er60 7).trans rfl
  clear er60
  refine W.seq ?_
  refine W.seq ?_
  refine W.reg ?_
  refine W.val rfl rfl (X.move (ev' (.int .i64 (chk t m.frm)) rfl s65)) ?_
  refine W.val rfl rfl (X.neq (ev' (.int .i64 (chk t m.frm)) rfl rfl) (evc' (.int .i64 0))) ?_
  refine W.nil ?_
  refine then_n ?_
  refine W.fresh ?_
  intro r66 er67
  have s68 : r66 2 = .pointer (some ⟨b4, 0, none⟩) := (congrFun er67 2).trans s61
  have s69 : r66 3 = .pointer (some ⟨b12, 0, none⟩) := (congrFun er67 3).trans s62
  have s70 : r66 4 = .pointer (some ⟨b21, 0, none⟩) := (congrFun er67 4).trans s63
  have s71 : r66 5 = .pointer (some ⟨b32, 0, none⟩) := (congrFun er67 5).trans s64
  have s72 : r66 7 = .int .i64 (chk t m.frm) := (congrFun er67 7).trans s65
  have s73 : r66 15 = .bool ((chk t m.frm : Int) != (0 : Int)) := (congrFun er67 15).trans rfl
  clear er67
  refine W.cond rfl s73 (fun k74 => ?_) (fun k74 => ?_)
  · skip
    refine W.seq ?_
    refine W.reg ?_
    refine W.val rfl rfl X.build24 ?_
    refine W.val rfl rfl X.build30z ?_
    refine W.val rfl rfl (X.move (ev' (.int .i64 (chk t m.frm)) rfl s72)) ?_
    have h75 := hB23.gr g33
    have h76 := h75.gr g57
    refine W.eff0 rfl rfl (Y.storeW (ds := TV.zero.arr) (ev' (.pointer (some ⟨b21, 0, none⟩)) rfl s70) (ev' (TV.zero.val) rfl rfl) h76 (n := 4) rfl sz24 rfl (TV.oneCell _) rfl) ?_
    rintro w77 ⟨c78, hB79⟩
    have R80 := R58.stN c78 l28
    have h82 := hB34.gr g57
    have h83 := h82.st c78 ne40.symm
    refine W.eff0 rfl rfl (Y.storeW (ds := Msg.zero.arr) (ev' (.pointer (some ⟨b32, 0, none⟩)) rfl s71) (ev' (.agg Msg.zero.arr) rfl rfl) h83 (Msg.size_arr _) sz30 (Msg.size_arr _) (Msg.oneCellA _) rfl) ?_
    rintro w84 ⟨c85, hB86⟩
    have R87 := R80.stN c85 l41
    refine W.val rfl rfl (X.assign (ev' (.int .i64 (chk t m.frm)) rfl rfl)) ?_
    refine W.nil ?_
    refine then_n ?_
    refine W.fresh ?_
    intro r89 er90
    have s91 : r89 4 = .pointer (some ⟨b21, 0, none⟩) := (congrFun er90 4).trans s70
    have s92 : r89 5 = .pointer (some ⟨b32, 0, none⟩) := (congrFun er90 5).trans s71
    have s93 : r89 6 = .int .i64 (chk t m.frm) := (congrFun er90 6).trans rfl
    clear er90
    have h94 := hB79.st c85 ne40
    have h95 := h55.gr g57
    have h96 := h95.st c78 (.tail _ (.head _))
    have h97 := h96.st c85 (.head _)
    have pe98 : placeR t m = _ := (by exact (place_1 k74))
    have hT99 : Tr (b32 :: b21 :: b12 :: b4 :: bs) w84 TV.zero Trade.zero := (Tr.zero_ _ _)
    refine W.ret (then_r (retCCT rfl rfl (show _ = (.pointer (some ⟨b21, 0, none⟩) : Value) from s91) (run_loadAt_row rt24 (row_blk_trade h94)) rfl (show _ = (.pointer (some ⟨b32, 0, none⟩) : Value) from s92) (run_loadAt_row rt30 (row_blk_msg hB86)) rfl (show _ = (.int .i64 (chk t m.frm) : Value) from s93) ⟨TV.zero, congrArg (fun (p : Trade × Msg × Int) => Value.tuple #[TV.val TV.zero, .agg (Msg.arr p.2.1), .int .i64 p.2.2]) (Eq.symm pe98), by rw [pe98]; exact hT99.tl.tl.tl.tl, R87⟩))
  · skip
    refine W.skip ?_
    refine then_n ?_
    refine W.seq ?_
    refine W.reg ?_
    have h100 := h51.gr g57
    refine W.val rfl rfl (X.loadR (ev' (.pointer (some ⟨b12, 0, none⟩)) rfl s69) rt30 (row_blk_msg h100) rfl) ?_
    refine W.eff rfl rfl (Y.alloc (cs := Msg.zero.arr) zero30 rfl) ?_
    rintro _ w101 ⟨b102, rfl, g103, hB104, lt105⟩
    have h106 := h50.gr g57
    have ne107 := h106.ne lt105
    have ne108 := h100.ne lt105
    have h109 := hB23.gr g33
    have h110 := h109.gr g57
    have ne111 := h110.ne lt105
    have h112 := hB34.gr g57
    have ne113 := h112.ne lt105
    have l114 := Nat.le_trans R58.size lt105
    have R115 := R58.gr g103
    refine W.eff0 rfl rfl (Y.storeW (ds := m.arr) (ev' (.pointer (some ⟨b102, 0, none⟩)) rfl rfl) (ev' (.agg m.arr) rfl rfl) hB104 (Msg.size_arr _) sz30 (Msg.size_arr _) (Msg.oneCellA _) rfl) ?_
    rintro w117 ⟨c118, hB119⟩
    have R120 := R115.stN c118 l114
    refine W.nil ?_
    refine then_n ?_
    refine W.fresh ?_
    intro r122 er123
    have s124 : r122 2 = .pointer (some ⟨b4, 0, none⟩) := (congrFun er123 2).trans s68
    have s125 : r122 4 = .pointer (some ⟨b21, 0, none⟩) := (congrFun er123 4).trans s70
    have s126 : r122 5 = .pointer (some ⟨b32, 0, none⟩) := (congrFun er123 5).trans s71
    have s127 : r122 8 = .pointer (some ⟨b102, 0, none⟩) := (congrFun er123 8).trans rfl
    clear er123
    refine W.seq ?_
    refine W.reg ?_
    refine W.val rfl rfl (X.fieldAddr (ev' (.pointer (some ⟨b4, 0, none⟩)) rfl s124) fo24_0 (b := ⟨b4, 0, none⟩) (Addr.add_lit _ _ _)) ?_
    have h128 := h106.gr g103
    have h129 := h128.st c118 ne107
    refine W.val rfl rfl (X.load (ev' (.pointer (some ⟨b4, 0, none⟩)) rfl rfl) pt3 (Blk.lc h129 rfl)) ?_
    refine W.val rfl rfl (X.fieldAddr (ev' (.pointer (some ⟨b102, 0, none⟩)) rfl s127) fo30_3 (b := ⟨b102, 3, none⟩) (Addr.add_lit _ _ _)) ?_
    refine W.eff0 rfl rfl (Y.storeC (ds := ({ m with no := T.next } : Msg).arr) (ev' (.pointer (some ⟨b102, 3, none⟩)) rfl rfl) (ev' (.int .i64 T.next) rfl rfl) hB119 (by rw [Msg.size_arr]; decide) sz3 rfl rfl (Msg.set3 _ _)) ?_
    rintro w130 ⟨c131, hB132⟩
    have R133 := R120.stN c131 l114
    refine W.nil ?_
    refine then_n ?_
    refine W.fresh ?_
    intro r135 er136
    have s137 : r135 2 = .pointer (some ⟨b4, 0, none⟩) := (congrFun er136 2).trans s124
    have s138 : r135 4 = .pointer (some ⟨b21, 0, none⟩) := (congrFun er136 4).trans s125
    have s139 : r135 5 = .pointer (some ⟨b32, 0, none⟩) := (congrFun er136 5).trans s126
    have s140 : r135 8 = .pointer (some ⟨b102, 0, none⟩) := (congrFun er136 8).trans s127
    clear er136
    refine W.seq ?_
    refine W.seq ?_
    refine W.reg ?_
    refine W.val rfl rfl (X.fieldAddr (ev' (.pointer (some ⟨b4, 0, none⟩)) rfl s137) fo24_0 (b := ⟨b4, 0, none⟩) (Addr.add_lit _ _ _)) ?_
    have h141 := h129.st c131 ne107
    refine W.val rfl rfl (X.load (ev' (.pointer (some ⟨b4, 0, none⟩)) rfl rfl) pt3 (Blk.lc h141 rfl)) ?_
    refine W.val rfl rfl (X.eql (ev' (.int .i64 T.next) rfl rfl) (evc' (.int .i64 4096))) ?_
    refine W.nil ?_
    refine then_n ?_
    refine W.fresh ?_
    intro r142 er143
    have s144 : r142 2 = .pointer (some ⟨b4, 0, none⟩) := (congrFun er143 2).trans s137
    have s145 : r142 4 = .pointer (some ⟨b21, 0, none⟩) := (congrFun er143 4).trans s138
    have s146 : r142 5 = .pointer (some ⟨b32, 0, none⟩) := (congrFun er143 5).trans s139
    have s147 : r142 8 = .pointer (some ⟨b102, 0, none⟩) := (congrFun er143 8).trans s140
    have s148 : r142 25 = .bool ((T.next : Int) == (4096 : Int)) := (congrFun er143 25).trans rfl
    clear er143
    refine W.cond rfl s148 (fun k149 => ?_) (fun k149 => ?_)
    · skip
      refine W.seq ?_
      refine W.reg ?_
      refine W.val rfl rfl X.build24 ?_
      refine W.val rfl rfl X.build30z ?_
      have h150 := h110.gr g103
      have h151 := h150.st c118 ne111
      have h152 := h151.st c131 ne111
      refine W.eff0 rfl rfl (Y.storeW (ds := TV.zero.arr) (ev' (.pointer (some ⟨b21, 0, none⟩)) rfl s145) (ev' (TV.zero.val) rfl rfl) h152 (n := 4) rfl sz24 rfl (TV.oneCell _) rfl) ?_
      rintro w153 ⟨c154, hB155⟩
      have R156 := R133.stN c154 l28
      have h158 := h112.gr g103
      have h159 := h158.st c118 ne113
      have h160 := h159.st c131 ne113
      have h161 := h160.st c154 ne40.symm
      refine W.eff0 rfl rfl (Y.storeW (ds := Msg.zero.arr) (ev' (.pointer (some ⟨b32, 0, none⟩)) rfl s146) (ev' (.agg Msg.zero.arr) rfl rfl) h161 (Msg.size_arr _) sz30 (Msg.size_arr _) (Msg.oneCellA _) rfl) ?_
      rintro w162 ⟨c163, hB164⟩
      have R165 := R156.stN c163 l41
      refine W.val rfl rfl (X.assign (evc' (.int .i64 2))) ?_
      refine W.nil ?_
      refine then_n ?_
      refine W.fresh ?_
      intro r167 er168
      have s169 : r167 4 = .pointer (some ⟨b21, 0, none⟩) := (congrFun er168 4).trans s145
      have s170 : r167 5 = .pointer (some ⟨b32, 0, none⟩) := (congrFun er168 5).trans s146
      have s171 : r167 6 = .int .i64 2 := (congrFun er168 6).trans rfl
      clear er168
      have h172 := hB155.st c163 ne40
      have h173 := h55.gr g57
      have h174 := (h173.ext lt105).gr g103
      have h175 := h174.st c118 (.head _)
      have h176 := h175.st c131 (.head _)
      have h177 := h176.st c154 (.tail _ (.tail _ (.head _)))
      have h178 := h177.st c163 (.tail _ (.head _))
      have pe179 : placeR t m = _ := (by exact (place_2 ht.next k74 k149))
      have hT180 : Tr (b102 :: b32 :: b21 :: b12 :: b4 :: bs) w162 TV.zero Trade.zero := (Tr.zero_ _ _)
      refine W.ret (then_r (retCCT rfl rfl (show _ = (.pointer (some ⟨b21, 0, none⟩) : Value) from s169) (run_loadAt_row rt24 (row_blk_trade h172)) rfl (show _ = (.pointer (some ⟨b32, 0, none⟩) : Value) from s170) (run_loadAt_row rt30 (row_blk_msg hB164)) rfl (show _ = (.int .i64 2 : Value) from s171) ⟨TV.zero, congrArg (fun (p : Trade × Msg × Int) => Value.tuple #[TV.val TV.zero, .agg (Msg.arr p.2.1), .int .i64 p.2.2]) (Eq.symm pe179), by rw [pe179]; exact hT180.tl.tl.tl.tl.tl, R165⟩))
    · skip
      refine W.skip ?_
      refine then_n ?_
      refine W.seq ?_
      refine W.seq ?_
      refine W.reg ?_
      refine W.val rfl rfl (X.loadR (ev' (.pointer (some ⟨b102, 0, none⟩)) rfl s147) rt30 (row_blk_msg hB132) rfl) ?_
      refine W.call rfl rfl (X.callF go39 (args1 (ev' (.agg ({ m with no := T.next } : Msg).arr) rfl rfl))) (of_c ({ m with no := T.next } : Msg) _) ?_
      rintro _ w181 ⟨rfl, g182⟩
      have R183 := R133.gr g182
      refine W.val rfl rfl (X.not (ev' (.bool (ok ({ m with no := T.next } : Msg))) rfl rfl)) ?_
      refine W.val rfl rfl (X.move (ev' (.bool (!(ok ({ m with no := T.next } : Msg)))) rfl rfl)) ?_
      have h184 := hB132.gr g182
      refine W.gq rfl rfl rfl rfl rfl (fun _ => (X.loadR (ev' (.pointer (some ⟨b102, 0, none⟩)) rfl s147) rt30 (row_blk_msg h184) rfl)) ?_
      refine W.gcallS rfl rfl rfl rfl rfl (fun hc => X.callF go40 (args1 (ev' (.agg ({ m with no := T.next } : Msg).arr) rfl (gvt hc rfl)))) (fun _ => (begins_c ({ m with no := T.next } : Msg) _)) ?_
      intro w185 g186
      have R187 := R183.gr g186
      refine W.gq rfl rfl rfl rfl rfl (fun hc => (X.not (ev' (.bool (begins ({ m with no := T.next } : Msg))) rfl (gvt hc rfl)))) ?_
      refine W.valN rfl rfl (X.or (ev' (.bool (!(ok ({ m with no := T.next } : Msg)))) rfl rfl) (ev' (gv ((!(ok ({ m with no := T.next } : Msg))) == false) (.bool (!(begins ({ m with no := T.next } : Msg))))) rfl rfl)) ?_
      intro q188 eq188
      refine W.nil ?_
      refine then_n ?_
      refine W.fresh ?_
      intro r189 er190
      have s191 : r189 2 = .pointer (some ⟨b4, 0, none⟩) := (congrFun er190 2).trans s144
      have s192 : r189 4 = .pointer (some ⟨b21, 0, none⟩) := (congrFun er190 4).trans s145
      have s193 : r189 5 = .pointer (some ⟨b32, 0, none⟩) := (congrFun er190 5).trans s146
      have s194 : r189 8 = .pointer (some ⟨b102, 0, none⟩) := (congrFun er190 8).trans s147
      have s195 : r189 35 = .bool q188 := (congrFun er190 35).trans rfl
      clear er190
      refine W.cond rfl s195 (fun k196 => ?_) (fun k196 => ?_)
      · skip
        refine W.seq ?_
        refine W.reg ?_
        refine W.val rfl rfl X.build24 ?_
        refine W.val rfl rfl X.build30z ?_
        have h197 := h110.gr g103
        have h198 := h197.st c118 ne111
        have h199 := h198.st c131 ne111
        have h200 := h199.gr g182
        have h201 := h200.gr g186
        refine W.eff0 rfl rfl (Y.storeW (ds := TV.zero.arr) (ev' (.pointer (some ⟨b21, 0, none⟩)) rfl s192) (ev' (TV.zero.val) rfl rfl) h201 (n := 4) rfl sz24 rfl (TV.oneCell _) rfl) ?_
        rintro w202 ⟨c203, hB204⟩
        have R205 := R187.stN c203 l28
        have h207 := h112.gr g103
        have h208 := h207.st c118 ne113
        have h209 := h208.st c131 ne113
        have h210 := h209.gr g182
        have h211 := h210.gr g186
        have h212 := h211.st c203 ne40.symm
        refine W.eff0 rfl rfl (Y.storeW (ds := Msg.zero.arr) (ev' (.pointer (some ⟨b32, 0, none⟩)) rfl s193) (ev' (.agg Msg.zero.arr) rfl rfl) h212 (Msg.size_arr _) sz30 (Msg.size_arr _) (Msg.oneCellA _) rfl) ?_
        rintro w213 ⟨c214, hB215⟩
        have R216 := R205.stN c214 l41
        refine W.val rfl rfl (X.assign (evc' (.int .i64 480))) ?_
        refine W.nil ?_
        refine then_n ?_
        refine W.fresh ?_
        intro r218 er219
        have s220 : r218 4 = .pointer (some ⟨b21, 0, none⟩) := (congrFun er219 4).trans s192
        have s221 : r218 5 = .pointer (some ⟨b32, 0, none⟩) := (congrFun er219 5).trans s193
        have s222 : r218 6 = .int .i64 480 := (congrFun er219 6).trans rfl
        clear er219
        have h223 := hB204.st c214 ne40
        have h224 := h55.gr g57
        have h225 := (h224.ext lt105).gr g103
        have h226 := h225.st c118 (.head _)
        have h227 := h226.st c131 (.head _)
        have h228 := h227.gr g182
        have h229 := h228.gr g186
        have h230 := h229.st c203 (.tail _ (.tail _ (.head _)))
        have h231 := h230.st c214 (.tail _ (.head _))
        have pe232 : placeR t m = _ := (by subst eq188; exact (place_3 ht.next k74 k149 k196))
        have hT233 : Tr (b102 :: b32 :: b21 :: b12 :: b4 :: bs) w213 TV.zero Trade.zero := (Tr.zero_ _ _)
        refine W.ret (then_r (retCCT rfl rfl (show _ = (.pointer (some ⟨b21, 0, none⟩) : Value) from s220) (run_loadAt_row rt24 (row_blk_trade h223)) rfl (show _ = (.pointer (some ⟨b32, 0, none⟩) : Value) from s221) (run_loadAt_row rt30 (row_blk_msg hB215)) rfl (show _ = (.int .i64 480 : Value) from s222) ⟨TV.zero, congrArg (fun (p : Trade × Msg × Int) => Value.tuple #[TV.val TV.zero, .agg (Msg.arr p.2.1), .int .i64 p.2.2]) (Eq.symm pe232), by rw [pe232]; exact hT233.tl.tl.tl.tl.tl, R216⟩))
      · skip
        refine W.skip ?_
        refine then_n ?_
        refine W.seq ?_
        refine W.reg ?_
        have h234 := h141.gr g182
        have h235 := h234.gr g186
        refine W.val rfl rfl (X.loadR (ev' (.pointer (some ⟨b4, 0, none⟩)) rfl s191) rt24 (row_blk_trade h235) rfl) ?_
        refine W.eff rfl rfl (Y.alloc (cs := TV.zero.arr) zero24 rfl) ?_
        rintro _ w236 ⟨b237, rfl, g238, hB239, lt240⟩
        have ne241 := h235.ne lt240
        have h242 := h100.gr g103
        have h243 := h242.st c118 ne108
        have h244 := h243.st c131 ne108
        have h245 := h244.gr g182
        have h246 := h245.gr g186
        have ne247 := h246.ne lt240
        have h248 := h110.gr g103
        have h249 := h248.st c118 ne111
        have h250 := h249.st c131 ne111
        have h251 := h250.gr g182
        have h252 := h251.gr g186
        have ne253 := h252.ne lt240
        have h254 := h112.gr g103
        have h255 := h254.st c118 ne113
        have h256 := h255.st c131 ne113
        have h257 := h256.gr g182
        have h258 := h257.gr g186
        have ne259 := h258.ne lt240
        have h260 := h184.gr g186
        have ne261 := h260.ne lt240
        have l262 := Nat.le_trans R187.size lt240
        have R263 := R187.gr g238
        refine W.eff0 rfl rfl (Y.storeW (ds := T.arr) (ev' (.pointer (some ⟨b237, 0, none⟩)) rfl rfl) (ev' (T.val) rfl rfl) hB239 (n := 4) rfl sz24 rfl (TV.oneCell _) rfl) ?_
        rintro w265 ⟨c266, hB267⟩
        have R268 := R263.stN c266 l262
        refine W.nil ?_
        refine then_n ?_
        refine W.fresh ?_
        intro r270 er271
        have s272 : r270 2 = .pointer (some ⟨b4, 0, none⟩) := (congrFun er271 2).trans s191
        have s273 : r270 4 = .pointer (some ⟨b21, 0, none⟩) := (congrFun er271 4).trans s192
        have s274 : r270 5 = .pointer (some ⟨b32, 0, none⟩) := (congrFun er271 5).trans s193
        have s275 : r270 8 = .pointer (some ⟨b102, 0, none⟩) := (congrFun er271 8).trans s194
        have s276 : r270 9 = .pointer (some ⟨b237, 0, none⟩) := (congrFun er271 9).trans rfl
        clear er271
        refine W.seq ?_
        refine W.reg ?_
        refine W.val rfl rfl (X.fieldAddr (ev' (.pointer (some ⟨b237, 0, none⟩)) rfl s276) fo24_0 (b := ⟨b237, 0, none⟩) (Addr.add_lit _ _ _)) ?_
        refine W.val rfl rfl (X.load (ev' (.pointer (some ⟨b237, 0, none⟩)) rfl rfl) pt3 (Blk.lc hB267 rfl)) ?_
        refine W.val rfl rfl (X.addIn (ev' (.int .i64 T.next) rfl rfl) (evc' (.int .i64 1)) (next_small ht.next k74).1 (next_small ht.next k74).2) ?_
        refine W.val rfl rfl (X.fieldAddr (ev' (.pointer (some ⟨b237, 0, none⟩)) rfl s276) fo24_0 (b := ⟨b237, 0, none⟩) (Addr.add_lit _ _ _)) ?_
        refine W.eff0 rfl rfl (Y.storeC (ds := ({ T with next := T.next + 1 } : TV).arr) (ev' (.pointer (some ⟨b237, 0, none⟩)) rfl rfl) (ev' (.int .i64 (T.next + 1)) rfl rfl) hB267 (show 0 < 4 from by decide) sz3 rfl rfl rfl) ?_
        rintro w277 ⟨c278, hB279⟩
        have R280 := R268.stN c278 l262
        refine W.nil ?_
        refine then_n ?_
        refine W.fresh ?_
        intro r282 er283
        have s284 : r282 2 = .pointer (some ⟨b4, 0, none⟩) := (congrFun er283 2).trans s272
        have s285 : r282 4 = .pointer (some ⟨b21, 0, none⟩) := (congrFun er283 4).trans s273
        have s286 : r282 5 = .pointer (some ⟨b32, 0, none⟩) := (congrFun er283 5).trans s274
        have s287 : r282 8 = .pointer (some ⟨b102, 0, none⟩) := (congrFun er283 8).trans s275
        have s288 : r282 9 = .pointer (some ⟨b237, 0, none⟩) := (congrFun er283 9).trans s276
        clear er283
        refine W.seq ?_
        refine A.begin' (cs := [b237]) rfl ?_
        intro w289 g290
        have R291 := R280.gr g290
        have R292 : Chg [b237] w289 w289 := Chg.of_refl _ _
        refine A.take (i := 1) rfl (by kernel_rfl) (by kernel_rfl) (by kernel_rfl) (fun _ _ _ h => h) R292 rfl rfl (fun _ _ => (X.fieldAddr (ev' (.pointer (some ⟨b4, 0, none⟩)) rfl s284) fo24_1 (b := ⟨b4, 1, none⟩) (Addr.add_lit _ _ _))) ?_
        have h293 := h235.gr g238
        have h294 := h293.st c266 ne241
        have h295 := h294.st c278 ne241
        have h296 := h295.gr g290
        refine A.take (i := 2) rfl (by kernel_rfl) (by kernel_rfl) (by kernel_rfl) (fun _ _ _ h => h) R292 rfl rfl (fun _ hw => (X.load (ev' (.pointer (some ⟨b4, 1, none⟩)) rfl rfl) pt22 (Blk.lc (h296.chg hw (by simp [ne241])) rfl))) ?_
        have h297 := h260.gr g238
        have h298 := h297.st c266 ne261
        have h299 := h298.st c278 ne261
        have h300 := h299.gr g290
        refine A.take (i := 4) rfl (by kernel_rfl) (by kernel_rfl) (by kernel_rfl) (fun _ _ _ h => h) R292 rfl rfl (fun _ hw => (X.loadR (ev' (.pointer (some ⟨b102, 0, none⟩)) rfl s287) rt30 (row_blk_msg (h300.chg hw (by simp [ne261]))) rfl)) ?_
        refine A.two (i := 0) (j := 5) (by kernel_rfl) ?_ ?_
        · skip
          have R301 : Grow w289 w289 := Chg.refl _
          have h302 := hl.new g5 hB6.lt
          have h303 := h302.new g13 hB14.lt
          have h304 := h303.new g22 hB23.lt
          have h305 := h304.new g33 hB34.lt
          have h306 := h305.gr g57
          have h307 := h306.new g103 hB104.lt
          have h308 := h307.gr c118
          have h309 := h308.gr c131
          have h310 := h309.gr g182
          have h311 := h310.gr g186
          have h312 := h311.new g238 hB239.lt
          have h313 := h312.gr c266
          have h314 := h313.gr c278
          have h315 := h314.gr g290
          refine E.eff (i := 0) rfl rfl rfl (Y.own0c h315) ?_
          rintro v317 w316 ⟨_, rfl, g318, ho319, hc320⟩
          have R321 := R291.gr g318
          have R322 := R292.gr g318
          have R323 := R301.gr g318
          refine ⟨R322, ?_⟩
          refine A.two (i := 3) (j := 5) (by kernel_rfl) ?_ ?_
          · skip
            have h325 := h55.gr g57
            have h326 := (h325.ext lt105).gr g103
            have h327 := h326.st c118 (.head _)
            have h328 := h327.st c131 (.head _)
            have h329 := h328.gr g182
            have h330 := h329.gr g186
            have h331 := (h330.ext lt240).gr g238
            have h332 := h331.st c266 (.head _)
            have h333 := h332.st c278 (.head _)
            have h334 := h333.gr g290
            have h335 := h334.gr g318
            have h341 := h315.gr g318
            refine E.eff (i := 3) rfl rfl rfl (Y.append0 (ev' (v317) rfl rfl) (ev' (T.p.val) rfl rfl) ho319 hc320 h335.p (Nat.le_of_succ_le (placed_len k74)) R323 h315 h341) ?_
            rintro v337 w336 ⟨_, n338, rfl, g339, ho340⟩
            have R342 := R321.gr g339
            have R343 := R322.gr g339
            have R344 := R323.gr g339
            refine ⟨R343, ?_⟩
            refine A.one (i := 5) (by kernel_rfl) ?_
            have h346 := h341.gr g339
            refine E.eff (i := 5) rfl rfl rfl (Y.slice1 (bs := (b237 :: b102 :: b32 :: b21 :: b12 :: b4 :: bs)) (ev' (.agg ({ m with no := T.next } : Msg).arr) rfl rfl) h346) ?_
            rintro _ w347 ⟨s348, rfl, g349, hs350⟩
            have R351 := R342.gr g349
            have R352 := R343.gr g349
            have R353 := R344.gr g349
            refine ⟨R352, ?_⟩
            refine A.one (i := 6) (by kernel_rfl) ?_
            have h355 := ho340.gr g349
            refine E.eff (i := 6) rfl rfl rfl (Y.appendOwnS (ev' (v337) rfl rfl) (ev' (s348.val) rfl rfl) h355 hs350 (by simp) (placed_len k74) R353 h315) ?_
            rintro _ w356 ⟨s357, rfl, g358, hs359⟩
            have R360 := R291.gr g358
            have R361 := R292.gr g358
            refine ⟨R361, ?_⟩
            refine A.take (i := 7) rfl (by kernel_rfl) (by kernel_rfl) (by kernel_rfl) (fun _ _ _ h => h) R361 rfl rfl (fun _ _ => (X.fieldAddr (ev' (.pointer (some ⟨b237, 0, none⟩)) rfl s288) fo24_1 (b := ⟨b237, 1, none⟩) (Addr.add_lit _ _ _))) ?_
            refine A.one (i := 8) (by kernel_rfl) ?_
            have h363 := hB279.gr g290
            have h364 := h363.gr g358
            refine E.eff0 (i := 8) rfl rfl rfl (Y.storeC (ds := ({ ({ T with next := T.next + 1 } : TV) with p := s357 } : TV).arr) (ev' (.pointer (some ⟨b237, 1, none⟩)) rfl rfl) (ev' (s357.val) rfl rfl) h364 (show 1 < 4 from by decide) sz22 rfl rfl rfl) ?_
            rintro w365 ⟨c366, hB367⟩
            have R368 := R360.stN c366 l262
            have R369 := R361.stO c366 (.head _)
            refine ⟨R369, ?_⟩
            refine A.done (by kernel_rfl) ?_
            refine then_n ?_
            refine W.fresh ?_
            intro r371 er372
            have s373 : r371 4 = .pointer (some ⟨b21, 0, none⟩) := (congrFun er372 4).trans s285
            have s374 : r371 5 = .pointer (some ⟨b32, 0, none⟩) := (congrFun er372 5).trans s286
            have s375 : r371 8 = .pointer (some ⟨b102, 0, none⟩) := (congrFun er372 8).trans s287
            have s376 : r371 9 = .pointer (some ⟨b237, 0, none⟩) := (congrFun er372 9).trans s288
            clear er372
            refine W.seq ?_
            refine A.begin' (cs := [b21, b32]) rfl ?_
            intro w377 g378
            have R379 := R368.gr g378
            have R380 : Chg [b21, b32] w377 w377 := Chg.of_refl _ _
            have h381 := hB367.gr g378
            refine A.take (i := 0) rfl (by kernel_rfl) (by kernel_rfl) (by kernel_rfl) (fun _ _ _ h => h) R380 rfl rfl (fun _ hw => (X.loadR (ev' (.pointer (some ⟨b237, 0, none⟩)) rfl s376) rt24 (row_blk_trade (h381.chg hw (by simp [ne253.symm, ne259.symm]))) rfl)) ?_
            have h382 := h300.gr g358
            have h383 := h382.st c366 ne261
            have h384 := h383.gr g378
            refine A.take (i := 1) rfl (by kernel_rfl) (by kernel_rfl) (by kernel_rfl) (fun _ _ _ h => h) R380 rfl rfl (fun _ hw => (X.loadR (ev' (.pointer (some ⟨b102, 0, none⟩)) rfl s375) rt30 (row_blk_msg (h384.chg hw (by simp [ne111.symm, ne113.symm]))) rfl)) ?_
            refine A.one (i := 2) (by kernel_rfl) ?_
            have h385 := h252.gr g238
            have h386 := h385.st c266 ne253
            have h387 := h386.st c278 ne253
            have h388 := h387.gr g290
            have h389 := h388.gr g358
            have h390 := h389.st c366 ne253
            have h391 := h390.gr g378
            refine E.eff0 (i := 2) rfl rfl rfl (Y.storeW (ds := ({ ({ T with next := T.next + 1 } : TV) with p := s357 } : TV).arr) (ev' (.pointer (some ⟨b21, 0, none⟩)) rfl s373) (ev' (({ ({ T with next := T.next + 1 } : TV) with p := s357 } : TV).val) rfl rfl) h391 (n := 4) rfl sz24 rfl (TV.oneCell _) rfl) ?_
            rintro w392 ⟨c393, hB394⟩
            have R395 := R379.stN c393 l28
            have R396 := R380.stO c393 (.head _)
            refine ⟨R396, ?_⟩
            refine A.one (i := 3) (by kernel_rfl) ?_
            have h398 := h258.gr g238
            have h399 := h398.st c266 ne259
            have h400 := h399.st c278 ne259
            have h401 := h400.gr g290
            have h402 := h401.gr g358
            have h403 := h402.st c366 ne259
            have h404 := h403.gr g378
            have h405 := h404.st c393 ne40.symm
            refine E.eff0 (i := 3) rfl rfl rfl (Y.storeW (ds := ({ m with no := T.next } : Msg).arr) (ev' (.pointer (some ⟨b32, 0, none⟩)) rfl s374) (ev' (.agg ({ m with no := T.next } : Msg).arr) rfl rfl) h405 (Msg.size_arr _) sz30 (Msg.size_arr _) (Msg.oneCellA _) rfl) ?_
            rintro w406 ⟨c407, hB408⟩
            have R409 := R395.stN c407 l41
            have R410 := R396.stO c407 (.tail _ (.head _))
            refine ⟨R410, ?_⟩
            refine A.take (i := 4) rfl (by kernel_rfl) (by kernel_rfl) (by kernel_rfl) (fun _ _ _ h => h) R410 rfl rfl (fun _ _ => (X.assign (evc' (.int .i64 0)))) ?_
            refine A.done (by kernel_rfl) ?_
            refine then_n ?_
            refine W.fresh ?_
            intro r412 er413
            have s414 : r412 4 = .pointer (some ⟨b21, 0, none⟩) := (congrFun er413 4).trans s373
            have s415 : r412 5 = .pointer (some ⟨b32, 0, none⟩) := (congrFun er413 5).trans s374
            have s416 : r412 6 = .int .i64 0 := (congrFun er413 6).trans rfl
            clear er413
            have h417 := hB394.st c407 ne40
            have h418 := h334.gr g358
            have h419 := h418.st c366 (.head _)
            have h420 := h419.gr g378
            have h421 := h420.st c393 (.tail _ (.tail _ (.tail _ (.head _))))
            have h422 := h421.st c407 (.tail _ (.tail _ (.head _)))
            have h423 := hs359.st c366 (.head _)
            have h424 := h423.gr g378
            have h425 := h424.st c393 (.tail _ (.tail _ (.tail _ (.head _))))
            have h426 := h425.st c407 (.tail _ (.tail _ (.head _)))
            have pe427 : placeR t m = _ := (by subst eq188; exact (place_4 ht.next k74 k149 k196))
            have hT428 : Tr (b237 :: b102 :: b32 :: b21 :: b12 :: b4 :: bs) w406 ({ ({ T with next := T.next + 1 } : TV) with p := s357 } : TV) ({ t with next := t.next + 1, placed := (t.placed ++ [({ m with no := T.next } : Msg)]) } : Trade) := ⟨(congrArg (· + 1) h422.next), h426, h422.r, h422.d⟩
            refine W.ret (retCCT rfl rfl (show _ = (.pointer (some ⟨b21, 0, none⟩) : Value) from s414) (run_loadAt_row rt24 (row_blk_trade h417)) rfl (show _ = (.pointer (some ⟨b32, 0, none⟩) : Value) from s415) (run_loadAt_row rt30 (row_blk_msg hB408)) rfl (show _ = (.int .i64 0 : Value) from s416) ⟨({ ({ T with next := T.next + 1 } : TV) with p := s357 } : TV), congrArg (fun (p : Trade × Msg × Int) => Value.tuple #[TV.val ({ ({ T with next := T.next + 1 } : TV) with p := s357 } : TV), .agg (Msg.arr p.2.1), .int .i64 p.2.2]) (Eq.symm pe427), by rw [pe427]; exact hT428.tl.tl.tl.tl.tl.tl, R409⟩)
          · skip
            have h429 := h315.gr g318
            refine E.eff (i := 5) rfl rfl rfl (Y.slice1 (bs := (b237 :: b102 :: b32 :: b21 :: b12 :: b4 :: bs)) (ev' (.agg ({ m with no := T.next } : Msg).arr) rfl rfl) h429) ?_
            rintro _ w430 ⟨s431, rfl, g432, hs433⟩
            have R434 := R321.gr g432
            have R435 := R322.gr g432
            have R436 := R323.gr g432
            refine ⟨R435, ?_⟩
            refine A.one (i := 3) (by kernel_rfl) ?_
            have h438 := ho319.gr g432
            have h439 := h55.gr g57
            have h440 := (h439.ext lt105).gr g103
            have h441 := h440.st c118 (.head _)
            have h442 := h441.st c131 (.head _)
            have h443 := h442.gr g182
            have h444 := h443.gr g186
            have h445 := (h444.ext lt240).gr g238
            have h446 := h445.st c266 (.head _)
            have h447 := h446.st c278 (.head _)
            have h448 := h447.gr g290
            have h449 := h448.gr g318
            have h450 := h449.gr g432
            have h456 := h429.gr g432
            refine E.eff (i := 3) rfl rfl rfl (Y.append0 (ev' (v317) rfl rfl) (ev' (T.p.val) rfl rfl) h438 hc320 h450.p (Nat.le_of_succ_le (placed_len k74)) R436 h315 h456) ?_
            rintro v452 w451 ⟨_, n453, rfl, g454, ho455⟩
            have R457 := R434.gr g454
            have R458 := R435.gr g454
            have R459 := R436.gr g454
            refine ⟨R458, ?_⟩
            refine A.one (i := 6) (by kernel_rfl) ?_
            have h461 := hs433.gr g454
            refine E.eff (i := 6) rfl rfl rfl (Y.appendOwnS (ev' (v452) rfl rfl) (ev' (s431.val) rfl rfl) ho455 h461 (by simp) (placed_len k74) R459 h315) ?_
            rintro _ w462 ⟨s463, rfl, g464, hs465⟩
            have R466 := R291.gr g464
            have R467 := R292.gr g464
            refine ⟨R467, ?_⟩
            refine A.take (i := 7) rfl (by kernel_rfl) (by kernel_rfl) (by kernel_rfl) (fun _ _ _ h => h) R467 rfl rfl (fun _ _ => (X.fieldAddr (ev' (.pointer (some ⟨b237, 0, none⟩)) rfl s288) fo24_1 (b := ⟨b237, 1, none⟩) (Addr.add_lit _ _ _))) ?_
            refine A.one (i := 8) (by kernel_rfl) ?_
            have h469 := hB279.gr g290
            have h470 := h469.gr g464
            refine E.eff0 (i := 8) rfl rfl rfl (Y.storeC (ds := ({ ({ T with next := T.next + 1 } : TV) with p := s463 } : TV).arr) (ev' (.pointer (some ⟨b237, 1, none⟩)) rfl rfl) (ev' (s463.val) rfl rfl) h470 (show 1 < 4 from by decide) sz22 rfl rfl rfl) ?_
            rintro w471 ⟨c472, hB473⟩
            have R474 := R466.stN c472 l262
            have R475 := R467.stO c472 (.head _)
            refine ⟨R475, ?_⟩
            refine A.done (by kernel_rfl) ?_
            refine then_n ?_
            refine W.fresh ?_
            intro r477 er478
            have s479 : r477 4 = .pointer (some ⟨b21, 0, none⟩) := (congrFun er478 4).trans s285
            have s480 : r477 5 = .pointer (some ⟨b32, 0, none⟩) := (congrFun er478 5).trans s286
            have s481 : r477 8 = .pointer (some ⟨b102, 0, none⟩) := (congrFun er478 8).trans s287
            have s482 : r477 9 = .pointer (some ⟨b237, 0, none⟩) := (congrFun er478 9).trans s288
            clear er478
            refine W.seq ?_
            refine A.begin' (cs := [b21, b32]) rfl ?_
            intro w483 g484
            have R485 := R474.gr g484
            have R486 : Chg [b21, b32] w483 w483 := Chg.of_refl _ _
            have h487 := hB473.gr g484
            refine A.take (i := 0) rfl (by kernel_rfl) (by kernel_rfl) (by kernel_rfl) (fun _ _ _ h => h) R486 rfl rfl (fun _ hw => (X.loadR (ev' (.pointer (some ⟨b237, 0, none⟩)) rfl s482) rt24 (row_blk_trade (h487.chg hw (by simp [ne253.symm, ne259.symm]))) rfl)) ?_
            have h488 := h300.gr g464
            have h489 := h488.st c472 ne261
            have h490 := h489.gr g484
            refine A.take (i := 1) rfl (by kernel_rfl) (by kernel_rfl) (by kernel_rfl) (fun _ _ _ h => h) R486 rfl rfl (fun _ hw => (X.loadR (ev' (.pointer (some ⟨b102, 0, none⟩)) rfl s481) rt30 (row_blk_msg (h490.chg hw (by simp [ne111.symm, ne113.symm]))) rfl)) ?_
            refine A.one (i := 2) (by kernel_rfl) ?_
            have h491 := h252.gr g238
            have h492 := h491.st c266 ne253
            have h493 := h492.st c278 ne253
            have h494 := h493.gr g290
            have h495 := h494.gr g464
            have h496 := h495.st c472 ne253
            have h497 := h496.gr g484
            refine E.eff0 (i := 2) rfl rfl rfl (Y.storeW (ds := ({ ({ T with next := T.next + 1 } : TV) with p := s463 } : TV).arr) (ev' (.pointer (some ⟨b21, 0, none⟩)) rfl s479) (ev' (({ ({ T with next := T.next + 1 } : TV) with p := s463 } : TV).val) rfl rfl) h497 (n := 4) rfl sz24 rfl (TV.oneCell _) rfl) ?_
            rintro w498 ⟨c499, hB500⟩
            have R501 := R485.stN c499 l28
            have R502 := R486.stO c499 (.head _)
            refine ⟨R502, ?_⟩
            refine A.one (i := 3) (by kernel_rfl) ?_
            have h504 := h258.gr g238
            have h505 := h504.st c266 ne259
            have h506 := h505.st c278 ne259
            have h507 := h506.gr g290
            have h508 := h507.gr g464
            have h509 := h508.st c472 ne259
            have h510 := h509.gr g484
            have h511 := h510.st c499 ne40.symm
            refine E.eff0 (i := 3) rfl rfl rfl (Y.storeW (ds := ({ m with no := T.next } : Msg).arr) (ev' (.pointer (some ⟨b32, 0, none⟩)) rfl s480) (ev' (.agg ({ m with no := T.next } : Msg).arr) rfl rfl) h511 (Msg.size_arr _) sz30 (Msg.size_arr _) (Msg.oneCellA _) rfl) ?_
            rintro w512 ⟨c513, hB514⟩
            have R515 := R501.stN c513 l41
            have R516 := R502.stO c513 (.tail _ (.head _))
            refine ⟨R516, ?_⟩
            refine A.take (i := 4) rfl (by kernel_rfl) (by kernel_rfl) (by kernel_rfl) (fun _ _ _ h => h) R516 rfl rfl (fun _ _ => (X.assign (evc' (.int .i64 0)))) ?_
            refine A.done (by kernel_rfl) ?_
            refine then_n ?_
            refine W.fresh ?_
            intro r518 er519
            have s520 : r518 4 = .pointer (some ⟨b21, 0, none⟩) := (congrFun er519 4).trans s479
            have s521 : r518 5 = .pointer (some ⟨b32, 0, none⟩) := (congrFun er519 5).trans s480
            have s522 : r518 6 = .int .i64 0 := (congrFun er519 6).trans rfl
            clear er519
            have h523 := hB500.st c513 ne40
            have h524 := h448.gr g464
            have h525 := h524.st c472 (.head _)
            have h526 := h525.gr g484
            have h527 := h526.st c499 (.tail _ (.tail _ (.tail _ (.head _))))
            have h528 := h527.st c513 (.tail _ (.tail _ (.head _)))
            have h529 := hs465.st c472 (.head _)
            have h530 := h529.gr g484
            have h531 := h530.st c499 (.tail _ (.tail _ (.tail _ (.head _))))
            have h532 := h531.st c513 (.tail _ (.tail _ (.head _)))
            have pe533 : placeR t m = _ := (by subst eq188; exact (place_4 ht.next k74 k149 k196))
            have hT534 : Tr (b237 :: b102 :: b32 :: b21 :: b12 :: b4 :: bs) w512 ({ ({ T with next := T.next + 1 } : TV) with p := s463 } : TV) ({ t with next := t.next + 1, placed := (t.placed ++ [({ m with no := T.next } : Msg)]) } : Trade) := ⟨(congrArg (· + 1) h528.next), h532, h528.r, h528.d⟩
            refine W.ret (retCCT rfl rfl (show _ = (.pointer (some ⟨b21, 0, none⟩) : Value) from s520) (run_loadAt_row rt24 (row_blk_trade h523)) rfl (show _ = (.pointer (some ⟨b32, 0, none⟩) : Value) from s521) (run_loadAt_row rt30 (row_blk_msg hB514)) rfl (show _ = (.int .i64 0 : Value) from s522) ⟨({ ({ T with next := T.next + 1 } : TV) with p := s463 } : TV), congrArg (fun (p : Trade × Msg × Int) => Value.tuple #[TV.val ({ ({ T with next := T.next + 1 } : TV) with p := s463 } : TV), .agg (Msg.arr p.2.1), .int .i64 p.2.2]) (Eq.symm pe533), by rw [pe533]; exact hT534.tl.tl.tl.tl.tl.tl, R515⟩)
        · skip
          have h535 := hl.new g5 hB6.lt
          have h536 := h535.new g13 hB14.lt
          have h537 := h536.new g22 hB23.lt
          have h538 := h537.new g33 hB34.lt
          have h539 := h538.gr g57
          have h540 := h539.new g103 hB104.lt
          have h541 := h540.gr c118
          have h542 := h541.gr c131
          have h543 := h542.gr g182
          have h544 := h543.gr g186
          have h545 := h544.new g238 hB239.lt
          have h546 := h545.gr c266
          have h547 := h546.gr c278
          have h548 := h547.gr g290
          refine E.eff (i := 5) rfl rfl rfl (Y.slice1 (bs := (b237 :: b102 :: b32 :: b21 :: b12 :: b4 :: bs)) (ev' (.agg ({ m with no := T.next } : Msg).arr) rfl rfl) h548) ?_
          rintro _ w549 ⟨s550, rfl, g551, hs552⟩
          have R553 := R291.gr g551
          have R554 := R292.gr g551
          refine ⟨R554, ?_⟩
          refine A.one (i := 0) (by kernel_rfl) ?_
          have R556 : Grow w549 w549 := Chg.refl _
          have h557 := h548.gr g551
          refine E.eff (i := 0) rfl rfl rfl (Y.own0c h557) ?_
          rintro v559 w558 ⟨_, rfl, g560, ho561, hc562⟩
          have R563 := R553.gr g560
          have R564 := R554.gr g560
          have R565 := R556.gr g560
          refine ⟨R564, ?_⟩
          refine A.one (i := 3) (by kernel_rfl) ?_
          have h567 := h55.gr g57
          have h568 := (h567.ext lt105).gr g103
          have h569 := h568.st c118 (.head _)
          have h570 := h569.st c131 (.head _)
          have h571 := h570.gr g182
          have h572 := h571.gr g186
          have h573 := (h572.ext lt240).gr g238
          have h574 := h573.st c266 (.head _)
          have h575 := h574.st c278 (.head _)
          have h576 := h575.gr g290
          have h577 := h576.gr g551
          have h578 := h577.gr g560
          have h584 := h557.gr g560
          refine E.eff (i := 3) rfl rfl rfl (Y.append0 (ev' (v559) rfl rfl) (ev' (T.p.val) rfl rfl) ho561 hc562 h578.p (Nat.le_of_succ_le (placed_len k74)) R565 h557 h584) ?_
          rintro v580 w579 ⟨_, n581, rfl, g582, ho583⟩
          have R585 := R563.gr g582
          have R586 := R564.gr g582
          have R587 := R565.gr g582
          refine ⟨R586, ?_⟩
          refine A.one (i := 6) (by kernel_rfl) ?_
          have h589 := hs552.gr g560
          have h590 := h589.gr g582
          refine E.eff (i := 6) rfl rfl rfl (Y.appendOwnS (ev' (v580) rfl rfl) (ev' (s550.val) rfl rfl) ho583 h590 (by simp) (placed_len k74) R587 h557) ?_
          rintro _ w591 ⟨s592, rfl, g593, hs594⟩
          have R595 := R553.gr g593
          have R596 := R554.gr g593
          refine ⟨R596, ?_⟩
          refine A.take (i := 7) rfl (by kernel_rfl) (by kernel_rfl) (by kernel_rfl) (fun _ _ _ h => h) R596 rfl rfl (fun _ _ => (X.fieldAddr (ev' (.pointer (some ⟨b237, 0, none⟩)) rfl s288) fo24_1 (b := ⟨b237, 1, none⟩) (Addr.add_lit _ _ _))) ?_
          refine A.one (i := 8) (by kernel_rfl) ?_
          have h598 := hB279.gr g290
          have h599 := h598.gr g551
          have h600 := h599.gr g593
          refine E.eff0 (i := 8) rfl rfl rfl (Y.storeC (ds := ({ ({ T with next := T.next + 1 } : TV) with p := s592 } : TV).arr) (ev' (.pointer (some ⟨b237, 1, none⟩)) rfl rfl) (ev' (s592.val) rfl rfl) h600 (show 1 < 4 from by decide) sz22 rfl rfl rfl) ?_
          rintro w601 ⟨c602, hB603⟩
          have R604 := R595.stN c602 l262
          have R605 := R596.stO c602 (.head _)
          refine ⟨R605, ?_⟩
          refine A.done (by kernel_rfl) ?_
          refine then_n ?_
          refine W.fresh ?_
          intro r607 er608
          have s609 : r607 4 = .pointer (some ⟨b21, 0, none⟩) := (congrFun er608 4).trans s285
          have s610 : r607 5 = .pointer (some ⟨b32, 0, none⟩) := (congrFun er608 5).trans s286
          have s611 : r607 8 = .pointer (some ⟨b102, 0, none⟩) := (congrFun er608 8).trans s287
          have s612 : r607 9 = .pointer (some ⟨b237, 0, none⟩) := (congrFun er608 9).trans s288
          clear er608
          refine W.seq ?_
          refine A.begin' (cs := [b21, b32]) rfl ?_
          intro w613 g614
          have R615 := R604.gr g614
          have R616 : Chg [b21, b32] w613 w613 := Chg.of_refl _ _
          have h617 := hB603.gr g614
          refine A.take (i := 0) rfl (by kernel_rfl) (by kernel_rfl) (by kernel_rfl) (fun _ _ _ h => h) R616 rfl rfl (fun _ hw => (X.loadR (ev' (.pointer (some ⟨b237, 0, none⟩)) rfl s612) rt24 (row_blk_trade (h617.chg hw (by simp [ne253.symm, ne259.symm]))) rfl)) ?_
          have h618 := h300.gr g551
          have h619 := h618.gr g593
          have h620 := h619.st c602 ne261
          have h621 := h620.gr g614
          refine A.take (i := 1) rfl (by kernel_rfl) (by kernel_rfl) (by kernel_rfl) (fun _ _ _ h => h) R616 rfl rfl (fun _ hw => (X.loadR (ev' (.pointer (some ⟨b102, 0, none⟩)) rfl s611) rt30 (row_blk_msg (h621.chg hw (by simp [ne111.symm, ne113.symm]))) rfl)) ?_
          refine A.one (i := 2) (by kernel_rfl) ?_
          have h622 := h252.gr g238
          have h623 := h622.st c266 ne253
          have h624 := h623.st c278 ne253
          have h625 := h624.gr g290
          have h626 := h625.gr g551
          have h627 := h626.gr g593
          have h628 := h627.st c602 ne253
          have h629 := h628.gr g614
          refine E.eff0 (i := 2) rfl rfl rfl (Y.storeW (ds := ({ ({ T with next := T.next + 1 } : TV) with p := s592 } : TV).arr) (ev' (.pointer (some ⟨b21, 0, none⟩)) rfl s609) (ev' (({ ({ T with next := T.next + 1 } : TV) with p := s592 } : TV).val) rfl rfl) h629 (n := 4) rfl sz24 rfl (TV.oneCell _) rfl) ?_
          rintro w630 ⟨c631, hB632⟩
          have R633 := R615.stN c631 l28
          have R634 := R616.stO c631 (.head _)
          refine ⟨R634, ?_⟩
          refine A.one (i := 3) (by kernel_rfl) ?_
          have h636 := h258.gr g238
          have h637 := h636.st c266 ne259
          have h638 := h637.st c278 ne259
          have h639 := h638.gr g290
          have h640 := h639.gr g551
          have h641 := h640.gr g593
          have h642 := h641.st c602 ne259
          have h643 := h642.gr g614
          have h644 := h643.st c631 ne40.symm
          refine E.eff0 (i := 3) rfl rfl rfl (Y.storeW (ds := ({ m with no := T.next } : Msg).arr) (ev' (.pointer (some ⟨b32, 0, none⟩)) rfl s610) (ev' (.agg ({ m with no := T.next } : Msg).arr) rfl rfl) h644 (Msg.size_arr _) sz30 (Msg.size_arr _) (Msg.oneCellA _) rfl) ?_
          rintro w645 ⟨c646, hB647⟩
          have R648 := R633.stN c646 l41
          have R649 := R634.stO c646 (.tail _ (.head _))
          refine ⟨R649, ?_⟩
          refine A.take (i := 4) rfl (by kernel_rfl) (by kernel_rfl) (by kernel_rfl) (fun _ _ _ h => h) R649 rfl rfl (fun _ _ => (X.assign (evc' (.int .i64 0)))) ?_
          refine A.done (by kernel_rfl) ?_
          refine then_n ?_
          refine W.fresh ?_
          intro r651 er652
          have s653 : r651 4 = .pointer (some ⟨b21, 0, none⟩) := (congrFun er652 4).trans s609
          have s654 : r651 5 = .pointer (some ⟨b32, 0, none⟩) := (congrFun er652 5).trans s610
          have s655 : r651 6 = .int .i64 0 := (congrFun er652 6).trans rfl
          clear er652
          have h656 := hB632.st c646 ne40
          have h657 := h577.gr g593
          have h658 := h657.st c602 (.head _)
          have h659 := h658.gr g614
          have h660 := h659.st c631 (.tail _ (.tail _ (.tail _ (.head _))))
          have h661 := h660.st c646 (.tail _ (.tail _ (.head _)))
          have h662 := hs594.st c602 (.head _)
          have h663 := h662.gr g614
          have h664 := h663.st c631 (.tail _ (.tail _ (.tail _ (.head _))))
          have h665 := h664.st c646 (.tail _ (.tail _ (.head _)))
          have pe666 : placeR t m = _ := (by subst eq188; exact (place_4 ht.next k74 k149 k196))
          have hT667 : Tr (b237 :: b102 :: b32 :: b21 :: b12 :: b4 :: bs) w645 ({ ({ T with next := T.next + 1 } : TV) with p := s592 } : TV) ({ t with next := t.next + 1, placed := (t.placed ++ [({ m with no := T.next } : Msg)]) } : Trade) := ⟨(congrArg (· + 1) h661.next), h665, h661.r, h661.d⟩
          refine W.ret (retCCT rfl rfl (show _ = (.pointer (some ⟨b21, 0, none⟩) : Value) from s653) (run_loadAt_row rt24 (row_blk_trade h656)) rfl (show _ = (.pointer (some ⟨b32, 0, none⟩) : Value) from s654) (run_loadAt_row rt30 (row_blk_msg hB647)) rfl (show _ = (.int .i64 0 : Value) from s655) ⟨({ ({ T with next := T.next + 1 } : TV) with p := s592 } : TV), congrArg (fun (p : Trade × Msg × Int) => Value.tuple #[TV.val ({ ({ T with next := T.next + 1 } : TV) with p := s592 } : TV), .agg (Msg.arr p.2.1), .int .i64 p.2.2]) (Eq.symm pe666), by rw [pe666]; exact hT667.tl.tl.tl.tl.tl.tl, R648⟩)

end Go.Proofs.Ytigimkmkbdnlpaa
