/- The law TradeOther, walked. Printed by gen.py. -/
import Derived.Test.YtigimkmkbdnlpaaFg
import Derived.Test.YtigimkmkbdnlpaaOther
namespace Go.Proofs.Ytigimkmkbdnlpaa
open Go.RowKit

theorem law5_c {bs : List Nat} {T : TV} {t : Trade} (m : Msg) (id b : Int) (w : World) (ht : Tr bs w T t) (hl : LtAll bs w) (hb : -9223372036854775808 ≤ b ∧ b ≤ 9223372036854775807) : Calls Try.prog 7 #[T.val, .agg m.arr, .int .i64 id, .int .i64 b] w (Ret fun v w' => v = .bool (true) ∧ Grow w w') := by
  refine enter (N := 103) Try.func7 rfl Try.ntmps7 rfl ?_
  intro ρ hρ
  have a0 : ρ 0 = T.val := hρ 0 _ rfl
  have a1 : ρ 1 = .agg m.arr := hρ 1 _ rfl
  have a2 : ρ 2 = .int .i64 id := hρ 2 _ rfl
  have a3 : ρ 3 = .int .i64 b := hρ 3 _ rfl
  clear hρ
  have R0 : Grow w w := Chg.refl w
  refine W.seq ?_
  refine W.reg ?_
  refine W.eff rfl rfl (Y.box (cs := T.arr) (ev' (T.val) rfl a0) rfl) ?_
  rintro _ w3 ⟨b4, rfl, g5, hB6, lt7⟩
  have l8 := Nat.le_trans R0.size lt7
  have R9 := R0.gr g5
  refine W.eff rfl rfl (Y.box (cs := m.arr) (ev' (.agg m.arr) rfl a1) rfl) ?_
  rintro _ w11 ⟨b12, rfl, g13, hB14, lt15⟩
  have ne16 := hB6.ne lt15
  have l17 := Nat.le_trans R9.size lt15
  have R18 := R9.gr g13
  refine W.val rfl rfl (X.assign (evc' (.bool false))) ?_
  refine W.nil ?_
  refine then_n ?_
  refine W.fresh ?_
  intro r20 er21
  have s22 : r20 2 = .int .i64 id := (congrFun er21 2).trans a2
  have s23 : r20 3 = .int .i64 b := (congrFun er21 3).trans a3
  have s24 : r20 4 = .pointer (some ⟨b4, 0, none⟩) := (congrFun er21 4).trans rfl
  have s25 : r20 5 = .pointer (some ⟨b12, 0, none⟩) := (congrFun er21 5).trans rfl
  clear er21
  refine W.seq ?_
  refine W.seq ?_
  refine W.reg ?_
  refine W.call rfl rfl (X.callF go9 (by simp)) (sane_c _) ?_
  rintro _ w26 ⟨rfl, g27⟩
  have R28 := R18.gr g27
  refine W.val rfl rfl (X.not (ev' (.bool true) rfl rfl)) ?_
  refine W.nil ?_
  refine then_n ?_
  refine W.fresh ?_
  intro r29 er30
  have s31 : r29 2 = .int .i64 id := (congrFun er30 2).trans s22
  have s32 : r29 3 = .int .i64 b := (congrFun er30 3).trans s23
  have s33 : r29 4 = .pointer (some ⟨b4, 0, none⟩) := (congrFun er30 4).trans s24
  have s34 : r29 5 = .pointer (some ⟨b12, 0, none⟩) := (congrFun er30 5).trans s25
  have s35 : r29 27 = .bool false := (congrFun er30 27).trans rfl
  clear er30
  refine W.condF rfl s35 ?_
  refine W.skip ?_
  refine then_n ?_
  refine W.seq ?_
  refine W.seq ?_
  refine W.reg ?_
  have h37 := hB6.gr g13
  have h38 := h37.gr g27
  refine W.val rfl rfl (X.loadR (ev' (.pointer (some ⟨b4, 0, none⟩)) rfl s33) rt24 (row_blk_trade h38) rfl) ?_
  have h39 := (ht.ext lt7).gr g5
  have h40 := (h39.ext lt15).gr g13
  have h41 := h40.gr g27
  refine W.call rfl rfl (X.callF go10 (args1 (ev' (T.val) rfl rfl))) (few_c _ h41) ?_
  rintro _ w42 ⟨rfl, g43⟩
  have R44 := R28.gr g43
  refine W.val rfl rfl (X.not (ev' (.bool (few t)) rfl rfl)) ?_
  refine W.val rfl rfl (X.move (ev' (.bool (!(few t))) rfl rfl)) ?_
  have h45 := hB14.gr g27
  have h46 := h45.gr g43
  refine W.gq rfl rfl rfl rfl rfl (fun _ => (X.loadR (ev' (.pointer (some ⟨b12, 0, none⟩)) rfl s34) rt30 (row_blk_msg h46) rfl)) ?_
  refine W.gcallS rfl rfl rfl rfl rfl (fun hc => X.callF go11 (args1 (ev' (.agg m.arr) rfl (gvt hc rfl)))) (fun _ => (fewM_c m _)) ?_
  intro w47 g48
  have R49 := R44.gr g48
  refine W.gq rfl rfl rfl rfl rfl (fun hc => (X.not (ev' (.bool (fewM m)) rfl (gvt hc rfl)))) ?_
  refine W.val rfl rfl (X.or (ev' (.bool (!(few t))) rfl rfl) (ev' (gv ((!(few t)) == false) (.bool (!(fewM m)))) rfl rfl)) ?_
  refine W.val rfl rfl (X.move (ev' (.bool ((!(few t)) || (!(fewM m)))) rfl rfl)) ?_
  refine W.gq rfl rfl rfl rfl rfl (fun _ => (X.move (ev' (.int .i64 b) rfl s32))) ?_
  refine W.gq rfl rfl rfl rfl rfl (fun hc => (X.eql (ev' (.int .i64 b) rfl (gvt hc rfl)) (evc' (.int .i64 0)))) ?_
  refine W.val rfl rfl (X.or (ev' (.bool ((!(few t)) || (!(fewM m)))) rfl rfl) (ev' (gv (((!(few t)) || (!(fewM m))) == false) (.bool ((b : Int) == (0 : Int)))) rfl rfl)) ?_
  refine W.nil ?_
  refine then_n ?_
  refine W.fresh ?_
  intro r50 er51
  have s52 : r50 2 = .int .i64 id := (congrFun er51 2).trans s31
  have s53 : r50 3 = .int .i64 b := (congrFun er51 3).trans s32
  have s54 : r50 4 = .pointer (some ⟨b4, 0, none⟩) := (congrFun er51 4).trans s33
  have s55 : r50 5 = .pointer (some ⟨b12, 0, none⟩) := (congrFun er51 5).trans s34
  have s56 : r50 39 = .bool (((!(few t)) || (!(fewM m))) || ((b : Int) == (0 : Int))) := (congrFun er51 39).trans rfl
  clear er51
  refine W.cond rfl s56 (fun k57 => ?_) (fun k57 => ?_)
  · skip
    refine W.seq ?_
    refine W.reg ?_
    refine W.val rfl rfl (X.assign (evc' (.bool true))) ?_
    refine W.nil ?_
    refine then_n ?_
    refine W.fresh ?_
    intro r58 er59
    have s60 : r58 8 = .bool true := (congrFun er59 8).trans rfl
    clear er59
    refine W.ret (then_r (retT rfl rfl (show _ = (.bool true : Value) from s60) ⟨?_, R49⟩))
    rfl
  · skip
    obtain ⟨_, h0⟩ := by_ne k57
    refine W.skip ?_
    refine then_n ?_
    refine W.seq ?_
    refine W.reg ?_
    have h61 := h38.gr g43
    have h62 := h61.gr g48
    refine W.val rfl rfl (X.loadR (ev' (.pointer (some ⟨b4, 0, none⟩)) rfl s54) rt24 (row_blk_trade h62) rfl) ?_
    have h63 := h46.gr g48
    refine W.val rfl rfl (X.loadR (ev' (.pointer (some ⟨b12, 0, none⟩)) rfl s55) rt30 (row_blk_msg h63) rfl) ?_
    refine W.val rfl rfl (X.move (ev' (.int .i64 id) rfl s52)) ?_
    have h64 := h41.gr g43
    have h65 := h64.gr g48
    have h66 := hl.new g5 hB6.lt
    have h67 := h66.new g13 hB14.lt
    have h68 := h67.gr g27
    have h69 := h68.gr g43
    have h70 := h69.gr g48
    refine W.call rfl rfl (X.callF go22 (args3 (ev' (T.val) rfl rfl) (ev' (.agg m.arr) rfl rfl) (ev' (.int .i64 id) rfl rfl))) (ttake_c m id _ h65 h70) ?_
    rintro _ w71 ⟨T72, s73, rfl, hT74, hS75, g76⟩
    have R77 := R49.gr g76
    refine W.val rfl rfl (X.move (ev' (.tuple #[T72.val, s73.val, .bool ((takeR t m id).2.2.1), .int .i64 ((takeR t m id).2.2.2)]) rfl rfl)) ?_
    refine W.val rfl rfl (X.extract (ev' (.tuple #[T72.val, s73.val, .bool ((takeR t m id).2.2.1), .int .i64 ((takeR t m id).2.2.2)]) rfl rfl) rfl) ?_
    refine W.val rfl rfl (X.extract (ev' (.tuple #[T72.val, s73.val, .bool ((takeR t m id).2.2.1), .int .i64 ((takeR t m id).2.2.2)]) rfl rfl) rfl) ?_
    refine W.val rfl rfl (X.extract (ev' (.tuple #[T72.val, s73.val, .bool ((takeR t m id).2.2.1), .int .i64 ((takeR t m id).2.2.2)]) rfl rfl) rfl) ?_
    refine W.val rfl rfl (X.extract (ev' (.tuple #[T72.val, s73.val, .bool ((takeR t m id).2.2.1), .int .i64 ((takeR t m id).2.2.2)]) rfl rfl) rfl) ?_
    refine W.eff rfl rfl (Y.alloc (cs := TV.zero.arr) zero24 rfl) ?_
    rintro _ w80 ⟨b81, rfl, g82, hB83, lt84⟩
    have h85 := h62.gr g76
    have ne86 := h85.ne lt84
    have h87 := h63.gr g76
    have ne88 := h87.ne lt84
    have l89 := Nat.le_trans R77.size lt84
    have R90 := R77.gr g82
    refine W.eff0 rfl rfl (Y.storeW (ds := T72.arr) (ev' (.pointer (some ⟨b81, 0, none⟩)) rfl rfl) (ev' (T72.val) rfl rfl) hB83 (n := 4) rfl sz24 rfl (TV.oneCell _) rfl) ?_
    rintro w92 ⟨c93, hB94⟩
    have R95 := R90.stN c93 l89
    refine W.val rfl rfl (X.assign (ev' (s73.val) rfl rfl)) ?_
    refine W.val rfl rfl (X.assign (ev' (.bool ((takeR t m id).2.2.1)) rfl rfl)) ?_
    refine W.val rfl rfl (X.assign (ev' (.int .i64 ((takeR t m id).2.2.2)) rfl rfl)) ?_
    refine W.nil ?_
    refine then_n ?_
    refine W.fresh ?_
    intro r97 er98
    have s99 : r97 2 = .int .i64 id := (congrFun er98 2).trans s52
    have s100 : r97 3 = .int .i64 b := (congrFun er98 3).trans s53
    have s101 : r97 4 = .pointer (some ⟨b4, 0, none⟩) := (congrFun er98 4).trans s54
    have s102 : r97 5 = .pointer (some ⟨b12, 0, none⟩) := (congrFun er98 5).trans s55
    have s103 : r97 9 = .pointer (some ⟨b81, 0, none⟩) := (congrFun er98 9).trans rfl
    have s104 : r97 12 = .int .i64 ((takeR t m id).2.2.2) := (congrFun er98 12).trans rfl
    clear er98
    refine W.seq ?_
    refine W.seq ?_
    refine W.reg ?_
    refine W.val rfl rfl (X.move (ev' (.int .i64 ((takeR t m id).2.2.2)) rfl s104)) ?_
    refine W.val rfl rfl (X.neq (ev' (.int .i64 ((takeR t m id).2.2.2)) rfl rfl) (evc' (.int .i64 0))) ?_
    refine W.nil ?_
    refine then_n ?_
    refine W.fresh ?_
    intro r105 er106
    have s107 : r105 2 = .int .i64 id := (congrFun er106 2).trans s99
    have s108 : r105 3 = .int .i64 b := (congrFun er106 3).trans s100
    have s109 : r105 4 = .pointer (some ⟨b4, 0, none⟩) := (congrFun er106 4).trans s101
    have s110 : r105 5 = .pointer (some ⟨b12, 0, none⟩) := (congrFun er106 5).trans s102
    have s111 : r105 9 = .pointer (some ⟨b81, 0, none⟩) := (congrFun er106 9).trans s103
    have s112 : r105 50 = .bool (((takeR t m id).2.2.2 : Int) != (0 : Int)) := (congrFun er106 50).trans rfl
    clear er106
    refine W.cond rfl s112 (fun k113 => ?_) (fun k113 => ?_)
    · skip
      refine W.seq ?_
      refine W.reg ?_
      refine W.val rfl rfl (X.assign (evc' (.bool true))) ?_
      refine W.nil ?_
      refine then_n ?_
      refine W.fresh ?_
      intro r114 er115
      have s116 : r114 8 = .bool true := (congrFun er115 8).trans rfl
      clear er115
      refine W.ret (then_r (retT rfl rfl (show _ = (.bool true : Value) from s116) ⟨?_, R95⟩))
      rfl
    · skip
      have ht0 : (takeR t m id).2.2.2 = 0 := by simpa using k113
      refine W.skip ?_
      refine then_n ?_
      refine W.seq ?_
      refine W.reg ?_
      have h117 := h85.gr g82
      have h118 := h117.st c93 ne86
      refine W.val rfl rfl (X.loadR (ev' (.pointer (some ⟨b4, 0, none⟩)) rfl s109) rt24 (row_blk_trade h118) rfl) ?_
      have h119 := h87.gr g82
      have h120 := h119.st c93 ne88
      refine W.val rfl rfl (X.loadR (ev' (.pointer (some ⟨b12, 0, none⟩)) rfl s110) rt30 (row_blk_msg h120) rfl) ?_
      refine W.val rfl rfl (X.move (ev' (.int .i64 id) rfl s107)) ?_
      refine W.val rfl rfl (X.move (ev' (.int .i64 b) rfl s108)) ?_
      refine W.val rfl rfl (X.add (ev' (.int .i64 id) rfl rfl) (ev' (.int .i64 b) rfl rfl)) ?_
      have h121 := h65.gr g76
      have h122 := (h121.ext lt84).gr g82
      have h123 := h122.st c93 (.head _)
      have h124 := h70.gr g76
      have h125 := h124.new g82 hB83.lt
      have h126 := h125.gr c93
      refine W.call rfl rfl (X.callF go22 (args3 (ev' (T.val) rfl rfl) (ev' (.agg m.arr) rfl rfl) (ev' (.int .i64 (IntKind.i64.wrap (id + b))) rfl rfl))) (ttake_c m (IntKind.i64.wrap (id + b)) _ h123 h126) ?_
      rintro _ w127 ⟨T128, s129, rfl, hT130, hS131, g132⟩
      have R133 := R95.gr g132
      refine W.val rfl rfl (X.move (ev' (.tuple #[T128.val, s129.val, .bool ((takeR t m (IntKind.i64.wrap (id + b))).2.2.1), .int .i64 ((takeR t m (IntKind.i64.wrap (id + b))).2.2.2)]) rfl rfl)) ?_
      refine W.val rfl rfl (X.extract (ev' (.tuple #[T128.val, s129.val, .bool ((takeR t m (IntKind.i64.wrap (id + b))).2.2.1), .int .i64 ((takeR t m (IntKind.i64.wrap (id + b))).2.2.2)]) rfl rfl) rfl) ?_
      refine W.val rfl rfl (X.extract (ev' (.tuple #[T128.val, s129.val, .bool ((takeR t m (IntKind.i64.wrap (id + b))).2.2.1), .int .i64 ((takeR t m (IntKind.i64.wrap (id + b))).2.2.2)]) rfl rfl) rfl) ?_
      refine W.val rfl rfl (X.extract (ev' (.tuple #[T128.val, s129.val, .bool ((takeR t m (IntKind.i64.wrap (id + b))).2.2.1), .int .i64 ((takeR t m (IntKind.i64.wrap (id + b))).2.2.2)]) rfl rfl) rfl) ?_
      refine W.val rfl rfl (X.extract (ev' (.tuple #[T128.val, s129.val, .bool ((takeR t m (IntKind.i64.wrap (id + b))).2.2.1), .int .i64 ((takeR t m (IntKind.i64.wrap (id + b))).2.2.2)]) rfl rfl) rfl) ?_
      refine W.eff rfl rfl (Y.alloc (cs := TV.zero.arr) zero24 rfl) ?_
      rintro _ w136 ⟨b137, rfl, g138, hB139, lt140⟩
      have h141 := h118.gr g132
      have ne142 := h141.ne lt140
      have h143 := h120.gr g132
      have ne144 := h143.ne lt140
      have h145 := hB94.gr g132
      have ne146 := h145.ne lt140
      have l147 := Nat.le_trans R133.size lt140
      have R148 := R133.gr g138
      refine W.eff0 rfl rfl (Y.storeW (ds := T128.arr) (ev' (.pointer (some ⟨b137, 0, none⟩)) rfl rfl) (ev' (T128.val) rfl rfl) hB139 (n := 4) rfl sz24 rfl (TV.oneCell _) rfl) ?_
      rintro w150 ⟨c151, hB152⟩
      have R153 := R148.stN c151 l147
      refine W.val rfl rfl (X.assign (ev' (s129.val) rfl rfl)) ?_
      refine W.val rfl rfl (X.assign (ev' (.bool ((takeR t m (IntKind.i64.wrap (id + b))).2.2.1)) rfl rfl)) ?_
      refine W.val rfl rfl (X.assign (ev' (.int .i64 ((takeR t m (IntKind.i64.wrap (id + b))).2.2.2)) rfl rfl)) ?_
      refine W.nil ?_
      refine then_n ?_
      refine W.fresh ?_
      intro r155 er156
      have s157 : r155 2 = .int .i64 id := (congrFun er156 2).trans s107
      have s158 : r155 3 = .int .i64 b := (congrFun er156 3).trans s108
      have s159 : r155 5 = .pointer (some ⟨b12, 0, none⟩) := (congrFun er156 5).trans s110
      have s160 : r155 9 = .pointer (some ⟨b81, 0, none⟩) := (congrFun er156 9).trans s111
      have s161 : r155 16 = .int .i64 ((takeR t m (IntKind.i64.wrap (id + b))).2.2.2) := (congrFun er156 16).trans rfl
      clear er156
      refine W.seq ?_
      refine W.cut (fun a W => ∃ (ρ : Ro) (cb162 : Nat) (cb163 : Nat) (cb164 : Nat), a = mk 103 ρ ∧ Chg [] w150 W ∧ ρ 2 = .int .i64 id ∧ ρ 3 = .int .i64 b ∧ ρ 9 = .pointer (some ⟨b81, 0, none⟩) ∧ ρ 16 = .int .i64 ((takeR t m (IntKind.i64.wrap (id + b))).2.2.2) ∧ ρ 17 = .pointer (some ⟨cb162, 0, none⟩) ∧ ρ 18 = .pointer (some ⟨cb163, 0, none⟩) ∧ ρ 19 = .pointer (some ⟨cb164, 0, none⟩) ∧ Blk W cb162 30 (m.arr) ∧ Blk W cb163 30 (m.arr) ∧ Blk W cb164 30 (m.arr) ∧ w150.heap.size ≤ cb162 ∧ w150.heap.size ≤ cb163 ∧ cb162 ≠ cb163 ∧ w150.heap.size ≤ cb164 ∧ cb162 ≠ cb164 ∧ cb163 ≠ cb164) ?_ ?_
      · skip
        have R165 : Chg [] w150 w150 := Chg.of_refl _ _
        refine A.begin' (cs := []) rfl ?_
        intro w166 g167
        have R168 := R153.gr g167
        have R169 := R165.gr g167
        have R170 : Chg [] w166 w166 := Chg.of_refl _ _
        have h171 := h143.gr g138
        have h172 := h171.st c151 ne144
        have h173 := h172.gr g167
        refine A.take (i := 0) rfl (by kernel_rfl) (by kernel_rfl) (by kernel_rfl) (fun _ _ _ h => h) R170 rfl rfl (fun _ hw => (X.loadR (ev' (.pointer (some ⟨b12, 0, none⟩)) rfl s159) rt30 (row_blk_msg (h173.gr hw)) rfl)) ?_
        refine A.take (i := 1) rfl (by kernel_rfl) (by kernel_rfl) (by kernel_rfl) (fun _ _ _ h => h) R170 rfl rfl (fun _ hw => (X.loadR (ev' (.pointer (some ⟨b12, 0, none⟩)) rfl s159) rt30 (row_blk_msg (h173.gr hw)) rfl)) ?_
        refine A.take (i := 2) rfl (by kernel_rfl) (by kernel_rfl) (by kernel_rfl) (fun _ _ _ h => h) R170 rfl rfl (fun _ hw => (X.loadR (ev' (.pointer (some ⟨b12, 0, none⟩)) rfl s159) rt30 (row_blk_msg (h173.gr hw)) rfl)) ?_
        refine A.three (i := 3) (j := 4) (l := 5) (by kernel_rfl) ?_ ?_ ?_
        · skip
          refine E.eff (i := 3) rfl rfl rfl (Y.alloc (cs := Msg.zero.arr) zero30 rfl) ?_
          rintro _ w174 ⟨b175, rfl, g176, hB177, lt178⟩
          have h179 := h141.gr g138
          have h180 := h179.st c151 ne142
          have h181 := h180.gr g167
          have ne182 := h181.ne lt178
          have ne183 := h173.ne lt178
          have h184 := h145.gr g138
          have h185 := h184.st c151 ne146
          have h186 := h185.gr g167
          have ne187 := h186.ne lt178
          have h188 := hB152.gr g167
          have ne189 := h188.ne lt178
          have l190 := Nat.le_trans R168.size lt178
          have l191 := Nat.le_trans R169.size lt178
          have l192 := Nat.le_trans R170.size lt178
          have R193 := R168.gr g176
          have R194 := R169.gr g176
          have R195 := R170.gr g176
          refine ⟨R195, ?_⟩
          refine A.two (i := 4) (j := 5) (by kernel_rfl) ?_ ?_
          · skip
            refine E.eff (i := 4) rfl rfl rfl (Y.alloc (cs := Msg.zero.arr) zero30 rfl) ?_
            rintro _ w197 ⟨b198, rfl, g199, hB200, lt201⟩
            have h202 := h181.gr g176
            have ne203 := h202.ne lt201
            have h204 := h173.gr g176
            have ne205 := h204.ne lt201
            have h206 := h186.gr g176
            have ne207 := h206.ne lt201
            have h208 := h188.gr g176
            have ne209 := h208.ne lt201
            have ne210 := hB177.ne lt201
            have l211 := Nat.le_trans R193.size lt201
            have l212 := Nat.le_trans R194.size lt201
            have l213 := Nat.le_trans R195.size lt201
            have R214 := R193.gr g199
            have R215 := R194.gr g199
            have R216 := R195.gr g199
            refine ⟨R216, ?_⟩
            refine A.one (i := 5) (by kernel_rfl) ?_
            refine E.eff (i := 5) rfl rfl rfl (Y.alloc (cs := Msg.zero.arr) zero30 rfl) ?_
            rintro _ w218 ⟨b219, rfl, g220, hB221, lt222⟩
            have h223 := h202.gr g199
            have ne224 := h223.ne lt222
            have h225 := h204.gr g199
            have ne226 := h225.ne lt222
            have h227 := h206.gr g199
            have ne228 := h227.ne lt222
            have h229 := h208.gr g199
            have ne230 := h229.ne lt222
            have h231 := hB177.gr g199
            have ne232 := h231.ne lt222
            have ne233 := hB200.ne lt222
            have l234 := Nat.le_trans R214.size lt222
            have l235 := Nat.le_trans R215.size lt222
            have l236 := Nat.le_trans R216.size lt222
            have R237 := R214.gr g220
            have R238 := R215.gr g220
            have R239 := R216.gr g220
            refine ⟨R239, ?_⟩
            refine A.one (i := 6) (by kernel_rfl) ?_
            have h241 := h231.gr g220
            refine E.eff0 (i := 6) rfl rfl rfl (Y.storeW (ds := m.arr) (ev' (.pointer (some ⟨b175, 0, none⟩)) rfl rfl) (ev' (.agg m.arr) rfl rfl) h241 (Msg.size_arr _) sz30 (Msg.size_arr _) (Msg.oneCellA _) rfl) ?_
            rintro w242 ⟨c243, hB244⟩
            have R245 := R237.stN c243 l190
            have R246 := R238.stN c243 l191
            have R247 := R239.stN c243 l192
            refine ⟨R247, ?_⟩
            refine A.one (i := 7) (by kernel_rfl) ?_
            have h249 := hB200.gr g220
            have h250 := h249.st c243 ne210.symm
            refine E.eff0 (i := 7) rfl rfl rfl (Y.storeW (ds := m.arr) (ev' (.pointer (some ⟨b198, 0, none⟩)) rfl rfl) (ev' (.agg m.arr) rfl rfl) h250 (Msg.size_arr _) sz30 (Msg.size_arr _) (Msg.oneCellA _) rfl) ?_
            rintro w251 ⟨c252, hB253⟩
            have R254 := R245.stN c252 l211
            have R255 := R246.stN c252 l212
            have R256 := R247.stN c252 l213
            refine ⟨R256, ?_⟩
            refine A.one (i := 8) (by kernel_rfl) ?_
            have h258 := hB221.st c243 ne232.symm
            have h259 := h258.st c252 ne233.symm
            refine E.eff0 (i := 8) rfl rfl rfl (Y.storeW (ds := m.arr) (ev' (.pointer (some ⟨b219, 0, none⟩)) rfl rfl) (ev' (.agg m.arr) rfl rfl) h259 (Msg.size_arr _) sz30 (Msg.size_arr _) (Msg.oneCellA _) rfl) ?_
            rintro w260 ⟨c261, hB262⟩
            have R263 := R254.stN c261 l234
            have R264 := R255.stN c261 l235
            have R265 := R256.stN c261 l236
            refine ⟨R265, ?_⟩
            refine A.done (by kernel_rfl) ?_
            have h267 := hB244.st c252 ne210
            have h268 := h267.st c261 ne232
            have h269 := hB253.st c261 ne233
            exact then_n ⟨_, b175, b198, b219, rfl, R264, s157, s158, s160, s161, rfl, rfl, rfl, h268, h269, hB262, l191, l212, ne210, l235, ne232, ne233⟩
          · skip
            refine E.eff (i := 5) rfl rfl rfl (Y.alloc (cs := Msg.zero.arr) zero30 rfl) ?_
            rintro _ w270 ⟨b271, rfl, g272, hB273, lt274⟩
            have h275 := h181.gr g176
            have ne276 := h275.ne lt274
            have h277 := h173.gr g176
            have ne278 := h277.ne lt274
            have h279 := h186.gr g176
            have ne280 := h279.ne lt274
            have h281 := h188.gr g176
            have ne282 := h281.ne lt274
            have ne283 := hB177.ne lt274
            have l284 := Nat.le_trans R193.size lt274
            have l285 := Nat.le_trans R194.size lt274
            have l286 := Nat.le_trans R195.size lt274
            have R287 := R193.gr g272
            have R288 := R194.gr g272
            have R289 := R195.gr g272
            refine ⟨R289, ?_⟩
            refine A.one (i := 4) (by kernel_rfl) ?_
            refine E.eff (i := 4) rfl rfl rfl (Y.alloc (cs := Msg.zero.arr) zero30 rfl) ?_
            rintro _ w291 ⟨b292, rfl, g293, hB294, lt295⟩
            have h296 := h275.gr g272
            have ne297 := h296.ne lt295
            have h298 := h277.gr g272
            have ne299 := h298.ne lt295
            have h300 := h279.gr g272
            have ne301 := h300.ne lt295
            have h302 := h281.gr g272
            have ne303 := h302.ne lt295
            have h304 := hB177.gr g272
            have ne305 := h304.ne lt295
            have ne306 := hB273.ne lt295
            have l307 := Nat.le_trans R287.size lt295
            have l308 := Nat.le_trans R288.size lt295
            have l309 := Nat.le_trans R289.size lt295
            have R310 := R287.gr g293
            have R311 := R288.gr g293
            have R312 := R289.gr g293
            refine ⟨R312, ?_⟩
            refine A.one (i := 6) (by kernel_rfl) ?_
            have h314 := h304.gr g293
            refine E.eff0 (i := 6) rfl rfl rfl (Y.storeW (ds := m.arr) (ev' (.pointer (some ⟨b175, 0, none⟩)) rfl rfl) (ev' (.agg m.arr) rfl rfl) h314 (Msg.size_arr _) sz30 (Msg.size_arr _) (Msg.oneCellA _) rfl) ?_
            rintro w315 ⟨c316, hB317⟩
            have R318 := R310.stN c316 l190
            have R319 := R311.stN c316 l191
            have R320 := R312.stN c316 l192
            refine ⟨R320, ?_⟩
            refine A.one (i := 7) (by kernel_rfl) ?_
            have h322 := hB294.st c316 ne305.symm
            refine E.eff0 (i := 7) rfl rfl rfl (Y.storeW (ds := m.arr) (ev' (.pointer (some ⟨b292, 0, none⟩)) rfl rfl) (ev' (.agg m.arr) rfl rfl) h322 (Msg.size_arr _) sz30 (Msg.size_arr _) (Msg.oneCellA _) rfl) ?_
            rintro w323 ⟨c324, hB325⟩
            have R326 := R318.stN c324 l307
            have R327 := R319.stN c324 l308
            have R328 := R320.stN c324 l309
            refine ⟨R328, ?_⟩
            refine A.one (i := 8) (by kernel_rfl) ?_
            have h330 := hB273.gr g293
            have h331 := h330.st c316 ne283.symm
            have h332 := h331.st c324 ne306
            refine E.eff0 (i := 8) rfl rfl rfl (Y.storeW (ds := m.arr) (ev' (.pointer (some ⟨b271, 0, none⟩)) rfl rfl) (ev' (.agg m.arr) rfl rfl) h332 (Msg.size_arr _) sz30 (Msg.size_arr _) (Msg.oneCellA _) rfl) ?_
            rintro w333 ⟨c334, hB335⟩
            have R336 := R326.stN c334 l284
            have R337 := R327.stN c334 l285
            have R338 := R328.stN c334 l286
            refine ⟨R338, ?_⟩
            refine A.done (by kernel_rfl) ?_
            have h340 := hB317.st c324 ne305
            have h341 := h340.st c334 ne283
            have h342 := hB325.st c334 ne306.symm
            exact then_n ⟨_, b175, b292, b271, rfl, R337, s157, s158, s160, s161, rfl, rfl, rfl, h341, h342, hB335, l191, l308, ne305, l285, ne283, ne306.symm⟩
        · skip
          refine E.eff (i := 4) rfl rfl rfl (Y.alloc (cs := Msg.zero.arr) zero30 rfl) ?_
          rintro _ w343 ⟨b344, rfl, g345, hB346, lt347⟩
          have h348 := h141.gr g138
          have h349 := h348.st c151 ne142
          have h350 := h349.gr g167
          have ne351 := h350.ne lt347
          have ne352 := h173.ne lt347
          have h353 := h145.gr g138
          have h354 := h353.st c151 ne146
          have h355 := h354.gr g167
          have ne356 := h355.ne lt347
          have h357 := hB152.gr g167
          have ne358 := h357.ne lt347
          have l359 := Nat.le_trans R168.size lt347
          have l360 := Nat.le_trans R169.size lt347
          have l361 := Nat.le_trans R170.size lt347
          have R362 := R168.gr g345
          have R363 := R169.gr g345
          have R364 := R170.gr g345
          refine ⟨R364, ?_⟩
          refine A.two (i := 3) (j := 5) (by kernel_rfl) ?_ ?_
          · skip
            refine E.eff (i := 3) rfl rfl rfl (Y.alloc (cs := Msg.zero.arr) zero30 rfl) ?_
            rintro _ w366 ⟨b367, rfl, g368, hB369, lt370⟩
            have h371 := h350.gr g345
            have ne372 := h371.ne lt370
            have h373 := h173.gr g345
            have ne374 := h373.ne lt370
            have h375 := h355.gr g345
            have ne376 := h375.ne lt370
            have h377 := h357.gr g345
            have ne378 := h377.ne lt370
            have ne379 := hB346.ne lt370
            have l380 := Nat.le_trans R362.size lt370
            have l381 := Nat.le_trans R363.size lt370
            have l382 := Nat.le_trans R364.size lt370
            have R383 := R362.gr g368
            have R384 := R363.gr g368
            have R385 := R364.gr g368
            refine ⟨R385, ?_⟩
            refine A.one (i := 5) (by kernel_rfl) ?_
            refine E.eff (i := 5) rfl rfl rfl (Y.alloc (cs := Msg.zero.arr) zero30 rfl) ?_
            rintro _ w387 ⟨b388, rfl, g389, hB390, lt391⟩
            have h392 := h371.gr g368
            have ne393 := h392.ne lt391
            have h394 := h373.gr g368
            have ne395 := h394.ne lt391
            have h396 := h375.gr g368
            have ne397 := h396.ne lt391
            have h398 := h377.gr g368
            have ne399 := h398.ne lt391
            have h400 := hB346.gr g368
            have ne401 := h400.ne lt391
            have ne402 := hB369.ne lt391
            have l403 := Nat.le_trans R383.size lt391
            have l404 := Nat.le_trans R384.size lt391
            have l405 := Nat.le_trans R385.size lt391
            have R406 := R383.gr g389
            have R407 := R384.gr g389
            have R408 := R385.gr g389
            refine ⟨R408, ?_⟩
            refine A.one (i := 6) (by kernel_rfl) ?_
            have h410 := hB369.gr g389
            refine E.eff0 (i := 6) rfl rfl rfl (Y.storeW (ds := m.arr) (ev' (.pointer (some ⟨b367, 0, none⟩)) rfl rfl) (ev' (.agg m.arr) rfl rfl) h410 (Msg.size_arr _) sz30 (Msg.size_arr _) (Msg.oneCellA _) rfl) ?_
            rintro w411 ⟨c412, hB413⟩
            have R414 := R406.stN c412 l380
            have R415 := R407.stN c412 l381
            have R416 := R408.stN c412 l382
            refine ⟨R416, ?_⟩
            refine A.one (i := 7) (by kernel_rfl) ?_
            have h418 := h400.gr g389
            have h419 := h418.st c412 ne379
            refine E.eff0 (i := 7) rfl rfl rfl (Y.storeW (ds := m.arr) (ev' (.pointer (some ⟨b344, 0, none⟩)) rfl rfl) (ev' (.agg m.arr) rfl rfl) h419 (Msg.size_arr _) sz30 (Msg.size_arr _) (Msg.oneCellA _) rfl) ?_
            rintro w420 ⟨c421, hB422⟩
            have R423 := R414.stN c421 l359
            have R424 := R415.stN c421 l360
            have R425 := R416.stN c421 l361
            refine ⟨R425, ?_⟩
            refine A.one (i := 8) (by kernel_rfl) ?_
            have h427 := hB390.st c412 ne402.symm
            have h428 := h427.st c421 ne401.symm
            refine E.eff0 (i := 8) rfl rfl rfl (Y.storeW (ds := m.arr) (ev' (.pointer (some ⟨b388, 0, none⟩)) rfl rfl) (ev' (.agg m.arr) rfl rfl) h428 (Msg.size_arr _) sz30 (Msg.size_arr _) (Msg.oneCellA _) rfl) ?_
            rintro w429 ⟨c430, hB431⟩
            have R432 := R423.stN c430 l403
            have R433 := R424.stN c430 l404
            have R434 := R425.stN c430 l405
            refine ⟨R434, ?_⟩
            refine A.done (by kernel_rfl) ?_
            have h436 := hB413.st c421 ne379.symm
            have h437 := h436.st c430 ne402
            have h438 := hB422.st c430 ne401
            exact then_n ⟨_, b367, b344, b388, rfl, R433, s157, s158, s160, s161, rfl, rfl, rfl, h437, h438, hB431, l381, l360, ne379.symm, l404, ne402, ne401⟩
          · skip
            refine E.eff (i := 5) rfl rfl rfl (Y.alloc (cs := Msg.zero.arr) zero30 rfl) ?_
            rintro _ w439 ⟨b440, rfl, g441, hB442, lt443⟩
            have h444 := h350.gr g345
            have ne445 := h444.ne lt443
            have h446 := h173.gr g345
            have ne447 := h446.ne lt443
            have h448 := h355.gr g345
            have ne449 := h448.ne lt443
            have h450 := h357.gr g345
            have ne451 := h450.ne lt443
            have ne452 := hB346.ne lt443
            have l453 := Nat.le_trans R362.size lt443
            have l454 := Nat.le_trans R363.size lt443
            have l455 := Nat.le_trans R364.size lt443
            have R456 := R362.gr g441
            have R457 := R363.gr g441
            have R458 := R364.gr g441
            refine ⟨R458, ?_⟩
            refine A.one (i := 3) (by kernel_rfl) ?_
            refine E.eff (i := 3) rfl rfl rfl (Y.alloc (cs := Msg.zero.arr) zero30 rfl) ?_
            rintro _ w460 ⟨b461, rfl, g462, hB463, lt464⟩
            have h465 := h444.gr g441
            have ne466 := h465.ne lt464
            have h467 := h446.gr g441
            have ne468 := h467.ne lt464
            have h469 := h448.gr g441
            have ne470 := h469.ne lt464
            have h471 := h450.gr g441
            have ne472 := h471.ne lt464
            have h473 := hB346.gr g441
            have ne474 := h473.ne lt464
            have ne475 := hB442.ne lt464
            have l476 := Nat.le_trans R456.size lt464
            have l477 := Nat.le_trans R457.size lt464
            have l478 := Nat.le_trans R458.size lt464
            have R479 := R456.gr g462
            have R480 := R457.gr g462
            have R481 := R458.gr g462
            refine ⟨R481, ?_⟩
            refine A.one (i := 6) (by kernel_rfl) ?_
            refine E.eff0 (i := 6) rfl rfl rfl (Y.storeW (ds := m.arr) (ev' (.pointer (some ⟨b461, 0, none⟩)) rfl rfl) (ev' (.agg m.arr) rfl rfl) hB463 (Msg.size_arr _) sz30 (Msg.size_arr _) (Msg.oneCellA _) rfl) ?_
            rintro w483 ⟨c484, hB485⟩
            have R486 := R479.stN c484 l476
            have R487 := R480.stN c484 l477
            have R488 := R481.stN c484 l478
            refine ⟨R488, ?_⟩
            refine A.one (i := 7) (by kernel_rfl) ?_
            have h490 := h473.gr g462
            have h491 := h490.st c484 ne474
            refine E.eff0 (i := 7) rfl rfl rfl (Y.storeW (ds := m.arr) (ev' (.pointer (some ⟨b344, 0, none⟩)) rfl rfl) (ev' (.agg m.arr) rfl rfl) h491 (Msg.size_arr _) sz30 (Msg.size_arr _) (Msg.oneCellA _) rfl) ?_
            rintro w492 ⟨c493, hB494⟩
            have R495 := R486.stN c493 l359
            have R496 := R487.stN c493 l360
            have R497 := R488.stN c493 l361
            refine ⟨R497, ?_⟩
            refine A.one (i := 8) (by kernel_rfl) ?_
            have h499 := hB442.gr g462
            have h500 := h499.st c484 ne475
            have h501 := h500.st c493 ne452.symm
            refine E.eff0 (i := 8) rfl rfl rfl (Y.storeW (ds := m.arr) (ev' (.pointer (some ⟨b440, 0, none⟩)) rfl rfl) (ev' (.agg m.arr) rfl rfl) h501 (Msg.size_arr _) sz30 (Msg.size_arr _) (Msg.oneCellA _) rfl) ?_
            rintro w502 ⟨c503, hB504⟩
            have R505 := R495.stN c503 l453
            have R506 := R496.stN c503 l454
            have R507 := R497.stN c503 l455
            refine ⟨R507, ?_⟩
            refine A.done (by kernel_rfl) ?_
            have h509 := hB485.st c493 ne474.symm
            have h510 := h509.st c503 ne475.symm
            have h511 := hB494.st c503 ne452
            exact then_n ⟨_, b461, b344, b440, rfl, R506, s157, s158, s160, s161, rfl, rfl, rfl, h510, h511, hB504, l477, l360, ne474.symm, l454, ne475.symm, ne452⟩
        · skip
          refine E.eff (i := 5) rfl rfl rfl (Y.alloc (cs := Msg.zero.arr) zero30 rfl) ?_
          rintro _ w512 ⟨b513, rfl, g514, hB515, lt516⟩
          have h517 := h141.gr g138
          have h518 := h517.st c151 ne142
          have h519 := h518.gr g167
          have ne520 := h519.ne lt516
          have ne521 := h173.ne lt516
          have h522 := h145.gr g138
          have h523 := h522.st c151 ne146
          have h524 := h523.gr g167
          have ne525 := h524.ne lt516
          have h526 := hB152.gr g167
          have ne527 := h526.ne lt516
          have l528 := Nat.le_trans R168.size lt516
          have l529 := Nat.le_trans R169.size lt516
          have l530 := Nat.le_trans R170.size lt516
          have R531 := R168.gr g514
          have R532 := R169.gr g514
          have R533 := R170.gr g514
          refine ⟨R533, ?_⟩
          refine A.two (i := 3) (j := 4) (by kernel_rfl) ?_ ?_
          · skip
            refine E.eff (i := 3) rfl rfl rfl (Y.alloc (cs := Msg.zero.arr) zero30 rfl) ?_
            rintro _ w535 ⟨b536, rfl, g537, hB538, lt539⟩
            have h540 := h519.gr g514
            have ne541 := h540.ne lt539
            have h542 := h173.gr g514
            have ne543 := h542.ne lt539
            have h544 := h524.gr g514
            have ne545 := h544.ne lt539
            have h546 := h526.gr g514
            have ne547 := h546.ne lt539
            have ne548 := hB515.ne lt539
            have l549 := Nat.le_trans R531.size lt539
            have l550 := Nat.le_trans R532.size lt539
            have l551 := Nat.le_trans R533.size lt539
            have R552 := R531.gr g537
            have R553 := R532.gr g537
            have R554 := R533.gr g537
            refine ⟨R554, ?_⟩
            refine A.one (i := 4) (by kernel_rfl) ?_
            refine E.eff (i := 4) rfl rfl rfl (Y.alloc (cs := Msg.zero.arr) zero30 rfl) ?_
            rintro _ w556 ⟨b557, rfl, g558, hB559, lt560⟩
            have h561 := h540.gr g537
            have ne562 := h561.ne lt560
            have h563 := h542.gr g537
            have ne564 := h563.ne lt560
            have h565 := h544.gr g537
            have ne566 := h565.ne lt560
            have h567 := h546.gr g537
            have ne568 := h567.ne lt560
            have h569 := hB515.gr g537
            have ne570 := h569.ne lt560
            have ne571 := hB538.ne lt560
            have l572 := Nat.le_trans R552.size lt560
            have l573 := Nat.le_trans R553.size lt560
            have l574 := Nat.le_trans R554.size lt560
            have R575 := R552.gr g558
            have R576 := R553.gr g558
            have R577 := R554.gr g558
            refine ⟨R577, ?_⟩
            refine A.one (i := 6) (by kernel_rfl) ?_
            have h579 := hB538.gr g558
            refine E.eff0 (i := 6) rfl rfl rfl (Y.storeW (ds := m.arr) (ev' (.pointer (some ⟨b536, 0, none⟩)) rfl rfl) (ev' (.agg m.arr) rfl rfl) h579 (Msg.size_arr _) sz30 (Msg.size_arr _) (Msg.oneCellA _) rfl) ?_
            rintro w580 ⟨c581, hB582⟩
            have R583 := R575.stN c581 l549
            have R584 := R576.stN c581 l550
            have R585 := R577.stN c581 l551
            refine ⟨R585, ?_⟩
            refine A.one (i := 7) (by kernel_rfl) ?_
            have h587 := hB559.st c581 ne571.symm
            refine E.eff0 (i := 7) rfl rfl rfl (Y.storeW (ds := m.arr) (ev' (.pointer (some ⟨b557, 0, none⟩)) rfl rfl) (ev' (.agg m.arr) rfl rfl) h587 (Msg.size_arr _) sz30 (Msg.size_arr _) (Msg.oneCellA _) rfl) ?_
            rintro w588 ⟨c589, hB590⟩
            have R591 := R583.stN c589 l572
            have R592 := R584.stN c589 l573
            have R593 := R585.stN c589 l574
            refine ⟨R593, ?_⟩
            refine A.one (i := 8) (by kernel_rfl) ?_
            have h595 := h569.gr g558
            have h596 := h595.st c581 ne548
            have h597 := h596.st c589 ne570
            refine E.eff0 (i := 8) rfl rfl rfl (Y.storeW (ds := m.arr) (ev' (.pointer (some ⟨b513, 0, none⟩)) rfl rfl) (ev' (.agg m.arr) rfl rfl) h597 (Msg.size_arr _) sz30 (Msg.size_arr _) (Msg.oneCellA _) rfl) ?_
            rintro w598 ⟨c599, hB600⟩
            have R601 := R591.stN c599 l528
            have R602 := R592.stN c599 l529
            have R603 := R593.stN c599 l530
            refine ⟨R603, ?_⟩
            refine A.done (by kernel_rfl) ?_
            have h605 := hB582.st c589 ne571
            have h606 := h605.st c599 ne548.symm
            have h607 := hB590.st c599 ne570.symm
            exact then_n ⟨_, b536, b557, b513, rfl, R602, s157, s158, s160, s161, rfl, rfl, rfl, h606, h607, hB600, l550, l573, ne571, l529, ne548.symm, ne570.symm⟩
          · skip
            refine E.eff (i := 4) rfl rfl rfl (Y.alloc (cs := Msg.zero.arr) zero30 rfl) ?_
            rintro _ w608 ⟨b609, rfl, g610, hB611, lt612⟩
            have h613 := h519.gr g514
            have ne614 := h613.ne lt612
            have h615 := h173.gr g514
            have ne616 := h615.ne lt612
            have h617 := h524.gr g514
            have ne618 := h617.ne lt612
            have h619 := h526.gr g514
            have ne620 := h619.ne lt612
            have ne621 := hB515.ne lt612
            have l622 := Nat.le_trans R531.size lt612
            have l623 := Nat.le_trans R532.size lt612
            have l624 := Nat.le_trans R533.size lt612
            have R625 := R531.gr g610
            have R626 := R532.gr g610
            have R627 := R533.gr g610
            refine ⟨R627, ?_⟩
            refine A.one (i := 3) (by kernel_rfl) ?_
            refine E.eff (i := 3) rfl rfl rfl (Y.alloc (cs := Msg.zero.arr) zero30 rfl) ?_
            rintro _ w629 ⟨b630, rfl, g631, hB632, lt633⟩
            have h634 := h613.gr g610
            have ne635 := h634.ne lt633
            have h636 := h615.gr g610
            have ne637 := h636.ne lt633
            have h638 := h617.gr g610
            have ne639 := h638.ne lt633
            have h640 := h619.gr g610
            have ne641 := h640.ne lt633
            have h642 := hB515.gr g610
            have ne643 := h642.ne lt633
            have ne644 := hB611.ne lt633
            have l645 := Nat.le_trans R625.size lt633
            have l646 := Nat.le_trans R626.size lt633
            have l647 := Nat.le_trans R627.size lt633
            have R648 := R625.gr g631
            have R649 := R626.gr g631
            have R650 := R627.gr g631
            refine ⟨R650, ?_⟩
            refine A.one (i := 6) (by kernel_rfl) ?_
            refine E.eff0 (i := 6) rfl rfl rfl (Y.storeW (ds := m.arr) (ev' (.pointer (some ⟨b630, 0, none⟩)) rfl rfl) (ev' (.agg m.arr) rfl rfl) hB632 (Msg.size_arr _) sz30 (Msg.size_arr _) (Msg.oneCellA _) rfl) ?_
            rintro w652 ⟨c653, hB654⟩
            have R655 := R648.stN c653 l645
            have R656 := R649.stN c653 l646
            have R657 := R650.stN c653 l647
            refine ⟨R657, ?_⟩
            refine A.one (i := 7) (by kernel_rfl) ?_
            have h659 := hB611.gr g631
            have h660 := h659.st c653 ne644
            refine E.eff0 (i := 7) rfl rfl rfl (Y.storeW (ds := m.arr) (ev' (.pointer (some ⟨b609, 0, none⟩)) rfl rfl) (ev' (.agg m.arr) rfl rfl) h660 (Msg.size_arr _) sz30 (Msg.size_arr _) (Msg.oneCellA _) rfl) ?_
            rintro w661 ⟨c662, hB663⟩
            have R664 := R655.stN c662 l622
            have R665 := R656.stN c662 l623
            have R666 := R657.stN c662 l624
            refine ⟨R666, ?_⟩
            refine A.one (i := 8) (by kernel_rfl) ?_
            have h668 := h642.gr g631
            have h669 := h668.st c653 ne643
            have h670 := h669.st c662 ne621
            refine E.eff0 (i := 8) rfl rfl rfl (Y.storeW (ds := m.arr) (ev' (.pointer (some ⟨b513, 0, none⟩)) rfl rfl) (ev' (.agg m.arr) rfl rfl) h670 (Msg.size_arr _) sz30 (Msg.size_arr _) (Msg.oneCellA _) rfl) ?_
            rintro w671 ⟨c672, hB673⟩
            have R674 := R664.stN c672 l528
            have R675 := R665.stN c672 l529
            have R676 := R666.stN c672 l530
            refine ⟨R676, ?_⟩
            refine A.done (by kernel_rfl) ?_
            have h678 := hB654.st c662 ne644.symm
            have h679 := h678.st c672 ne643.symm
            have h680 := hB663.st c672 ne621.symm
            exact then_n ⟨_, b630, b609, b513, rfl, R675, s157, s158, s160, s161, rfl, rfl, rfl, h679, h680, hB673, l646, l623, ne644.symm, l529, ne643.symm, ne621.symm⟩
      · skip
        rintro _ w681 ⟨r683, cb162, cb163, cb164, rfl, R682, s684, s685, s686, s687, s688, s689, s690, hB691, hB692, hB693, lt694, lt695, ne696, lt697, ne698, ne699⟩
        have h700 := h141.gr g138
        have h701 := h700.st c151 ne142
        have ne702 := h701.ne lt694
        have h703 := h143.gr g138
        have h704 := h703.st c151 ne144
        have ne705 := h704.ne lt694
        have h706 := h145.gr g138
        have h707 := h706.st c151 ne146
        have ne708 := h707.ne lt694
        have ne709 := hB152.ne lt694
        have l710 := Nat.le_trans R153.size lt694
        have ne711 := h701.ne lt695
        have ne712 := h704.ne lt695
        have ne713 := h707.ne lt695
        have ne714 := hB152.ne lt695
        have l715 := Nat.le_trans R153.size lt695
        have ne716 := h701.ne lt697
        have ne717 := h704.ne lt697
        have ne718 := h707.ne lt697
        have ne719 := hB152.ne lt697
        have l720 := Nat.le_trans R153.size lt697
        have h721 := h126.gr g132
        have h722 := h721.new g138 hB139.lt
        have h723 := h722.gr c151
        have R724 := R153.gr R682
        have hl728 := LtAll.cons (LtAll.cons (LtAll.cons (h723.gr R682) hB691.lt) hB692.lt) hB693.lt
        refine then_n ?_
        refine W.seq ?_
        refine W.reg ?_
        refine W.val rfl rfl (X.fieldAddr (ev' (.pointer (some ⟨cb162, 0, none⟩)) rfl s688) fo30_5 (b := ⟨cb162, 5, none⟩) (Addr.add_lit _ _ _)) ?_
        refine W.val rfl rfl (X.load (ev' (.pointer (some ⟨cb162, 5, none⟩)) rfl rfl) pt3 (Blk.lc hB691 (Msg.arr5 _))) ?_
        refine W.val rfl rfl (X.move (ev' (.int .i64 b) rfl s685)) ?_
        refine W.val rfl rfl (X.add (ev' (.int .i64 m.amount) rfl rfl) (ev' (.int .i64 b) rfl rfl)) ?_
        refine W.val rfl rfl (X.fieldAddr (ev' (.pointer (some ⟨cb162, 0, none⟩)) rfl s688) fo30_5 (b := ⟨cb162, 5, none⟩) (Addr.add_lit _ _ _)) ?_
        refine W.eff0 rfl rfl (Y.storeC (ds := ({ m with amount := IntKind.i64.wrap (m.amount + b) } : Msg).arr) (ev' (.pointer (some ⟨cb162, 5, none⟩)) rfl rfl) (ev' (.int .i64 (IntKind.i64.wrap (m.amount + b))) rfl rfl) hB691 (by rw [Msg.size_arr]; decide) sz3 rfl rfl (Msg.set5 _ _)) ?_
        rintro w730 ⟨c731, hB732⟩
        have R733 := R724.stN c731 l710
        refine W.nil ?_
        refine then_n ?_
        refine W.fresh ?_
        intro r735 er736
        have s737 : r735 2 = .int .i64 id := (congrFun er736 2).trans s684
        have s738 : r735 3 = .int .i64 b := (congrFun er736 3).trans s685
        have s739 : r735 9 = .pointer (some ⟨b81, 0, none⟩) := (congrFun er736 9).trans s686
        have s740 : r735 16 = .int .i64 ((takeR t m (IntKind.i64.wrap (id + b))).2.2.2) := (congrFun er736 16).trans s687
        have s741 : r735 17 = .pointer (some ⟨cb162, 0, none⟩) := (congrFun er736 17).trans s688
        have s742 : r735 18 = .pointer (some ⟨cb163, 0, none⟩) := (congrFun er736 18).trans s689
        have s743 : r735 19 = .pointer (some ⟨cb164, 0, none⟩) := (congrFun er736 19).trans s690
        clear er736
        refine W.seq ?_
        refine W.reg ?_
        refine W.val rfl rfl (X.fieldAddr (ev' (.pointer (some ⟨cb163, 0, none⟩)) rfl s742) fo30_4 (b := ⟨cb163, 4, none⟩) (Addr.add_lit _ _ _)) ?_
        have h744 := hB692.st c731 ne696.symm
        refine W.val rfl rfl (X.load (ev' (.pointer (some ⟨cb163, 4, none⟩)) rfl rfl) pt3 (Blk.lc h744 (Msg.arr4 _))) ?_
        refine W.val rfl rfl (X.move (ev' (.int .i64 b) rfl s738)) ?_
        refine W.val rfl rfl (X.add (ev' (.int .i64 m.item) rfl rfl) (ev' (.int .i64 b) rfl rfl)) ?_
        refine W.val rfl rfl (X.fieldAddr (ev' (.pointer (some ⟨cb163, 0, none⟩)) rfl s742) fo30_4 (b := ⟨cb163, 4, none⟩) (Addr.add_lit _ _ _)) ?_
        refine W.eff0 rfl rfl (Y.storeC (ds := ({ m with item := IntKind.i64.wrap (m.item + b) } : Msg).arr) (ev' (.pointer (some ⟨cb163, 4, none⟩)) rfl rfl) (ev' (.int .i64 (IntKind.i64.wrap (m.item + b))) rfl rfl) h744 (by rw [Msg.size_arr]; decide) sz3 rfl rfl (Msg.set4 _ _)) ?_
        rintro w745 ⟨c746, hB747⟩
        have R748 := R733.stN c746 l715
        refine W.nil ?_
        refine then_n ?_
        refine W.fresh ?_
        intro r750 er751
        have s752 : r750 2 = .int .i64 id := (congrFun er751 2).trans s737
        have s753 : r750 3 = .int .i64 b := (congrFun er751 3).trans s738
        have s754 : r750 9 = .pointer (some ⟨b81, 0, none⟩) := (congrFun er751 9).trans s739
        have s755 : r750 16 = .int .i64 ((takeR t m (IntKind.i64.wrap (id + b))).2.2.2) := (congrFun er751 16).trans s740
        have s756 : r750 17 = .pointer (some ⟨cb162, 0, none⟩) := (congrFun er751 17).trans s741
        have s757 : r750 18 = .pointer (some ⟨cb163, 0, none⟩) := (congrFun er751 18).trans s742
        have s758 : r750 19 = .pointer (some ⟨cb164, 0, none⟩) := (congrFun er751 19).trans s743
        clear er751
        refine W.seq ?_
        refine W.reg ?_
        refine W.val rfl rfl (X.fieldAddr (ev' (.pointer (some ⟨cb164, 0, none⟩)) rfl s758) fo30_6 (b := ⟨cb164, 6, none⟩) (Addr.add_lit _ _ _)) ?_
        have h759 := hB693.st c731 ne698.symm
        have h760 := h759.st c746 ne699.symm
        refine W.val rfl rfl (X.load (ev' (.pointer (some ⟨cb164, 6, none⟩)) rfl rfl) pt3 (Blk.lc h760 (Msg.arr6 _))) ?_
        refine W.val rfl rfl (X.move (ev' (.int .i64 b) rfl s753)) ?_
        refine W.val rfl rfl (X.add (ev' (.int .i64 m.day) rfl rfl) (ev' (.int .i64 b) rfl rfl)) ?_
        refine W.val rfl rfl (X.fieldAddr (ev' (.pointer (some ⟨cb164, 0, none⟩)) rfl s758) fo30_6 (b := ⟨cb164, 6, none⟩) (Addr.add_lit _ _ _)) ?_
        refine W.eff0 rfl rfl (Y.storeC (ds := ({ m with day := IntKind.i64.wrap (m.day + b) } : Msg).arr) (ev' (.pointer (some ⟨cb164, 6, none⟩)) rfl rfl) (ev' (.int .i64 (IntKind.i64.wrap (m.day + b))) rfl rfl) h760 (by rw [Msg.size_arr]; decide) sz3 rfl rfl (Msg.set6 _ _)) ?_
        rintro w761 ⟨c762, hB763⟩
        have R764 := R748.stN c762 l720
        refine W.nil ?_
        refine then_n ?_
        refine W.fresh ?_
        intro r766 er767
        have s768 : r766 2 = .int .i64 id := (congrFun er767 2).trans s752
        have s769 : r766 9 = .pointer (some ⟨b81, 0, none⟩) := (congrFun er767 9).trans s754
        have s770 : r766 16 = .int .i64 ((takeR t m (IntKind.i64.wrap (id + b))).2.2.2) := (congrFun er767 16).trans s755
        have s771 : r766 17 = .pointer (some ⟨cb162, 0, none⟩) := (congrFun er767 17).trans s756
        have s772 : r766 18 = .pointer (some ⟨cb163, 0, none⟩) := (congrFun er767 18).trans s757
        have s773 : r766 19 = .pointer (some ⟨cb164, 0, none⟩) := (congrFun er767 19).trans s758
        clear er767
        refine W.seq ?_
        refine W.seq ?_
        refine W.reg ?_
        have h774 := hB732.st c746 ne696
        have h775 := h774.st c762 ne698
        refine W.val rfl rfl (X.loadR (ev' (.pointer (some ⟨cb162, 0, none⟩)) rfl s771) rt30 (row_blk_msg h775) rfl) ?_
        have h776 := hB747.st c762 ne699
        refine W.val rfl rfl (X.loadR (ev' (.pointer (some ⟨cb163, 0, none⟩)) rfl s772) rt30 (row_blk_msg h776) rfl) ?_
        refine W.val rfl rfl (X.loadR (ev' (.pointer (some ⟨cb164, 0, none⟩)) rfl s773) rt30 (row_blk_msg hB763) rfl) ?_
        have h777 := hl728.gr c731
        have h778 := h777.gr c746
        have h779 := h778.gr c762
        refine W.eff rfl rfl (Y.sliceM3 (bs := (cb164 :: cb163 :: cb162 :: b137 :: b81 :: b12 :: b4 :: bs)) (ev' (.agg ({ m with amount := IntKind.i64.wrap (m.amount + b) } : Msg).arr) rfl rfl) (ev' (.agg ({ m with item := IntKind.i64.wrap (m.item + b) } : Msg).arr) rfl rfl) (ev' (.agg ({ m with day := IntKind.i64.wrap (m.day + b) } : Msg).arr) rfl rfl) h779) ?_
        rintro _ w780 ⟨s781, rfl, g782, hs783⟩
        have R785 := R764.gr g782
        have hs784 : Sl (cb164 :: cb163 :: cb162 :: b137 :: b81 :: b12 :: b4 :: bs) w780 s781 (chg3 m b) := hs783
        refine W.val rfl rfl (X.len (ev' (s781.val) rfl rfl) st22) ?_
        refine W.val rfl rfl (X.move (evc' (.int .i64 0))) ?_
        refine W.nil ?_
        refine then_n ?_
        refine W.fresh ?_
        intro r787 er788
        have s789 : r787 2 = .int .i64 id := (congrFun er788 2).trans s768
        have s790 : r787 9 = .pointer (some ⟨b81, 0, none⟩) := (congrFun er788 9).trans s769
        have s791 : r787 16 = .int .i64 ((takeR t m (IntKind.i64.wrap (id + b))).2.2.2) := (congrFun er788 16).trans s770
        have s792 : r787 83 = s781.val := (congrFun er788 83).trans rfl
        have s793 : r787 84 = .int .i64 (s781.n : Int) := (congrFun er788 84).trans rfl
        have s794 : r787 85 = .int .i64 0 := (congrFun er788 85).trans rfl
        clear er788
        refine W.block ?_
        refine W.fresh ?_
        intro r795 er796
        have s797 : r795 2 = .int .i64 id := (congrFun er796 2).trans s789
        have s798 : r795 9 = .pointer (some ⟨b81, 0, none⟩) := (congrFun er796 9).trans s790
        have s799 : r795 16 = .int .i64 ((takeR t m (IntKind.i64.wrap (id + b))).2.2.2) := (congrFun er796 16).trans s791
        have s800 : r795 83 = s781.val := (congrFun er796 83).trans s792
        have s801 : r795 84 = .int .i64 (s781.n : Int) := (congrFun er796 84).trans s793
        have s802 : r795 85 = .int .i64 0 := (congrFun er796 85).trans s794
        clear er796
        refine W.count 85 s781.n (fun I ρ W => I ≤ s781.n ∧ ρ 85 = .int .i64 ((I : Nat) : Int) ∧ Chg [] w780 W ∧ ρ 2 = .int .i64 id ∧ ρ 9 = .pointer (some ⟨b81, 0, none⟩) ∧ ρ 16 = .int .i64 ((takeR t m (IntKind.i64.wrap (id + b))).2.2.2) ∧ ρ 83 = s781.val ∧ ρ 84 = .int .i64 (s781.n : Int)) 0 rfl
          ⟨Nat.zero_le _, s802, Chg.of_refl _ _, s797, s798, s799, s800, s801⟩ (fun I ρ W hJ => ⟨hJ.2.1, hJ.1⟩) ?_
        rintro i803 r804 w805 ⟨le806, s807, R808, s809, s810, s811, s812, s813⟩
        have R819 := R785.gr R808
        refine W.seq ?_
        refine W.reg ?_
        refine W.val rfl rfl (X.lss (ev' (.int .i64 ((i803 : Nat) : Int)) rfl s807) (ev' (.int .i64 (s781.n : Int)) rfl s813)) ?_
        refine W.nil ?_
        refine then_n ?_
        refine W.fresh ?_
        intro r820 er821
        have s822 : r820 2 = .int .i64 id := (congrFun er821 2).trans s809
        have s823 : r820 9 = .pointer (some ⟨b81, 0, none⟩) := (congrFun er821 9).trans s810
        have s824 : r820 16 = .int .i64 ((takeR t m (IntKind.i64.wrap (id + b))).2.2.2) := (congrFun er821 16).trans s811
        have s825 : r820 83 = s781.val := (congrFun er821 83).trans s812
        have s826 : r820 84 = .int .i64 (s781.n : Int) := (congrFun er821 84).trans s813
        have s827 : r820 85 = .int .i64 ((i803 : Nat) : Int) := (congrFun er821 85).trans s807
        have s828 : r820 86 = .bool (decide ((((i803 : Nat) : Int) : Int) < ((s781.n : Int) : Int))) := (congrFun er821 86).trans rfl
        clear er821
        refine W.seq ?_
        refine W.cond rfl s828 (fun k829 => ?_) (fun k829 => ?_)
        · skip
          have lt818 : i803 < s781.n := Int.ofNat_lt.1 (of_decide_eq_true k829)
          refine W.skip ?_
          refine then_n ?_
          refine W.seq ?_
          refine W.block ?_
          refine W.seq ?_
          refine W.reg ?_
          have h832 := hs784.gr R808
          obtain ⟨m830, hm831⟩ := some_of_lt (h832.len ▸ lt818)
          obtain ⟨eb833, eo834, ha835, lt836, hr837⟩ := Sl.rowAt h832 hm831
          refine W.val rfl rfl (X.idx (b := ⟨eb833, eo834 + i803 * 43, none⟩) (evs ha835 (ev' (s781.val) rfl s825)) (ev' (.int .i64 ((i803 : Nat) : Int)) rfl s827) (Int.natCast_nonneg _) (Int.ofNat_lt.2 lt836) st22 sz30 (Addr.add_lit _ _ _)) ?_
          refine W.val rfl rfl (X.loadR (ev' (.pointer (some ⟨eb833, eo834 + i803 * 43, none⟩)) rfl rfl) rt30 hr837.r rfl) ?_
          refine W.eff rfl rfl (Y.alloc (cs := Msg.zero.arr) zero30 rfl) ?_
          rintro _ w839 ⟨b840, rfl, g841, hB842, lt843⟩
          have h847 := h701.gr R682
          have h848 := h847.st c731 ne702
          have h849 := h848.st c746 ne711
          have h850 := h849.st c762 ne716
          have h851 := h850.gr g782
          have h852 := h851.gr R808
          have ne853 := h852.ne lt843
          have h857 := h704.gr R682
          have h858 := h857.st c731 ne705
          have h859 := h858.st c746 ne712
          have h860 := h859.st c762 ne717
          have h861 := h860.gr g782
          have h862 := h861.gr R808
          have ne863 := h862.ne lt843
          have h867 := h707.gr R682
          have h868 := h867.st c731 ne708
          have h869 := h868.st c746 ne713
          have h870 := h869.st c762 ne718
          have h871 := h870.gr g782
          have h872 := h871.gr R808
          have ne873 := h872.ne lt843
          have h877 := hB152.gr R682
          have h878 := h877.st c731 ne709
          have h879 := h878.st c746 ne714
          have h880 := h879.st c762 ne719
          have h881 := h880.gr g782
          have h882 := h881.gr R808
          have ne883 := h882.ne lt843
          have h884 := h775.gr g782
          have h885 := h884.gr R808
          have ne886 := h885.ne lt843
          have h887 := h776.gr g782
          have h888 := h887.gr R808
          have ne889 := h888.ne lt843
          have h890 := hB763.gr g782
          have h891 := h890.gr R808
          have ne892 := h891.ne lt843
          have l893 := Nat.le_trans R819.size lt843
          have l894 := Nat.le_trans R808.size lt843
          have R895 := R819.gr g841
          have R896 := R808.gr g841
          refine W.eff0 rfl rfl (Y.storeW (ds := m830.arr) (ev' (.pointer (some ⟨b840, 0, none⟩)) rfl rfl) (ev' (.agg m830.arr) rfl rfl) hB842 (Msg.size_arr _) sz30 (Msg.size_arr _) (Msg.oneCellA _) rfl) ?_
          rintro w898 ⟨c899, hB900⟩
          have R901 := R895.stN c899 l893
          have R902 := R896.stN c899 l894
          refine W.nil ?_
          refine then_n ?_
          refine W.fresh ?_
          intro r904 er905
          have s906 : r904 2 = .int .i64 id := (congrFun er905 2).trans s822
          have s907 : r904 9 = .pointer (some ⟨b81, 0, none⟩) := (congrFun er905 9).trans s823
          have s908 : r904 16 = .int .i64 ((takeR t m (IntKind.i64.wrap (id + b))).2.2.2) := (congrFun er905 16).trans s824
          have s909 : r904 21 = .pointer (some ⟨b840, 0, none⟩) := (congrFun er905 21).trans rfl
          have s910 : r904 83 = s781.val := (congrFun er905 83).trans s825
          have s911 : r904 84 = .int .i64 (s781.n : Int) := (congrFun er905 84).trans s826
          have s912 : r904 85 = .int .i64 ((i803 : Nat) : Int) := (congrFun er905 85).trans s827
          clear er905
          refine W.seq ?_
          refine W.reg ?_
          have h913 := h872.gr g841
          have h914 := h913.st c899 ne873
          refine W.val rfl rfl (X.loadR (ev' (.pointer (some ⟨b81, 0, none⟩)) rfl s907) rt24 (row_blk_trade h914) rfl) ?_
          refine W.val rfl rfl (X.loadR (ev' (.pointer (some ⟨b840, 0, none⟩)) rfl s909) rt30 (row_blk_msg hB900) rfl) ?_
          refine W.val rfl rfl (X.move (ev' (.int .i64 id) rfl s906)) ?_
          have h915 := (hT74.ext lt84).gr g82
          have h916 := h915.st c93 (.head _)
          have h917 := h916.gr g132
          have h918 := (h917.ext lt140).gr g138
          have h919 := h918.st c151 (.head _)
          have h920 := h919.ext lt694
          have h921 := h920.ext lt695
          have h922 := h921.ext lt697
          have h923 := h922.gr R682
          have h924 := h923.st c731 (.tail _ (.tail _ (.head _)))
          have h925 := h924.st c746 (.tail _ (.head _))
          have h926 := h925.st c762 (.head _)
          have h927 := h926.gr g782
          have h928 := h927.gr R808
          have h929 := (h928.ext lt843).gr g841
          have h930 := h929.st c899 (.head _)
          have h931 := h779.gr g782
          have h932 := h931.gr R808
          have h933 := h932.new g841 hB842.lt
          have h934 := h933.gr c899
          refine W.call rfl rfl (X.callF go22 (args3 (ev' (T72.val) rfl rfl) (ev' (.agg m830.arr) rfl rfl) (ev' (.int .i64 id) rfl rfl))) (ttake_c m830 id _ h930 h934) ?_
          rintro _ w935 ⟨T936, s937, rfl, hT938, hS939, g940⟩
          have R941 := R901.gr g940
          have R942 := R902.gr g940
          refine W.val rfl rfl (X.move (ev' (.tuple #[T936.val, s937.val, .bool ((takeR ((takeR t m id).1) m830 id).2.2.1), .int .i64 ((takeR ((takeR t m id).1) m830 id).2.2.2)]) rfl rfl)) ?_
          refine W.val rfl rfl (X.extract (ev' (.tuple #[T936.val, s937.val, .bool ((takeR ((takeR t m id).1) m830 id).2.2.1), .int .i64 ((takeR ((takeR t m id).1) m830 id).2.2.2)]) rfl rfl) rfl) ?_
          refine W.val rfl rfl (X.extract (ev' (.tuple #[T936.val, s937.val, .bool ((takeR ((takeR t m id).1) m830 id).2.2.1), .int .i64 ((takeR ((takeR t m id).1) m830 id).2.2.2)]) rfl rfl) rfl) ?_
          refine W.val rfl rfl (X.extract (ev' (.tuple #[T936.val, s937.val, .bool ((takeR ((takeR t m id).1) m830 id).2.2.1), .int .i64 ((takeR ((takeR t m id).1) m830 id).2.2.2)]) rfl rfl) rfl) ?_
          refine W.val rfl rfl (X.extract (ev' (.tuple #[T936.val, s937.val, .bool ((takeR ((takeR t m id).1) m830 id).2.2.1), .int .i64 ((takeR ((takeR t m id).1) m830 id).2.2.2)]) rfl rfl) rfl) ?_
          refine W.eff rfl rfl (Y.alloc (cs := TV.zero.arr) zero24 rfl) ?_
          rintro _ w945 ⟨b946, rfl, g947, hB948, lt949⟩
          have h950 := h852.gr g841
          have h951 := h950.st c899 ne853
          have h952 := h951.gr g940
          have ne953 := h952.ne lt949
          have h954 := h862.gr g841
          have h955 := h954.st c899 ne863
          have h956 := h955.gr g940
          have ne957 := h956.ne lt949
          have h958 := h914.gr g940
          have ne959 := h958.ne lt949
          have h960 := h882.gr g841
          have h961 := h960.st c899 ne883
          have h962 := h961.gr g940
          have ne963 := h962.ne lt949
          have h964 := h885.gr g841
          have h965 := h964.st c899 ne886
          have h966 := h965.gr g940
          have ne967 := h966.ne lt949
          have h968 := h888.gr g841
          have h969 := h968.st c899 ne889
          have h970 := h969.gr g940
          have ne971 := h970.ne lt949
          have h972 := h891.gr g841
          have h973 := h972.st c899 ne892
          have h974 := h973.gr g940
          have ne975 := h974.ne lt949
          have h976 := hB900.gr g940
          have ne977 := h976.ne lt949
          have l978 := Nat.le_trans R941.size lt949
          have l979 := Nat.le_trans R942.size lt949
          have R980 := R941.gr g947
          have R981 := R942.gr g947
          refine W.eff0 rfl rfl (Y.storeW (ds := T936.arr) (ev' (.pointer (some ⟨b946, 0, none⟩)) rfl rfl) (ev' (T936.val) rfl rfl) hB948 (n := 4) rfl sz24 rfl (TV.oneCell _) rfl) ?_
          rintro w983 ⟨c984, hB985⟩
          have R986 := R980.stN c984 l978
          have R987 := R981.stN c984 l979
          refine W.val rfl rfl (X.assign (ev' (s937.val) rfl rfl)) ?_
          refine W.val rfl rfl (X.assign (ev' (.bool ((takeR ((takeR t m id).1) m830 id).2.2.1)) rfl rfl)) ?_
          refine W.val rfl rfl (X.assign (ev' (.int .i64 ((takeR ((takeR t m id).1) m830 id).2.2.2)) rfl rfl)) ?_
          refine W.nil ?_
          refine then_n ?_
          refine W.fresh ?_
          intro r989 er990
          have s991 : r989 2 = .int .i64 id := (congrFun er990 2).trans s906
          have s992 : r989 9 = .pointer (some ⟨b81, 0, none⟩) := (congrFun er990 9).trans s907
          have s993 : r989 16 = .int .i64 ((takeR t m (IntKind.i64.wrap (id + b))).2.2.2) := (congrFun er990 16).trans s908
          have s994 : r989 25 = .int .i64 ((takeR ((takeR t m id).1) m830 id).2.2.2) := (congrFun er990 25).trans rfl
          have s995 : r989 83 = s781.val := (congrFun er990 83).trans s910
          have s996 : r989 84 = .int .i64 (s781.n : Int) := (congrFun er990 84).trans s911
          have s997 : r989 85 = .int .i64 ((i803 : Nat) : Int) := (congrFun er990 85).trans s912
          clear er990
          refine W.seq ?_
          refine W.reg ?_
          refine W.val rfl rfl (X.move (ev' (.int .i64 ((takeR ((takeR t m id).1) m830 id).2.2.2)) rfl s994)) ?_
          refine W.val rfl rfl (X.neq (ev' (.int .i64 ((takeR ((takeR t m id).1) m830 id).2.2.2)) rfl rfl) (evc' (.int .i64 480))) ?_
          refine W.nil ?_
          refine then_n ?_
          refine W.fresh ?_
          intro r998 er999
          have s1000 : r998 2 = .int .i64 id := (congrFun er999 2).trans s991
          have s1001 : r998 9 = .pointer (some ⟨b81, 0, none⟩) := (congrFun er999 9).trans s992
          have s1002 : r998 16 = .int .i64 ((takeR t m (IntKind.i64.wrap (id + b))).2.2.2) := (congrFun er999 16).trans s993
          have s1003 : r998 83 = s781.val := (congrFun er999 83).trans s995
          have s1004 : r998 84 = .int .i64 (s781.n : Int) := (congrFun er999 84).trans s996
          have s1005 : r998 85 = .int .i64 ((i803 : Nat) : Int) := (congrFun er999 85).trans s997
          have s1006 : r998 99 = .bool (((takeR ((takeR t m id).1) m830 id).2.2.2 : Int) != (480 : Int)) := (congrFun er999 99).trans rfl
          clear er999
          refine W.cond rfl s1006 (fun k1007 => ?_) (fun k1007 => ?_)
          · skip
            refine W.seq ?_
            refine W.reg ?_
            refine W.val rfl rfl (X.assign (evc' (.bool false))) ?_
            refine W.nil ?_
            refine then_n ?_
            refine W.fresh ?_
            intro r1008 er1009
            have s1010 : r1008 8 = .bool false := (congrFun er1009 8).trans rfl
            clear er1009
            refine W.ret (inb_r (then_r (then_r (inb_r (then_r (retT rfl rfl (show _ = (.bool false : Value) from s1010) ⟨?_, R986⟩))))))
            exact (ne480 (other_3 ht0 hb h0 (mem_of hm831)) k1007).elim
          · skip
            refine W.skip ?_
            refine inb_n ?_
            refine then_n ?_
            refine W.reg ?_
            refine W.val rfl rfl (X.inc (ev' (.int .i64 ((i803 : Nat) : Int)) rfl s1005) (evc' (.int .i64 1)) lt818 hs784.bnd) ?_
            refine W.val rfl rfl (X.move (ev' (.int .i64 ((i803 + 1 : Nat) : Int)) rfl rfl)) ?_
            refine W.nil ?_
            refine then_n ?_
            exact ⟨_, rfl, lt818, rfl, R987, s1000, s1001, s1002, s1003, s1004⟩
        · skip
          have ei1011 : i803 = s781.n := Nat.le_antisymm le806 (Nat.le_of_not_lt fun h => of_decide_eq_false k829 (Int.ofNat_lt.2 h))
          refine W.exit (then_x (then_x (inb_x ?_)))
          refine then_n ?_
          refine W.seq ?_
          refine W.reg ?_
          refine W.val rfl rfl (X.move (ev' (.int .i64 ((takeR t m (IntKind.i64.wrap (id + b))).2.2.2)) rfl s824)) ?_
          refine W.val rfl rfl (eqv (X.eql (ev' (.int .i64 ((takeR t m (IntKind.i64.wrap (id + b))).2.2.2)) rfl rfl) (evc' (.int .i64 480))) (show (((takeR t m (IntKind.i64.wrap (id + b))).2.2.2 : Int) == (480 : Int)) = true from by rw [other_self ht0 hb h0]; rfl)) ?_
          refine W.val rfl rfl (X.assign (ev' (.bool true) rfl rfl)) ?_
          refine W.nil ?_
          refine then_n ?_
          refine W.fresh ?_
          intro r1012 er1013
          have s1014 : r1012 8 = .bool true := (congrFun er1013 8).trans rfl
          clear er1013
          refine W.ret (retT rfl rfl (show _ = (.bool true : Value) from s1014) ⟨?_, R819⟩)
          rfl

end Go.Proofs.Ytigimkmkbdnlpaa
