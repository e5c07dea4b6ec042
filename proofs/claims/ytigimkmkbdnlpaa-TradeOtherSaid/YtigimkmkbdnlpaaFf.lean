/- Take and its reference. Printed by gen.py. -/
import Derived.Test.YtigimkmkbdnlpaaFb
import Derived.Test.YtigimkmkbdnlpaaFc
import Derived.Test.YtigimkmkbdnlpaaTk
namespace Go.Proofs.Ytigimkmkbdnlpaa
open Go.RowKit

theorem recv_c {bs : List Nat} {T : TV} {t : Trade} (m : Msg) (w : World) (ht : Tr bs w T t) (hl : LtAll bs w) (hlen : t.received.length + 1 ≤ 100000) : Calls Try.prog 48 #[T.val, .agg m.arr] w (Ret fun v w' => ∃ (T' : TV) (s' : SV), v = .tuple #[T'.val, s'.val, .bool (recvR t m).2.2.1, .int .i64 (recvR t m).2.2.2] ∧ Tr bs w' T' (recvR t m).1 ∧ Sl bs w' s' (recvR t m).2.1 ∧ Grow w w') := by
  refine enter (N := 46) Try.func48 rfl Try.ntmps48 rfl ?_
  intro ρ hρ
  have a0 : ρ 0 = T.val := hρ 0 _ rfl
  have a1 : ρ 1 = .agg m.arr := hρ 1 _ rfl
  clear hρ
  have R0 : Grow w w := Chg.refl w
  refine W.seq ?_
  refine W.reg ?_
  refine W.eff rfl rfl (Y.box (cs := T.arr) (ev' (T.val) rfl a0) rfl) ?_
  rintro _ w3 ⟨b4, rfl, g5, hB6, lt7⟩
  have l8 := Nat.le_trans R0.size lt7
  have R9 := R0.gr g5
  refine W.eff rfl rfl (Y.box (cs := m.arr) (ev' (.agg m.arr) rfl a1) rfl) ?_
  rintro _ w11 ⟨b12, rfl, g13, hB14, lt15⟩
  have ne16 := hB6.ne lt15
  have l17 := Nat.le_trans R9.size lt15
  have R18 := R9.gr g13
  refine W.eff rfl rfl (Y.alloc (cs := TV.zero.arr) zero24 rfl) ?_
  rintro _ w20 ⟨b21, rfl, g22, hB23, lt24⟩
  have h25 := hB6.gr g13
  have ne26 := h25.ne lt24
  have ne27 := hB14.ne lt24
  have l28 := Nat.le_trans R18.size lt24
  have R29 := R18.gr g22
  refine W.val rfl rfl (X.assign (evc' (SV.nil.val))) ?_
  refine W.val rfl rfl (X.assign (evc' (.bool false))) ?_
  refine W.val rfl rfl (X.assign (evc' (.int .i64 0))) ?_
  refine W.nil ?_
  refine then_n ?_
  refine W.fresh ?_
  intro r31 er32
  have s33 : r31 2 = .pointer (some ⟨b4, 0, none⟩) := (congrFun er32 2).trans rfl
  have s34 : r31 3 = .pointer (some ⟨b12, 0, none⟩) := (congrFun er32 3).trans rfl
  have s35 : r31 4 = .pointer (some ⟨b21, 0, none⟩) := (congrFun er32 4).trans rfl
  clear er32
  refine W.seq ?_
  refine W.reg ?_
  refine W.val rfl rfl (X.fieldAddr (ev' (.pointer (some ⟨b4, 0, none⟩)) rfl s33) fo24_2 (b := ⟨b4, 2, none⟩) (Addr.add_lit _ _ _)) ?_
  have h36 := h25.gr g22
  refine W.val rfl rfl (X.load (ev' (.pointer (some ⟨b4, 2, none⟩)) rfl rfl) pt22 (Blk.lc h36 rfl)) ?_
  refine W.val rfl rfl (X.makeFunc1 (ev' (.pointer (some ⟨b12, 0, none⟩)) rfl s34)) ?_
  have h37 := hB14.gr g22
  have h38 := (ht.ext lt7).gr g5
  have h39 := (h38.ext lt15).gr g13
  have h40 := (h39.ext lt24).gr g22
  refine W.call rfl rfl (X.callF go42 (args2 (ev' (T.r.val) rfl rfl) (ev' (.func (.func 69) #[] #[.pointer (some ⟨b12, 0, none⟩)]) rfl rfl))) (find_c (cap := #[.pointer (some ⟨b12, 0, none⟩)]) (p := (fun r => r.frm == m.frm && r.no == m.no)) _ go69 h40.r (fun d w' g => sameKey_c d _ w' (h37.gr g))) ?_
  rintro _ w41 ⟨rfl, g42⟩
  have R43 := R29.gr g42
  refine W.val rfl rfl (X.assign (ev' (.int .i64 (fnd (fun r => r.frm == m.frm && r.no == m.no) t.received)) rfl rfl)) ?_
  refine W.nil ?_
  refine then_n ?_
  refine W.fresh ?_
  intro r44 er45
  have s46 : r44 2 = .pointer (some ⟨b4, 0, none⟩) := (congrFun er45 2).trans s33
  have s47 : r44 3 = .pointer (some ⟨b12, 0, none⟩) := (congrFun er45 3).trans s34
  have s48 : r44 4 = .pointer (some ⟨b21, 0, none⟩) := (congrFun er45 4).trans s35
  have s49 : r44 8 = .int .i64 (fnd (fun r => r.frm == m.frm && r.no == m.no) t.received) := (congrFun er45 8).trans rfl
  clear er45
  refine W.seq ?_
  refine W.seq ?_
  refine W.reg ?_
  refine W.val rfl rfl (X.move (ev' (.int .i64 (fnd (fun r => r.frm == m.frm && r.no == m.no) t.received)) rfl s49)) ?_
  refine W.val rfl rfl (X.geq (ev' (.int .i64 (fnd (fun r => r.frm == m.frm && r.no == m.no) t.received)) rfl rfl) (evc' (.int .i64 0))) ?_
  refine W.nil ?_
  refine then_n ?_
  refine W.fresh ?_
  intro r50 er51
  have s52 : r50 2 = .pointer (some ⟨b4, 0, none⟩) := (congrFun er51 2).trans s46
  have s53 : r50 3 = .pointer (some ⟨b12, 0, none⟩) := (congrFun er51 3).trans s47
  have s54 : r50 4 = .pointer (some ⟨b21, 0, none⟩) := (congrFun er51 4).trans s48
  have s55 : r50 8 = .int .i64 (fnd (fun r => r.frm == m.frm && r.no == m.no) t.received) := (congrFun er51 8).trans s49
  have s56 : r50 14 = .bool (decide ((0 : Int) ≤ (fnd (fun r => r.frm == m.frm && r.no == m.no) t.received : Int))) := (congrFun er51 14).trans rfl
  clear er51
  refine W.cond rfl s56 (fun k57 => ?_) (fun k57 => ?_)
  · skip
    obtain ⟨x, hx, _, _⟩ := fnd_pos (of_decide_eq_true k57)
    refine W.seq ?_
    refine W.seq ?_
    refine A.begin' (cs := []) rfl ?_
    intro w58 g59
    have R60 := R43.gr g59
    have R61 : Chg [] w58 w58 := Chg.of_refl _ _
    refine A.take (i := 0) rfl (by kernel_rfl) (by kernel_rfl) (by kernel_rfl) (fun _ _ _ h => h) R61 rfl rfl (fun _ _ => (X.fieldAddr (ev' (.pointer (some ⟨b4, 0, none⟩)) rfl s52) fo24_2 (b := ⟨b4, 2, none⟩) (Addr.add_lit _ _ _))) ?_
    have h62 := h36.gr g42
    have h63 := h62.gr g59
    refine A.take (i := 1) rfl (by kernel_rfl) (by kernel_rfl) (by kernel_rfl) (fun _ _ _ h => h) R61 rfl rfl (fun _ hw => (X.load (ev' (.pointer (some ⟨b4, 2, none⟩)) rfl rfl) pt22 (Blk.lc (h63.gr hw) rfl))) ?_
    refine A.take (i := 2) rfl (by kernel_rfl) (by kernel_rfl) (by kernel_rfl) (fun _ _ _ h => h) R61 rfl rfl (fun _ _ => (X.move (ev' (.int .i64 (fnd (fun r => r.frm == m.frm && r.no == m.no) t.received)) rfl s55))) ?_
    have h64 := h40.gr g42
    have h65 := h64.gr g59
    obtain ⟨eb66, eo67, ha68, lt69, hr70⟩ := Sl.rowAt h65.r hx
    refine A.take (i := 3) rfl (by kernel_rfl) (by kernel_rfl) (by kernel_rfl) (fun _ _ _ h => h) R61 rfl rfl (fun _ _ => (X.idx (b := ⟨eb66, eo67 + ((fnd (fun r => r.frm == m.frm && r.no == m.no) t.received).toNat) * 43, none⟩) (evs ha68 (ev' (T.r.val) rfl rfl)) (ev' (.int .i64 (fnd (fun r => r.frm == m.frm && r.no == m.no) t.received)) rfl rfl) (of_decide_eq_true k57) (idx_lt (of_decide_eq_true k57) lt69) st22 sz30 (Addr.add_lit _ _ _))) ?_
    refine A.take (i := 4) rfl (by kernel_rfl) (by kernel_rfl) (by kernel_rfl) (fun _ _ _ h => h) R61 rfl rfl (fun _ hw => (X.loadR (ev' (.pointer (some ⟨eb66, eo67 + ((fnd (fun r => r.frm == m.frm && r.no == m.no) t.received).toNat) * 43, none⟩)) rfl rfl) rt30 (hr70.gr hw).r rfl)) ?_
    have h72 := h37.gr g42
    have h73 := h72.gr g59
    refine A.take (i := 6) rfl (by kernel_rfl) (by kernel_rfl) (by kernel_rfl) (fun _ _ _ h => h) R61 rfl rfl (fun _ hw => (X.loadR (ev' (.pointer (some ⟨b12, 0, none⟩)) rfl s53) rt30 (row_blk_msg (h73.gr hw)) rfl)) ?_
    refine A.one (i := 5) (by kernel_rfl) ?_
    refine E.call (i := 5) rfl rfl rfl (X.callF go67 (args1 (ev' (.agg x.arr) rfl rfl))) (nums_c x _) ?_
    rintro _ w74 ⟨rfl, g75⟩
    have R76 := R60.gr g75
    have R77 := R61.gr g75
    refine ⟨R77, ?_⟩
    refine A.one (i := 7) (by kernel_rfl) ?_
    refine E.call (i := 7) rfl rfl rfl (X.callF go67 (args1 (ev' (.agg m.arr) rfl rfl))) (nums_c m _) ?_
    rintro _ w78 ⟨rfl, g79⟩
    have R80 := R76.gr g79
    have R81 := R77.gr g79
    refine ⟨R81, ?_⟩
    refine A.take (i := 8) rfl (by kernel_rfl) (by kernel_rfl) (by kernel_rfl) (fun _ _ _ h => h) R81 rfl rfl (fun _ _ => (X.neqNums (ev' (.agg (numArr x)) rfl rfl) (ev' (.agg (numArr m)) rfl rfl))) ?_
    refine A.done (by kernel_rfl) ?_
    refine then_n ?_
    refine W.fresh ?_
    intro r82 er83
    have s84 : r82 2 = .pointer (some ⟨b4, 0, none⟩) := (congrFun er83 2).trans s52
    have s85 : r82 3 = .pointer (some ⟨b12, 0, none⟩) := (congrFun er83 3).trans s53
    have s86 : r82 4 = .pointer (some ⟨b21, 0, none⟩) := (congrFun er83 4).trans s54
    have s87 : r82 23 = .bool (!nums x m) := (congrFun er83 23).trans rfl
    clear er83
    refine W.cond rfl s87 (fun k88 => ?_) (fun k88 => ?_)
    · skip
      refine W.seq ?_
      refine W.reg ?_
      refine W.val rfl rfl X.build24 ?_
      have h89 := hB23.gr g42
      have h90 := h89.gr g59
      have h91 := h90.gr g75
      have h92 := h91.gr g79
      refine W.eff0 rfl rfl (Y.storeW (ds := TV.zero.arr) (ev' (.pointer (some ⟨b21, 0, none⟩)) rfl s86) (ev' (TV.zero.val) rfl rfl) h92 (n := 4) rfl sz24 rfl (TV.oneCell _) rfl) ?_
      rintro w93 ⟨c94, hB95⟩
      have R96 := R80.stN c94 l28
      refine W.val rfl rfl (X.assign (evc' (SV.nil.val))) ?_
      refine W.val rfl rfl (X.assign (evc' (.bool false))) ?_
      refine W.val rfl rfl (X.assign (evc' (.int .i64 480))) ?_
      refine W.nil ?_
      refine then_n ?_
      refine W.fresh ?_
      intro r98 er99
      have s100 : r98 4 = .pointer (some ⟨b21, 0, none⟩) := (congrFun er99 4).trans s86
      have s101 : r98 5 = SV.nil.val := (congrFun er99 5).trans rfl
      have s102 : r98 6 = .bool false := (congrFun er99 6).trans rfl
      have s103 : r98 7 = .int .i64 480 := (congrFun er99 7).trans rfl
      clear er99
      have pe104 : recvR t m = (Trade.zero, [], false, 480) := (by exact recv_1 k57 hx k88)
      have hT105 : Tr (b21 :: b12 :: b4 :: bs) w93 TV.zero Trade.zero := (Tr.zero_ _ _)
      have hS106 : Sl (b21 :: b12 :: b4 :: bs) w93 SV.nil ([]) := (Sl.none_ _ _)
      refine W.ret (then_r (then_r (retCTTT rfl rfl (show _ = (.pointer (some ⟨b21, 0, none⟩) : Value) from s100) (run_loadAt_row rt24 (row_blk_trade hB95)) rfl (show _ = (SV.nil.val : Value) from s101) rfl (show _ = (.bool false : Value) from s102) rfl (show _ = (.int .i64 480 : Value) from s103) ⟨TV.zero, SV.nil, congrArg (fun (p : TakeT) => Value.tuple #[TV.val TV.zero, SV.val SV.nil, .bool p.2.2.1, .int .i64 p.2.2.2]) (Eq.symm pe104), by rw [pe104]; exact hT105.tl.tl.tl, by rw [pe104]; exact hS106.tl.tl.tl, R96⟩)))
    · skip
      refine W.skip ?_
      refine then_n ?_
      refine W.seq ?_
      refine A.begin' (cs := [b21]) rfl ?_
      intro w107 g108
      have R109 := R80.gr g108
      have R110 : Chg [b21] w107 w107 := Chg.of_refl _ _
      have h111 := h63.gr g75
      have h112 := h111.gr g79
      have h113 := h112.gr g108
      refine A.take (i := 0) rfl (by kernel_rfl) (by kernel_rfl) (by kernel_rfl) (fun _ _ _ h => h) R110 rfl rfl (fun _ hw => (X.loadR (ev' (.pointer (some ⟨b4, 0, none⟩)) rfl s84) rt24 (row_blk_trade (h113.chg hw (by simp [ne26]))) rfl)) ?_
      have h114 := h73.gr g75
      have h115 := h114.gr g79
      have h116 := h115.gr g108
      refine A.take (i := 1) rfl (by kernel_rfl) (by kernel_rfl) (by kernel_rfl) (fun _ _ _ h => h) R110 rfl rfl (fun _ hw => (X.loadR (ev' (.pointer (some ⟨b12, 0, none⟩)) rfl s85) rt30 (row_blk_msg (h116.chg hw (by simp [ne27]))) rfl)) ?_
      refine A.one (i := 2) (by kernel_rfl) ?_
      refine E.call (i := 2) rfl rfl rfl (X.callF go68 (args1 (ev' (.agg m.arr) rfl rfl))) (ansW_c m _) ?_
      rintro _ w117 ⟨rfl, g118⟩
      have R119 := R109.gr g118
      have R120 := R110.gr g118
      refine ⟨R120, ?_⟩
      refine A.two (i := 3) (j := 4) (by kernel_rfl) ?_ ?_
      · skip
        have h121 := hl.new g5 hB6.lt
        have h122 := h121.new g13 hB14.lt
        have h123 := h122.new g22 hB23.lt
        have h124 := h123.gr g42
        have h125 := h124.gr g59
        have h126 := h125.gr g75
        have h127 := h126.gr g79
        have h128 := h127.gr g108
        have h129 := h128.gr g118
        refine E.eff (i := 3) rfl rfl rfl (Y.slice1 (bs := (b21 :: b12 :: b4 :: bs)) (ev' (.agg (ansW m).arr) rfl rfl) h129) ?_
        rintro _ w130 ⟨s131, rfl, g132, hs133⟩
        have R134 := R119.gr g132
        have R135 := R120.gr g132
        refine ⟨R135, ?_⟩
        refine A.one (i := 4) (by kernel_rfl) ?_
        have h137 := hB23.gr g42
        have h138 := h137.gr g59
        have h139 := h138.gr g75
        have h140 := h139.gr g79
        have h141 := h140.gr g108
        have h142 := h141.gr g118
        have h143 := h142.gr g132
        refine E.eff0 (i := 4) rfl rfl rfl (Y.storeW (ds := T.arr) (ev' (.pointer (some ⟨b21, 0, none⟩)) rfl s86) (ev' (T.val) rfl rfl) h143 (n := 4) rfl sz24 rfl (TV.oneCell _) rfl) ?_
        rintro w144 ⟨c145, hB146⟩
        have R147 := R134.stN c145 l28
        have R148 := R135.stO c145 (.head _)
        refine ⟨R148, ?_⟩
        refine A.take (i := 5) rfl (by kernel_rfl) (by kernel_rfl) (by kernel_rfl) (fun _ _ _ h => h) R148 rfl rfl (fun _ _ => (X.assign (ev' (s131.val) rfl rfl))) ?_
        refine A.take (i := 6) rfl (by kernel_rfl) (by kernel_rfl) (by kernel_rfl) (fun _ _ _ h => h) R148 rfl rfl (fun _ _ => (X.assign (evc' (.bool false)))) ?_
        refine A.take (i := 7) rfl (by kernel_rfl) (by kernel_rfl) (by kernel_rfl) (fun _ _ _ h => h) R148 rfl rfl (fun _ _ => (X.assign (evc' (.int .i64 0)))) ?_
        refine A.done (by kernel_rfl) ?_
        refine then_n ?_
        refine W.fresh ?_
        intro r150 er151
        have s152 : r150 4 = .pointer (some ⟨b21, 0, none⟩) := (congrFun er151 4).trans s86
        have s153 : r150 5 = s131.val := (congrFun er151 5).trans rfl
        have s154 : r150 6 = .bool false := (congrFun er151 6).trans rfl
        have s155 : r150 7 = .int .i64 0 := (congrFun er151 7).trans rfl
        clear er151
        have h156 := h65.gr g75
        have h157 := h156.gr g79
        have h158 := h157.gr g108
        have h159 := h158.gr g118
        have h160 := h159.gr g132
        have h161 := h160.st c145 (.head _)
        have pe162 : recvR t m = (t, [(ansW m)], false, 0) := (by exact recv_2 k57 hx k88)
        have hT163 : Tr (b21 :: b12 :: b4 :: bs) w144 T t := h161
        have h165 := hs133.st c145 (.head _)
        have hS164 : Sl (b21 :: b12 :: b4 :: bs) w144 s131 ([(ansW m)]) := h165
        refine W.ret (then_r (retCTTT rfl rfl (show _ = (.pointer (some ⟨b21, 0, none⟩) : Value) from s152) (run_loadAt_row rt24 (row_blk_trade hB146)) rfl (show _ = (s131.val : Value) from s153) rfl (show _ = (.bool false : Value) from s154) rfl (show _ = (.int .i64 0 : Value) from s155) ⟨T, s131, congrArg (fun (p : TakeT) => Value.tuple #[TV.val T, SV.val s131, .bool p.2.2.1, .int .i64 p.2.2.2]) (Eq.symm pe162), by rw [pe162]; exact hT163.tl.tl.tl, by rw [pe162]; exact hS164.tl.tl.tl, R147⟩))
      · skip
        have h166 := hB23.gr g42
        have h167 := h166.gr g59
        have h168 := h167.gr g75
        have h169 := h168.gr g79
        have h170 := h169.gr g108
        have h171 := h170.gr g118
        refine E.eff0 (i := 4) rfl rfl rfl (Y.storeW (ds := T.arr) (ev' (.pointer (some ⟨b21, 0, none⟩)) rfl s86) (ev' (T.val) rfl rfl) h171 (n := 4) rfl sz24 rfl (TV.oneCell _) rfl) ?_
        rintro w172 ⟨c173, hB174⟩
        have R175 := R119.stN c173 l28
        have R176 := R120.stO c173 (.head _)
        refine ⟨R176, ?_⟩
        refine A.one (i := 3) (by kernel_rfl) ?_
        have h178 := hl.new g5 hB6.lt
        have h179 := h178.new g13 hB14.lt
        have h180 := h179.new g22 hB23.lt
        have h181 := h180.gr g42
        have h182 := h181.gr g59
        have h183 := h182.gr g75
        have h184 := h183.gr g79
        have h185 := h184.gr g108
        have h186 := h185.gr g118
        have h187 := h186.gr c173
        refine E.eff (i := 3) rfl rfl rfl (Y.slice1 (bs := (b21 :: b12 :: b4 :: bs)) (ev' (.agg (ansW m).arr) rfl rfl) h187) ?_
        rintro _ w188 ⟨s189, rfl, g190, hs191⟩
        have R192 := R175.gr g190
        have R193 := R176.gr g190
        refine ⟨R193, ?_⟩
        refine A.take (i := 5) rfl (by kernel_rfl) (by kernel_rfl) (by kernel_rfl) (fun _ _ _ h => h) R193 rfl rfl (fun _ _ => (X.assign (ev' (s189.val) rfl rfl))) ?_
        refine A.take (i := 6) rfl (by kernel_rfl) (by kernel_rfl) (by kernel_rfl) (fun _ _ _ h => h) R193 rfl rfl (fun _ _ => (X.assign (evc' (.bool false)))) ?_
        refine A.take (i := 7) rfl (by kernel_rfl) (by kernel_rfl) (by kernel_rfl) (fun _ _ _ h => h) R193 rfl rfl (fun _ _ => (X.assign (evc' (.int .i64 0)))) ?_
        refine A.done (by kernel_rfl) ?_
        refine then_n ?_
        refine W.fresh ?_
        intro r195 er196
        have s197 : r195 4 = .pointer (some ⟨b21, 0, none⟩) := (congrFun er196 4).trans s86
        have s198 : r195 5 = s189.val := (congrFun er196 5).trans rfl
        have s199 : r195 6 = .bool false := (congrFun er196 6).trans rfl
        have s200 : r195 7 = .int .i64 0 := (congrFun er196 7).trans rfl
        clear er196
        have h201 := hB174.gr g190
        have h202 := h65.gr g75
        have h203 := h202.gr g79
        have h204 := h203.gr g108
        have h205 := h204.gr g118
        have h206 := h205.st c173 (.head _)
        have h207 := h206.gr g190
        have pe208 : recvR t m = (t, [(ansW m)], false, 0) := (by exact recv_2 k57 hx k88)
        have hT209 : Tr (b21 :: b12 :: b4 :: bs) w188 T t := h207
        have hS210 : Sl (b21 :: b12 :: b4 :: bs) w188 s189 ([(ansW m)]) := hs191
        refine W.ret (then_r (retCTTT rfl rfl (show _ = (.pointer (some ⟨b21, 0, none⟩) : Value) from s197) (run_loadAt_row rt24 (row_blk_trade h201)) rfl (show _ = (s189.val : Value) from s198) rfl (show _ = (.bool false : Value) from s199) rfl (show _ = (.int .i64 0 : Value) from s200) ⟨T, s189, congrArg (fun (p : TakeT) => Value.tuple #[TV.val T, SV.val s189, .bool p.2.2.1, .int .i64 p.2.2.2]) (Eq.symm pe208), by rw [pe208]; exact hT209.tl.tl.tl, by rw [pe208]; exact hS210.tl.tl.tl, R192⟩))
  · skip
    refine W.skip ?_
    refine then_n ?_
    refine W.seq ?_
    refine W.seq ?_
    refine W.reg ?_
    refine W.val rfl rfl (X.fieldAddr (ev' (.pointer (some ⟨b4, 0, none⟩)) rfl s52) fo24_2 (b := ⟨b4, 2, none⟩) (Addr.add_lit _ _ _)) ?_
    have h211 := h36.gr g42
    refine W.val rfl rfl (X.load (ev' (.pointer (some ⟨b4, 2, none⟩)) rfl rfl) pt22 (Blk.lc h211 rfl)) ?_
    refine W.val rfl rfl (X.len (ev' (T.r.val) rfl rfl) st22) ?_
    refine W.val rfl rfl (X.geq (ev' (.int .i64 (T.r.n : Int)) rfl rfl) (evc' (.int .i64 4096))) ?_
    refine W.nil ?_
    refine then_n ?_
    refine W.fresh ?_
    intro r212 er213
    have s214 : r212 2 = .pointer (some ⟨b4, 0, none⟩) := (congrFun er213 2).trans s52
    have s215 : r212 3 = .pointer (some ⟨b12, 0, none⟩) := (congrFun er213 3).trans s53
    have s216 : r212 4 = .pointer (some ⟨b21, 0, none⟩) := (congrFun er213 4).trans s54
    have s217 : r212 32 = .bool (decide ((4096 : Int) ≤ ((T.r.n : Int) : Int))) := (congrFun er213 32).trans rfl
    clear er213
    refine W.cond rfl s217 (fun k218 => ?_) (fun k218 => ?_)
    · skip
      refine W.seq ?_
      refine W.reg ?_
      refine W.val rfl rfl X.build24 ?_
      have h219 := hB23.gr g42
      refine W.eff0 rfl rfl (Y.storeW (ds := TV.zero.arr) (ev' (.pointer (some ⟨b21, 0, none⟩)) rfl s216) (ev' (TV.zero.val) rfl rfl) h219 (n := 4) rfl sz24 rfl (TV.oneCell _) rfl) ?_
      rintro w220 ⟨c221, hB222⟩
      have R223 := R43.stN c221 l28
      refine W.val rfl rfl (X.assign (evc' (SV.nil.val))) ?_
      refine W.val rfl rfl (X.assign (evc' (.bool false))) ?_
      refine W.val rfl rfl (X.assign (evc' (.int .i64 2))) ?_
      refine W.nil ?_
      refine then_n ?_
      refine W.fresh ?_
      intro r225 er226
      have s227 : r225 4 = .pointer (some ⟨b21, 0, none⟩) := (congrFun er226 4).trans s216
      have s228 : r225 5 = SV.nil.val := (congrFun er226 5).trans rfl
      have s229 : r225 6 = .bool false := (congrFun er226 6).trans rfl
      have s230 : r225 7 = .int .i64 2 := (congrFun er226 7).trans rfl
      clear er226
      have pe231 : recvR t m = (Trade.zero, [], false, 2) := (by exact recv_3 ht.r.len k57 k218)
      have hT232 : Tr (b21 :: b12 :: b4 :: bs) w220 TV.zero Trade.zero := (Tr.zero_ _ _)
      have hS233 : Sl (b21 :: b12 :: b4 :: bs) w220 SV.nil ([]) := (Sl.none_ _ _)
      refine W.ret (then_r (retCTTT rfl rfl (show _ = (.pointer (some ⟨b21, 0, none⟩) : Value) from s227) (run_loadAt_row rt24 (row_blk_trade hB222)) rfl (show _ = (SV.nil.val : Value) from s228) rfl (show _ = (.bool false : Value) from s229) rfl (show _ = (.int .i64 2 : Value) from s230) ⟨TV.zero, SV.nil, congrArg (fun (p : TakeT) => Value.tuple #[TV.val TV.zero, SV.val SV.nil, .bool p.2.2.1, .int .i64 p.2.2.2]) (Eq.symm pe231), by rw [pe231]; exact hT232.tl.tl.tl, by rw [pe231]; exact hS233.tl.tl.tl, R223⟩))
    · skip
      refine W.skip ?_
      refine then_n ?_
      refine W.seq ?_
      refine W.reg ?_
      refine W.val rfl rfl (X.loadR (ev' (.pointer (some ⟨b4, 0, none⟩)) rfl s214) rt24 (row_blk_trade h211) rfl) ?_
      have h234 := hB23.gr g42
      refine W.eff0 rfl rfl (Y.storeW (ds := T.arr) (ev' (.pointer (some ⟨b21, 0, none⟩)) rfl s216) (ev' (T.val) rfl rfl) h234 (n := 4) rfl sz24 rfl (TV.oneCell _) rfl) ?_
      rintro w235 ⟨c236, hB237⟩
      have R238 := R43.stN c236 l28
      refine W.nil ?_
      refine then_n ?_
      refine W.fresh ?_
      intro r240 er241
      have s242 : r240 2 = .pointer (some ⟨b4, 0, none⟩) := (congrFun er241 2).trans s214
      have s243 : r240 3 = .pointer (some ⟨b12, 0, none⟩) := (congrFun er241 3).trans s215
      have s244 : r240 4 = .pointer (some ⟨b21, 0, none⟩) := (congrFun er241 4).trans s216
      clear er241
      refine W.seq ?_
      refine A.begin' (cs := [b21]) rfl ?_
      intro w245 g246
      have R247 := R238.gr g246
      have R248 : Chg [b21] w245 w245 := Chg.of_refl _ _
      refine A.take (i := 0) rfl (by kernel_rfl) (by kernel_rfl) (by kernel_rfl) (fun _ _ _ h => h) R248 rfl rfl (fun _ _ => (X.fieldAddr (ev' (.pointer (some ⟨b4, 0, none⟩)) rfl s242) fo24_2 (b := ⟨b4, 2, none⟩) (Addr.add_lit _ _ _))) ?_
      have h249 := h211.st c236 ne26
      have h250 := h249.gr g246
      refine A.take (i := 1) rfl (by kernel_rfl) (by kernel_rfl) (by kernel_rfl) (fun _ _ _ h => h) R248 rfl rfl (fun _ hw => (X.load (ev' (.pointer (some ⟨b4, 2, none⟩)) rfl rfl) pt22 (Blk.lc (h250.chg hw (by simp [ne26])) rfl))) ?_
      have h251 := h37.gr g42
      have h252 := h251.st c236 ne27
      have h253 := h252.gr g246
      refine A.take (i := 3) rfl (by kernel_rfl) (by kernel_rfl) (by kernel_rfl) (fun _ _ _ h => h) R248 rfl rfl (fun _ hw => (X.loadR (ev' (.pointer (some ⟨b12, 0, none⟩)) rfl s243) rt30 (row_blk_msg (h253.chg hw (by simp [ne27]))) rfl)) ?_
      refine A.two (i := 2) (j := 4) (by kernel_rfl) ?_ ?_
      · skip
        have h254 := h40.gr g42
        have h255 := h254.st c236 (.head _)
        have h256 := h255.gr g246
        refine E.call (i := 2) rfl rfl rfl (X.callF go38 (args1 (ev' (T.r.val) rfl rfl))) (clip_c _ h256.r) ?_
        rintro _ w257 ⟨rfl, g258⟩
        have R259 := R247.gr g258
        have R260 := R248.gr g258
        refine ⟨R260, ?_⟩
        refine A.one (i := 4) (by kernel_rfl) ?_
        have h261 := hl.new g5 hB6.lt
        have h262 := h261.new g13 hB14.lt
        have h263 := h262.new g22 hB23.lt
        have h264 := h263.gr g42
        have h265 := h264.gr c236
        have h266 := h265.gr g246
        have h267 := h266.gr g258
        refine E.eff (i := 4) rfl rfl rfl (Y.slice1 (bs := (b21 :: b12 :: b4 :: bs)) (ev' (.agg m.arr) rfl rfl) h267) ?_
        rintro _ w268 ⟨s269, rfl, g270, hs271⟩
        have R272 := R259.gr g270
        have R273 := R260.gr g270
        refine ⟨R273, ?_⟩
        refine A.one (i := 5) (by kernel_rfl) ?_
        have h275 := h256.gr g258
        have h276 := h275.gr g270
        have h277 := h267.gr g270
        refine E.eff (i := 5) rfl rfl rfl (Y.append (ev' ((clip T.r).val) rfl rfl) (ev' (s269.val) rfl rfl) (Sl.clip h276.r) hs271 rfl (by simp) hlen h277) ?_
        rintro _ w278 ⟨s279, rfl, g280, hs281⟩
        have R282 := R272.gr g280
        have R283 := R273.gr g280
        refine ⟨R283, ?_⟩
        refine A.take (i := 6) rfl (by kernel_rfl) (by kernel_rfl) (by kernel_rfl) (fun _ _ _ h => h) R283 rfl rfl (fun _ _ => (X.fieldAddr (ev' (.pointer (some ⟨b21, 0, none⟩)) rfl s244) fo24_2 (b := ⟨b21, 2, none⟩) (Addr.add_lit _ _ _))) ?_
        refine A.one (i := 7) (by kernel_rfl) ?_
        have h285 := hB237.gr g246
        have h286 := h285.gr g258
        have h287 := h286.gr g270
        have h288 := h287.gr g280
        refine E.eff0 (i := 7) rfl rfl rfl (Y.storeC (ds := ({ T with r := s279 } : TV).arr) (ev' (.pointer (some ⟨b21, 2, none⟩)) rfl rfl) (ev' (s279.val) rfl rfl) h288 (show 2 < 4 from by decide) sz22 rfl rfl rfl) ?_
        rintro w289 ⟨c290, hB291⟩
        have R292 := R282.stN c290 l28
        have R293 := R283.stO c290 (.head _)
        refine ⟨R293, ?_⟩
        refine A.done (by kernel_rfl) ?_
        refine then_n ?_
        refine W.fresh ?_
        intro r295 er296
        have s297 : r295 3 = .pointer (some ⟨b12, 0, none⟩) := (congrFun er296 3).trans s243
        have s298 : r295 4 = .pointer (some ⟨b21, 0, none⟩) := (congrFun er296 4).trans s244
        clear er296
        refine W.seq ?_
        refine A.begin' (cs := [b21]) rfl ?_
        intro w299 g300
        have R301 := R292.gr g300
        have R302 : Chg [b21] w299 w299 := Chg.of_refl _ _
        have h303 := h253.gr g258
        have h304 := h303.gr g270
        have h305 := h304.gr g280
        have h306 := h305.st c290 ne27
        have h307 := h306.gr g300
        refine A.take (i := 1) rfl (by kernel_rfl) (by kernel_rfl) (by kernel_rfl) (fun _ _ _ h => h) R302 rfl rfl (fun _ hw => (X.loadR (ev' (.pointer (some ⟨b12, 0, none⟩)) rfl s297) rt30 (row_blk_msg (h307.chg hw (by simp [ne27]))) rfl)) ?_
        refine A.two (i := 0) (j := 2) (by kernel_rfl) ?_ ?_
        · skip
          have h308 := hB291.gr g300
          refine E.val (i := 0) rfl rfl rfl (X.loadR (ev' (.pointer (some ⟨b21, 0, none⟩)) rfl s298) rt24 (row_blk_trade h308) rfl) ?_
          refine ⟨R302, ?_⟩
          refine A.one (i := 2) (by kernel_rfl) ?_
          refine E.call (i := 2) rfl rfl rfl (X.callF go68 (args1 (ev' (.agg m.arr) rfl rfl))) (ansW_c m _) ?_
          rintro _ w309 ⟨rfl, g310⟩
          have R311 := R301.gr g310
          have R312 := R302.gr g310
          refine ⟨R312, ?_⟩
          refine A.two (i := 3) (j := 4) (by kernel_rfl) ?_ ?_
          · skip
            have h313 := h277.gr g280
            have h314 := h313.gr c290
            have h315 := h314.gr g300
            have h316 := h315.gr g310
            refine E.eff (i := 3) rfl rfl rfl (Y.slice1 (bs := (b21 :: b12 :: b4 :: bs)) (ev' (.agg (ansW m).arr) rfl rfl) h316) ?_
            rintro _ w317 ⟨s318, rfl, g319, hs320⟩
            have R321 := R311.gr g319
            have R322 := R312.gr g319
            refine ⟨R322, ?_⟩
            refine A.one (i := 4) (by kernel_rfl) ?_
            have h324 := h308.gr g310
            have h325 := h324.gr g319
            refine E.eff0 (i := 4) rfl rfl rfl (Y.storeW (ds := ({ T with r := s279 } : TV).arr) (ev' (.pointer (some ⟨b21, 0, none⟩)) rfl s298) (ev' (({ T with r := s279 } : TV).val) rfl rfl) h325 (n := 4) rfl sz24 rfl (TV.oneCell _) rfl) ?_
            rintro w326 ⟨c327, hB328⟩
            have R329 := R321.stN c327 l28
            have R330 := R322.stO c327 (.head _)
            refine ⟨R330, ?_⟩
            refine A.take (i := 5) rfl (by kernel_rfl) (by kernel_rfl) (by kernel_rfl) (fun _ _ _ h => h) R330 rfl rfl (fun _ _ => (X.assign (ev' (s318.val) rfl rfl))) ?_
            refine A.take (i := 6) rfl (by kernel_rfl) (by kernel_rfl) (by kernel_rfl) (fun _ _ _ h => h) R330 rfl rfl (fun _ _ => (X.assign (evc' (.bool true)))) ?_
            refine A.take (i := 7) rfl (by kernel_rfl) (by kernel_rfl) (by kernel_rfl) (fun _ _ _ h => h) R330 rfl rfl (fun _ _ => (X.assign (evc' (.int .i64 0)))) ?_
            refine A.done (by kernel_rfl) ?_
            refine then_n ?_
            refine W.fresh ?_
            intro r332 er333
            have s334 : r332 4 = .pointer (some ⟨b21, 0, none⟩) := (congrFun er333 4).trans s298
            have s335 : r332 5 = s318.val := (congrFun er333 5).trans rfl
            have s336 : r332 6 = .bool true := (congrFun er333 6).trans rfl
            have s337 : r332 7 = .int .i64 0 := (congrFun er333 7).trans rfl
            clear er333
            have h338 := h276.gr g280
            have h339 := h338.st c290 (.head _)
            have h340 := h339.gr g300
            have h341 := h340.gr g310
            have h342 := h341.gr g319
            have h343 := h342.st c327 (.head _)
            have h344 := hs281.st c290 (.head _)
            have h345 := h344.gr g300
            have h346 := h345.gr g310
            have h347 := h346.gr g319
            have h348 := h347.st c327 (.head _)
            have pe349 : recvR t m = (({ t with received := (t.received ++ [m]) } : Trade), [(ansW m)], true, 0) := (by exact recv_4 ht.r.len k57 k218)
            have hT350 : Tr (b21 :: b12 :: b4 :: bs) w326 ({ T with r := s279 } : TV) ({ t with received := (t.received ++ [m]) } : Trade) := ⟨h343.next, h343.p, h348, h343.d⟩
            have h352 := hs320.st c327 (.head _)
            have hS351 : Sl (b21 :: b12 :: b4 :: bs) w326 s318 ([(ansW m)]) := h352
            refine W.ret (retCTTT rfl rfl (show _ = (.pointer (some ⟨b21, 0, none⟩) : Value) from s334) (run_loadAt_row rt24 (row_blk_trade hB328)) rfl (show _ = (s318.val : Value) from s335) rfl (show _ = (.bool true : Value) from s336) rfl (show _ = (.int .i64 0 : Value) from s337) ⟨({ T with r := s279 } : TV), s318, congrArg (fun (p : TakeT) => Value.tuple #[TV.val ({ T with r := s279 } : TV), SV.val s318, .bool p.2.2.1, .int .i64 p.2.2.2]) (Eq.symm pe349), by rw [pe349]; exact hT350.tl.tl.tl, by rw [pe349]; exact hS351.tl.tl.tl, R329⟩)
          · skip
            have h353 := h308.gr g310
            refine E.eff0 (i := 4) rfl rfl rfl (Y.storeW (ds := ({ T with r := s279 } : TV).arr) (ev' (.pointer (some ⟨b21, 0, none⟩)) rfl s298) (ev' (({ T with r := s279 } : TV).val) rfl rfl) h353 (n := 4) rfl sz24 rfl (TV.oneCell _) rfl) ?_
            rintro w354 ⟨c355, hB356⟩
            have R357 := R311.stN c355 l28
            have R358 := R312.stO c355 (.head _)
            refine ⟨R358, ?_⟩
            refine A.one (i := 3) (by kernel_rfl) ?_
            have h360 := h277.gr g280
            have h361 := h360.gr c290
            have h362 := h361.gr g300
            have h363 := h362.gr g310
            have h364 := h363.gr c355
            refine E.eff (i := 3) rfl rfl rfl (Y.slice1 (bs := (b21 :: b12 :: b4 :: bs)) (ev' (.agg (ansW m).arr) rfl rfl) h364) ?_
            rintro _ w365 ⟨s366, rfl, g367, hs368⟩
            have R369 := R357.gr g367
            have R370 := R358.gr g367
            refine ⟨R370, ?_⟩
            refine A.take (i := 5) rfl (by kernel_rfl) (by kernel_rfl) (by kernel_rfl) (fun _ _ _ h => h) R370 rfl rfl (fun _ _ => (X.assign (ev' (s366.val) rfl rfl))) ?_
            refine A.take (i := 6) rfl (by kernel_rfl) (by kernel_rfl) (by kernel_rfl) (fun _ _ _ h => h) R370 rfl rfl (fun _ _ => (X.assign (evc' (.bool true)))) ?_
            refine A.take (i := 7) rfl (by kernel_rfl) (by kernel_rfl) (by kernel_rfl) (fun _ _ _ h => h) R370 rfl rfl (fun _ _ => (X.assign (evc' (.int .i64 0)))) ?_
            refine A.done (by kernel_rfl) ?_
            refine then_n ?_
            refine W.fresh ?_
            intro r372 er373
            have s374 : r372 4 = .pointer (some ⟨b21, 0, none⟩) := (congrFun er373 4).trans s298
            have s375 : r372 5 = s366.val := (congrFun er373 5).trans rfl
            have s376 : r372 6 = .bool true := (congrFun er373 6).trans rfl
            have s377 : r372 7 = .int .i64 0 := (congrFun er373 7).trans rfl
            clear er373
            have h378 := hB356.gr g367
            have h379 := h276.gr g280
            have h380 := h379.st c290 (.head _)
            have h381 := h380.gr g300
            have h382 := h381.gr g310
            have h383 := h382.st c355 (.head _)
            have h384 := h383.gr g367
            have h385 := hs281.st c290 (.head _)
            have h386 := h385.gr g300
            have h387 := h386.gr g310
            have h388 := h387.st c355 (.head _)
            have h389 := h388.gr g367
            have pe390 : recvR t m = (({ t with received := (t.received ++ [m]) } : Trade), [(ansW m)], true, 0) := (by exact recv_4 ht.r.len k57 k218)
            have hT391 : Tr (b21 :: b12 :: b4 :: bs) w365 ({ T with r := s279 } : TV) ({ t with received := (t.received ++ [m]) } : Trade) := ⟨h384.next, h384.p, h389, h384.d⟩
            have hS392 : Sl (b21 :: b12 :: b4 :: bs) w365 s366 ([(ansW m)]) := hs368
            refine W.ret (retCTTT rfl rfl (show _ = (.pointer (some ⟨b21, 0, none⟩) : Value) from s374) (run_loadAt_row rt24 (row_blk_trade h378)) rfl (show _ = (s366.val : Value) from s375) rfl (show _ = (.bool true : Value) from s376) rfl (show _ = (.int .i64 0 : Value) from s377) ⟨({ T with r := s279 } : TV), s366, congrArg (fun (p : TakeT) => Value.tuple #[TV.val ({ T with r := s279 } : TV), SV.val s366, .bool p.2.2.1, .int .i64 p.2.2.2]) (Eq.symm pe390), by rw [pe390]; exact hT391.tl.tl.tl, by rw [pe390]; exact hS392.tl.tl.tl, R369⟩)
        · skip
          refine E.call (i := 2) rfl rfl rfl (X.callF go68 (args1 (ev' (.agg m.arr) rfl rfl))) (ansW_c m _) ?_
          rintro _ w393 ⟨rfl, g394⟩
          have R395 := R301.gr g394
          have R396 := R302.gr g394
          refine ⟨R396, ?_⟩
          refine A.two (i := 0) (j := 3) (by kernel_rfl) ?_ ?_
          · skip
            have h397 := hB291.gr g300
            have h398 := h397.gr g394
            refine E.val (i := 0) rfl rfl rfl (X.loadR (ev' (.pointer (some ⟨b21, 0, none⟩)) rfl s298) rt24 (row_blk_trade h398) rfl) ?_
            refine ⟨R396, ?_⟩
            refine A.two (i := 3) (j := 4) (by kernel_rfl) ?_ ?_
            · skip
              have h399 := h277.gr g280
              have h400 := h399.gr c290
              have h401 := h400.gr g300
              have h402 := h401.gr g394
              refine E.eff (i := 3) rfl rfl rfl (Y.slice1 (bs := (b21 :: b12 :: b4 :: bs)) (ev' (.agg (ansW m).arr) rfl rfl) h402) ?_
              rintro _ w403 ⟨s404, rfl, g405, hs406⟩
              have R407 := R395.gr g405
              have R408 := R396.gr g405
              refine ⟨R408, ?_⟩
              refine A.one (i := 4) (by kernel_rfl) ?_
              have h410 := h398.gr g405
              refine E.eff0 (i := 4) rfl rfl rfl (Y.storeW (ds := ({ T with r := s279 } : TV).arr) (ev' (.pointer (some ⟨b21, 0, none⟩)) rfl s298) (ev' (({ T with r := s279 } : TV).val) rfl rfl) h410 (n := 4) rfl sz24 rfl (TV.oneCell _) rfl) ?_
              rintro w411 ⟨c412, hB413⟩
              have R414 := R407.stN c412 l28
              have R415 := R408.stO c412 (.head _)
              refine ⟨R415, ?_⟩
              refine A.take (i := 5) rfl (by kernel_rfl) (by kernel_rfl) (by kernel_rfl) (fun _ _ _ h => h) R415 rfl rfl (fun _ _ => (X.assign (ev' (s404.val) rfl rfl))) ?_
              refine A.take (i := 6) rfl (by kernel_rfl) (by kernel_rfl) (by kernel_rfl) (fun _ _ _ h => h) R415 rfl rfl (fun _ _ => (X.assign (evc' (.bool true)))) ?_
              refine A.take (i := 7) rfl (by kernel_rfl) (by kernel_rfl) (by kernel_rfl) (fun _ _ _ h => h) R415 rfl rfl (fun _ _ => (X.assign (evc' (.int .i64 0)))) ?_
              refine A.done (by kernel_rfl) ?_
              refine then_n ?_
              refine W.fresh ?_
              intro r417 er418
              have s419 : r417 4 = .pointer (some ⟨b21, 0, none⟩) := (congrFun er418 4).trans s298
              have s420 : r417 5 = s404.val := (congrFun er418 5).trans rfl
              have s421 : r417 6 = .bool true := (congrFun er418 6).trans rfl
              have s422 : r417 7 = .int .i64 0 := (congrFun er418 7).trans rfl
              clear er418
              have h423 := h276.gr g280
              have h424 := h423.st c290 (.head _)
              have h425 := h424.gr g300
              have h426 := h425.gr g394
              have h427 := h426.gr g405
              have h428 := h427.st c412 (.head _)
              have h429 := hs281.st c290 (.head _)
              have h430 := h429.gr g300
              have h431 := h430.gr g394
              have h432 := h431.gr g405
              have h433 := h432.st c412 (.head _)
              have pe434 : recvR t m = (({ t with received := (t.received ++ [m]) } : Trade), [(ansW m)], true, 0) := (by exact recv_4 ht.r.len k57 k218)
              have hT435 : Tr (b21 :: b12 :: b4 :: bs) w411 ({ T with r := s279 } : TV) ({ t with received := (t.received ++ [m]) } : Trade) := ⟨h428.next, h428.p, h433, h428.d⟩
              have h437 := hs406.st c412 (.head _)
              have hS436 : Sl (b21 :: b12 :: b4 :: bs) w411 s404 ([(ansW m)]) := h437
              refine W.ret (retCTTT rfl rfl (show _ = (.pointer (some ⟨b21, 0, none⟩) : Value) from s419) (run_loadAt_row rt24 (row_blk_trade hB413)) rfl (show _ = (s404.val : Value) from s420) rfl (show _ = (.bool true : Value) from s421) rfl (show _ = (.int .i64 0 : Value) from s422) ⟨({ T with r := s279 } : TV), s404, congrArg (fun (p : TakeT) => Value.tuple #[TV.val ({ T with r := s279 } : TV), SV.val s404, .bool p.2.2.1, .int .i64 p.2.2.2]) (Eq.symm pe434), by rw [pe434]; exact hT435.tl.tl.tl, by rw [pe434]; exact hS436.tl.tl.tl, R414⟩)
            · skip
              refine E.eff0 (i := 4) rfl rfl rfl (Y.storeW (ds := ({ T with r := s279 } : TV).arr) (ev' (.pointer (some ⟨b21, 0, none⟩)) rfl s298) (ev' (({ T with r := s279 } : TV).val) rfl rfl) h398 (n := 4) rfl sz24 rfl (TV.oneCell _) rfl) ?_
              rintro w438 ⟨c439, hB440⟩
              have R441 := R395.stN c439 l28
              have R442 := R396.stO c439 (.head _)
              refine ⟨R442, ?_⟩
              refine A.one (i := 3) (by kernel_rfl) ?_
              have h444 := h277.gr g280
              have h445 := h444.gr c290
              have h446 := h445.gr g300
              have h447 := h446.gr g394
              have h448 := h447.gr c439
              refine E.eff (i := 3) rfl rfl rfl (Y.slice1 (bs := (b21 :: b12 :: b4 :: bs)) (ev' (.agg (ansW m).arr) rfl rfl) h448) ?_
              rintro _ w449 ⟨s450, rfl, g451, hs452⟩
              have R453 := R441.gr g451
              have R454 := R442.gr g451
              refine ⟨R454, ?_⟩
              refine A.take (i := 5) rfl (by kernel_rfl) (by kernel_rfl) (by kernel_rfl) (fun _ _ _ h => h) R454 rfl rfl (fun _ _ => (X.assign (ev' (s450.val) rfl rfl))) ?_
              refine A.take (i := 6) rfl (by kernel_rfl) (by kernel_rfl) (by kernel_rfl) (fun _ _ _ h => h) R454 rfl rfl (fun _ _ => (X.assign (evc' (.bool true)))) ?_
              refine A.take (i := 7) rfl (by kernel_rfl) (by kernel_rfl) (by kernel_rfl) (fun _ _ _ h => h) R454 rfl rfl (fun _ _ => (X.assign (evc' (.int .i64 0)))) ?_
              refine A.done (by kernel_rfl) ?_
              refine then_n ?_
              refine W.fresh ?_
              intro r456 er457
              have s458 : r456 4 = .pointer (some ⟨b21, 0, none⟩) := (congrFun er457 4).trans s298
              have s459 : r456 5 = s450.val := (congrFun er457 5).trans rfl
              have s460 : r456 6 = .bool true := (congrFun er457 6).trans rfl
              have s461 : r456 7 = .int .i64 0 := (congrFun er457 7).trans rfl
              clear er457
              have h462 := hB440.gr g451
              have h463 := h276.gr g280
              have h464 := h463.st c290 (.head _)
              have h465 := h464.gr g300
              have h466 := h465.gr g394
              have h467 := h466.st c439 (.head _)
              have h468 := h467.gr g451
              have h469 := hs281.st c290 (.head _)
              have h470 := h469.gr g300
              have h471 := h470.gr g394
              have h472 := h471.st c439 (.head _)
              have h473 := h472.gr g451
              have pe474 : recvR t m = (({ t with received := (t.received ++ [m]) } : Trade), [(ansW m)], true, 0) := (by exact recv_4 ht.r.len k57 k218)
              have hT475 : Tr (b21 :: b12 :: b4 :: bs) w449 ({ T with r := s279 } : TV) ({ t with received := (t.received ++ [m]) } : Trade) := ⟨h468.next, h468.p, h473, h468.d⟩
              have hS476 : Sl (b21 :: b12 :: b4 :: bs) w449 s450 ([(ansW m)]) := hs452
              refine W.ret (retCTTT rfl rfl (show _ = (.pointer (some ⟨b21, 0, none⟩) : Value) from s458) (run_loadAt_row rt24 (row_blk_trade h462)) rfl (show _ = (s450.val : Value) from s459) rfl (show _ = (.bool true : Value) from s460) rfl (show _ = (.int .i64 0 : Value) from s461) ⟨({ T with r := s279 } : TV), s450, congrArg (fun (p : TakeT) => Value.tuple #[TV.val ({ T with r := s279 } : TV), SV.val s450, .bool p.2.2.1, .int .i64 p.2.2.2]) (Eq.symm pe474), by rw [pe474]; exact hT475.tl.tl.tl, by rw [pe474]; exact hS476.tl.tl.tl, R453⟩)
          · skip
            have h477 := h277.gr g280
            have h478 := h477.gr c290
            have h479 := h478.gr g300
            have h480 := h479.gr g394
            refine E.eff (i := 3) rfl rfl rfl (Y.slice1 (bs := (b21 :: b12 :: b4 :: bs)) (ev' (.agg (ansW m).arr) rfl rfl) h480) ?_
            rintro _ w481 ⟨s482, rfl, g483, hs484⟩
            have R485 := R395.gr g483
            have R486 := R396.gr g483
            refine ⟨R486, ?_⟩
            refine A.one (i := 0) (by kernel_rfl) ?_
            have h488 := hB291.gr g300
            have h489 := h488.gr g394
            have h490 := h489.gr g483
            refine E.val (i := 0) rfl rfl rfl (X.loadR (ev' (.pointer (some ⟨b21, 0, none⟩)) rfl s298) rt24 (row_blk_trade h490) rfl) ?_
            refine ⟨R486, ?_⟩
            refine A.one (i := 4) (by kernel_rfl) ?_
            refine E.eff0 (i := 4) rfl rfl rfl (Y.storeW (ds := ({ T with r := s279 } : TV).arr) (ev' (.pointer (some ⟨b21, 0, none⟩)) rfl s298) (ev' (({ T with r := s279 } : TV).val) rfl rfl) h490 (n := 4) rfl sz24 rfl (TV.oneCell _) rfl) ?_
            rintro w491 ⟨c492, hB493⟩
            have R494 := R485.stN c492 l28
            have R495 := R486.stO c492 (.head _)
            refine ⟨R495, ?_⟩
            refine A.take (i := 5) rfl (by kernel_rfl) (by kernel_rfl) (by kernel_rfl) (fun _ _ _ h => h) R495 rfl rfl (fun _ _ => (X.assign (ev' (s482.val) rfl rfl))) ?_
            refine A.take (i := 6) rfl (by kernel_rfl) (by kernel_rfl) (by kernel_rfl) (fun _ _ _ h => h) R495 rfl rfl (fun _ _ => (X.assign (evc' (.bool true)))) ?_
            refine A.take (i := 7) rfl (by kernel_rfl) (by kernel_rfl) (by kernel_rfl) (fun _ _ _ h => h) R495 rfl rfl (fun _ _ => (X.assign (evc' (.int .i64 0)))) ?_
            refine A.done (by kernel_rfl) ?_
            refine then_n ?_
            refine W.fresh ?_
            intro r497 er498
            have s499 : r497 4 = .pointer (some ⟨b21, 0, none⟩) := (congrFun er498 4).trans s298
            have s500 : r497 5 = s482.val := (congrFun er498 5).trans rfl
            have s501 : r497 6 = .bool true := (congrFun er498 6).trans rfl
            have s502 : r497 7 = .int .i64 0 := (congrFun er498 7).trans rfl
            clear er498
            have h503 := h276.gr g280
            have h504 := h503.st c290 (.head _)
            have h505 := h504.gr g300
            have h506 := h505.gr g394
            have h507 := h506.gr g483
            have h508 := h507.st c492 (.head _)
            have h509 := hs281.st c290 (.head _)
            have h510 := h509.gr g300
            have h511 := h510.gr g394
            have h512 := h511.gr g483
            have h513 := h512.st c492 (.head _)
            have pe514 : recvR t m = (({ t with received := (t.received ++ [m]) } : Trade), [(ansW m)], true, 0) := (by exact recv_4 ht.r.len k57 k218)
            have hT515 : Tr (b21 :: b12 :: b4 :: bs) w491 ({ T with r := s279 } : TV) ({ t with received := (t.received ++ [m]) } : Trade) := ⟨h508.next, h508.p, h513, h508.d⟩
            have h517 := hs484.st c492 (.head _)
            have hS516 : Sl (b21 :: b12 :: b4 :: bs) w491 s482 ([(ansW m)]) := h517
            refine W.ret (retCTTT rfl rfl (show _ = (.pointer (some ⟨b21, 0, none⟩) : Value) from s499) (run_loadAt_row rt24 (row_blk_trade hB493)) rfl (show _ = (s482.val : Value) from s500) rfl (show _ = (.bool true : Value) from s501) rfl (show _ = (.int .i64 0 : Value) from s502) ⟨({ T with r := s279 } : TV), s482, congrArg (fun (p : TakeT) => Value.tuple #[TV.val ({ T with r := s279 } : TV), SV.val s482, .bool p.2.2.1, .int .i64 p.2.2.2]) (Eq.symm pe514), by rw [pe514]; exact hT515.tl.tl.tl, by rw [pe514]; exact hS516.tl.tl.tl, R494⟩)
      · skip
        have h518 := hl.new g5 hB6.lt
        have h519 := h518.new g13 hB14.lt
        have h520 := h519.new g22 hB23.lt
        have h521 := h520.gr g42
        have h522 := h521.gr c236
        have h523 := h522.gr g246
        refine E.eff (i := 4) rfl rfl rfl (Y.slice1 (bs := (b21 :: b12 :: b4 :: bs)) (ev' (.agg m.arr) rfl rfl) h523) ?_
        rintro _ w524 ⟨s525, rfl, g526, hs527⟩
        have R528 := R247.gr g526
        have R529 := R248.gr g526
        refine ⟨R529, ?_⟩
        refine A.one (i := 2) (by kernel_rfl) ?_
        have h531 := h40.gr g42
        have h532 := h531.st c236 (.head _)
        have h533 := h532.gr g246
        have h534 := h533.gr g526
        refine E.call (i := 2) rfl rfl rfl (X.callF go38 (args1 (ev' (T.r.val) rfl rfl))) (clip_c _ h534.r) ?_
        rintro _ w535 ⟨rfl, g536⟩
        have R537 := R528.gr g536
        have R538 := R529.gr g536
        refine ⟨R538, ?_⟩
        refine A.one (i := 5) (by kernel_rfl) ?_
        have h539 := h534.gr g536
        have h540 := hs527.gr g536
        have h541 := h523.gr g526
        have h542 := h541.gr g536
        refine E.eff (i := 5) rfl rfl rfl (Y.append (ev' ((clip T.r).val) rfl rfl) (ev' (s525.val) rfl rfl) (Sl.clip h539.r) h540 rfl (by simp) hlen h542) ?_
        rintro _ w543 ⟨s544, rfl, g545, hs546⟩
        have R547 := R537.gr g545
        have R548 := R538.gr g545
        refine ⟨R548, ?_⟩
        refine A.take (i := 6) rfl (by kernel_rfl) (by kernel_rfl) (by kernel_rfl) (fun _ _ _ h => h) R548 rfl rfl (fun _ _ => (X.fieldAddr (ev' (.pointer (some ⟨b21, 0, none⟩)) rfl s244) fo24_2 (b := ⟨b21, 2, none⟩) (Addr.add_lit _ _ _))) ?_
        refine A.one (i := 7) (by kernel_rfl) ?_
        have h550 := hB237.gr g246
        have h551 := h550.gr g526
        have h552 := h551.gr g536
        have h553 := h552.gr g545
        refine E.eff0 (i := 7) rfl rfl rfl (Y.storeC (ds := ({ T with r := s544 } : TV).arr) (ev' (.pointer (some ⟨b21, 2, none⟩)) rfl rfl) (ev' (s544.val) rfl rfl) h553 (show 2 < 4 from by decide) sz22 rfl rfl rfl) ?_
        rintro w554 ⟨c555, hB556⟩
        have R557 := R547.stN c555 l28
        have R558 := R548.stO c555 (.head _)
        refine ⟨R558, ?_⟩
        refine A.done (by kernel_rfl) ?_
        refine then_n ?_
        refine W.fresh ?_
        intro r560 er561
        have s562 : r560 3 = .pointer (some ⟨b12, 0, none⟩) := (congrFun er561 3).trans s243
        have s563 : r560 4 = .pointer (some ⟨b21, 0, none⟩) := (congrFun er561 4).trans s244
        clear er561
        refine W.seq ?_
        refine A.begin' (cs := [b21]) rfl ?_
        intro w564 g565
        have R566 := R557.gr g565
        have R567 : Chg [b21] w564 w564 := Chg.of_refl _ _
        have h568 := h253.gr g526
        have h569 := h568.gr g536
        have h570 := h569.gr g545
        have h571 := h570.st c555 ne27
        have h572 := h571.gr g565
        refine A.take (i := 1) rfl (by kernel_rfl) (by kernel_rfl) (by kernel_rfl) (fun _ _ _ h => h) R567 rfl rfl (fun _ hw => (X.loadR (ev' (.pointer (some ⟨b12, 0, none⟩)) rfl s562) rt30 (row_blk_msg (h572.chg hw (by simp [ne27]))) rfl)) ?_
        refine A.two (i := 0) (j := 2) (by kernel_rfl) ?_ ?_
        · skip
          have h573 := hB556.gr g565
          refine E.val (i := 0) rfl rfl rfl (X.loadR (ev' (.pointer (some ⟨b21, 0, none⟩)) rfl s563) rt24 (row_blk_trade h573) rfl) ?_
          refine ⟨R567, ?_⟩
          refine A.one (i := 2) (by kernel_rfl) ?_
          refine E.call (i := 2) rfl rfl rfl (X.callF go68 (args1 (ev' (.agg m.arr) rfl rfl))) (ansW_c m _) ?_
          rintro _ w574 ⟨rfl, g575⟩
          have R576 := R566.gr g575
          have R577 := R567.gr g575
          refine ⟨R577, ?_⟩
          refine A.two (i := 3) (j := 4) (by kernel_rfl) ?_ ?_
          · skip
            have h578 := h542.gr g545
            have h579 := h578.gr c555
            have h580 := h579.gr g565
            have h581 := h580.gr g575
            refine E.eff (i := 3) rfl rfl rfl (Y.slice1 (bs := (b21 :: b12 :: b4 :: bs)) (ev' (.agg (ansW m).arr) rfl rfl) h581) ?_
            rintro _ w582 ⟨s583, rfl, g584, hs585⟩
            have R586 := R576.gr g584
            have R587 := R577.gr g584
            refine ⟨R587, ?_⟩
            refine A.one (i := 4) (by kernel_rfl) ?_
            have h589 := h573.gr g575
            have h590 := h589.gr g584
            refine E.eff0 (i := 4) rfl rfl rfl (Y.storeW (ds := ({ T with r := s544 } : TV).arr) (ev' (.pointer (some ⟨b21, 0, none⟩)) rfl s563) (ev' (({ T with r := s544 } : TV).val) rfl rfl) h590 (n := 4) rfl sz24 rfl (TV.oneCell _) rfl) ?_
            rintro w591 ⟨c592, hB593⟩
            have R594 := R586.stN c592 l28
            have R595 := R587.stO c592 (.head _)
            refine ⟨R595, ?_⟩
            refine A.take (i := 5) rfl (by kernel_rfl) (by kernel_rfl) (by kernel_rfl) (fun _ _ _ h => h) R595 rfl rfl (fun _ _ => (X.assign (ev' (s583.val) rfl rfl))) ?_
            refine A.take (i := 6) rfl (by kernel_rfl) (by kernel_rfl) (by kernel_rfl) (fun _ _ _ h => h) R595 rfl rfl (fun _ _ => (X.assign (evc' (.bool true)))) ?_
            refine A.take (i := 7) rfl (by kernel_rfl) (by kernel_rfl) (by kernel_rfl) (fun _ _ _ h => h) R595 rfl rfl (fun _ _ => (X.assign (evc' (.int .i64 0)))) ?_
            refine A.done (by kernel_rfl) ?_
            refine then_n ?_
            refine W.fresh ?_
            intro r597 er598
            have s599 : r597 4 = .pointer (some ⟨b21, 0, none⟩) := (congrFun er598 4).trans s563
            have s600 : r597 5 = s583.val := (congrFun er598 5).trans rfl
            have s601 : r597 6 = .bool true := (congrFun er598 6).trans rfl
            have s602 : r597 7 = .int .i64 0 := (congrFun er598 7).trans rfl
            clear er598
            have h603 := h539.gr g545
            have h604 := h603.st c555 (.head _)
            have h605 := h604.gr g565
            have h606 := h605.gr g575
            have h607 := h606.gr g584
            have h608 := h607.st c592 (.head _)
            have h609 := hs546.st c555 (.head _)
            have h610 := h609.gr g565
            have h611 := h610.gr g575
            have h612 := h611.gr g584
            have h613 := h612.st c592 (.head _)
            have pe614 : recvR t m = (({ t with received := (t.received ++ [m]) } : Trade), [(ansW m)], true, 0) := (by exact recv_4 ht.r.len k57 k218)
            have hT615 : Tr (b21 :: b12 :: b4 :: bs) w591 ({ T with r := s544 } : TV) ({ t with received := (t.received ++ [m]) } : Trade) := ⟨h608.next, h608.p, h613, h608.d⟩
            have h617 := hs585.st c592 (.head _)
            have hS616 : Sl (b21 :: b12 :: b4 :: bs) w591 s583 ([(ansW m)]) := h617
            refine W.ret (retCTTT rfl rfl (show _ = (.pointer (some ⟨b21, 0, none⟩) : Value) from s599) (run_loadAt_row rt24 (row_blk_trade hB593)) rfl (show _ = (s583.val : Value) from s600) rfl (show _ = (.bool true : Value) from s601) rfl (show _ = (.int .i64 0 : Value) from s602) ⟨({ T with r := s544 } : TV), s583, congrArg (fun (p : TakeT) => Value.tuple #[TV.val ({ T with r := s544 } : TV), SV.val s583, .bool p.2.2.1, .int .i64 p.2.2.2]) (Eq.symm pe614), by rw [pe614]; exact hT615.tl.tl.tl, by rw [pe614]; exact hS616.tl.tl.tl, R594⟩)
          · skip
            have h618 := h573.gr g575
            refine E.eff0 (i := 4) rfl rfl rfl (Y.storeW (ds := ({ T with r := s544 } : TV).arr) (ev' (.pointer (some ⟨b21, 0, none⟩)) rfl s563) (ev' (({ T with r := s544 } : TV).val) rfl rfl) h618 (n := 4) rfl sz24 rfl (TV.oneCell _) rfl) ?_
            rintro w619 ⟨c620, hB621⟩
            have R622 := R576.stN c620 l28
            have R623 := R577.stO c620 (.head _)
            refine ⟨R623, ?_⟩
            refine A.one (i := 3) (by kernel_rfl) ?_
            have h625 := h542.gr g545
            have h626 := h625.gr c555
            have h627 := h626.gr g565
            have h628 := h627.gr g575
            have h629 := h628.gr c620
            refine E.eff (i := 3) rfl rfl rfl (Y.slice1 (bs := (b21 :: b12 :: b4 :: bs)) (ev' (.agg (ansW m).arr) rfl rfl) h629) ?_
            rintro _ w630 ⟨s631, rfl, g632, hs633⟩
            have R634 := R622.gr g632
            have R635 := R623.gr g632
            refine ⟨R635, ?_⟩
            refine A.take (i := 5) rfl (by kernel_rfl) (by kernel_rfl) (by kernel_rfl) (fun _ _ _ h => h) R635 rfl rfl (fun _ _ => (X.assign (ev' (s631.val) rfl rfl))) ?_
            refine A.take (i := 6) rfl (by kernel_rfl) (by kernel_rfl) (by kernel_rfl) (fun _ _ _ h => h) R635 rfl rfl (fun _ _ => (X.assign (evc' (.bool true)))) ?_
            refine A.take (i := 7) rfl (by kernel_rfl) (by kernel_rfl) (by kernel_rfl) (fun _ _ _ h => h) R635 rfl rfl (fun _ _ => (X.assign (evc' (.int .i64 0)))) ?_
            refine A.done (by kernel_rfl) ?_
            refine then_n ?_
            refine W.fresh ?_
            intro r637 er638
            have s639 : r637 4 = .pointer (some ⟨b21, 0, none⟩) := (congrFun er638 4).trans s563
            have s640 : r637 5 = s631.val := (congrFun er638 5).trans rfl
            have s641 : r637 6 = .bool true := (congrFun er638 6).trans rfl
            have s642 : r637 7 = .int .i64 0 := (congrFun er638 7).trans rfl
            clear er638
            have h643 := hB621.gr g632
            have h644 := h539.gr g545
            have h645 := h644.st c555 (.head _)
            have h646 := h645.gr g565
            have h647 := h646.gr g575
            have h648 := h647.st c620 (.head _)
            have h649 := h648.gr g632
            have h650 := hs546.st c555 (.head _)
            have h651 := h650.gr g565
            have h652 := h651.gr g575
            have h653 := h652.st c620 (.head _)
            have h654 := h653.gr g632
            have pe655 : recvR t m = (({ t with received := (t.received ++ [m]) } : Trade), [(ansW m)], true, 0) := (by exact recv_4 ht.r.len k57 k218)
            have hT656 : Tr (b21 :: b12 :: b4 :: bs) w630 ({ T with r := s544 } : TV) ({ t with received := (t.received ++ [m]) } : Trade) := ⟨h649.next, h649.p, h654, h649.d⟩
            have hS657 : Sl (b21 :: b12 :: b4 :: bs) w630 s631 ([(ansW m)]) := hs633
            refine W.ret (retCTTT rfl rfl (show _ = (.pointer (some ⟨b21, 0, none⟩) : Value) from s639) (run_loadAt_row rt24 (row_blk_trade h643)) rfl (show _ = (s631.val : Value) from s640) rfl (show _ = (.bool true : Value) from s641) rfl (show _ = (.int .i64 0 : Value) from s642) ⟨({ T with r := s544 } : TV), s631, congrArg (fun (p : TakeT) => Value.tuple #[TV.val ({ T with r := s544 } : TV), SV.val s631, .bool p.2.2.1, .int .i64 p.2.2.2]) (Eq.symm pe655), by rw [pe655]; exact hT656.tl.tl.tl, by rw [pe655]; exact hS657.tl.tl.tl, R634⟩)
        · skip
          refine E.call (i := 2) rfl rfl rfl (X.callF go68 (args1 (ev' (.agg m.arr) rfl rfl))) (ansW_c m _) ?_
          rintro _ w658 ⟨rfl, g659⟩
          have R660 := R566.gr g659
          have R661 := R567.gr g659
          refine ⟨R661, ?_⟩
          refine A.two (i := 0) (j := 3) (by kernel_rfl) ?_ ?_
          · skip
            have h662 := hB556.gr g565
            have h663 := h662.gr g659
            refine E.val (i := 0) rfl rfl rfl (X.loadR (ev' (.pointer (some ⟨b21, 0, none⟩)) rfl s563) rt24 (row_blk_trade h663) rfl) ?_
            refine ⟨R661, ?_⟩
            refine A.two (i := 3) (j := 4) (by kernel_rfl) ?_ ?_
            · skip
              have h664 := h542.gr g545
              have h665 := h664.gr c555
              have h666 := h665.gr g565
              have h667 := h666.gr g659
              refine E.eff (i := 3) rfl rfl rfl (Y.slice1 (bs := (b21 :: b12 :: b4 :: bs)) (ev' (.agg (ansW m).arr) rfl rfl) h667) ?_
              rintro _ w668 ⟨s669, rfl, g670, hs671⟩
              have R672 := R660.gr g670
              have R673 := R661.gr g670
              refine ⟨R673, ?_⟩
              refine A.one (i := 4) (by kernel_rfl) ?_
              have h675 := h663.gr g670
              refine E.eff0 (i := 4) rfl rfl rfl (Y.storeW (ds := ({ T with r := s544 } : TV).arr) (ev' (.pointer (some ⟨b21, 0, none⟩)) rfl s563) (ev' (({ T with r := s544 } : TV).val) rfl rfl) h675 (n := 4) rfl sz24 rfl (TV.oneCell _) rfl) ?_
              rintro w676 ⟨c677, hB678⟩
              have R679 := R672.stN c677 l28
              have R680 := R673.stO c677 (.head _)
              refine ⟨R680, ?_⟩
              refine A.take (i := 5) rfl (by kernel_rfl) (by kernel_rfl) (by kernel_rfl) (fun _ _ _ h => h) R680 rfl rfl (fun _ _ => (X.assign (ev' (s669.val) rfl rfl))) ?_
              refine A.take (i := 6) rfl (by kernel_rfl) (by kernel_rfl) (by kernel_rfl) (fun _ _ _ h => h) R680 rfl rfl (fun _ _ => (X.assign (evc' (.bool true)))) ?_
              refine A.take (i := 7) rfl (by kernel_rfl) (by kernel_rfl) (by kernel_rfl) (fun _ _ _ h => h) R680 rfl rfl (fun _ _ => (X.assign (evc' (.int .i64 0)))) ?_
              refine A.done (by kernel_rfl) ?_
              refine then_n ?_
              refine W.fresh ?_
              intro r682 er683
              have s684 : r682 4 = .pointer (some ⟨b21, 0, none⟩) := (congrFun er683 4).trans s563
              have s685 : r682 5 = s669.val := (congrFun er683 5).trans rfl
              have s686 : r682 6 = .bool true := (congrFun er683 6).trans rfl
              have s687 : r682 7 = .int .i64 0 := (congrFun er683 7).trans rfl
              clear er683
              have h688 := h539.gr g545
              have h689 := h688.st c555 (.head _)
              have h690 := h689.gr g565
              have h691 := h690.gr g659
              have h692 := h691.gr g670
              have h693 := h692.st c677 (.head _)
              have h694 := hs546.st c555 (.head _)
              have h695 := h694.gr g565
              have h696 := h695.gr g659
              have h697 := h696.gr g670
              have h698 := h697.st c677 (.head _)
              have pe699 : recvR t m = (({ t with received := (t.received ++ [m]) } : Trade), [(ansW m)], true, 0) := (by exact recv_4 ht.r.len k57 k218)
              have hT700 : Tr (b21 :: b12 :: b4 :: bs) w676 ({ T with r := s544 } : TV) ({ t with received := (t.received ++ [m]) } : Trade) := ⟨h693.next, h693.p, h698, h693.d⟩
              have h702 := hs671.st c677 (.head _)
              have hS701 : Sl (b21 :: b12 :: b4 :: bs) w676 s669 ([(ansW m)]) := h702
              refine W.ret (retCTTT rfl rfl (show _ = (.pointer (some ⟨b21, 0, none⟩) : Value) from s684) (run_loadAt_row rt24 (row_blk_trade hB678)) rfl (show _ = (s669.val : Value) from s685) rfl (show _ = (.bool true : Value) from s686) rfl (show _ = (.int .i64 0 : Value) from s687) ⟨({ T with r := s544 } : TV), s669, congrArg (fun (p : TakeT) => Value.tuple #[TV.val ({ T with r := s544 } : TV), SV.val s669, .bool p.2.2.1, .int .i64 p.2.2.2]) (Eq.symm pe699), by rw [pe699]; exact hT700.tl.tl.tl, by rw [pe699]; exact hS701.tl.tl.tl, R679⟩)
            · skip
              refine E.eff0 (i := 4) rfl rfl rfl (Y.storeW (ds := ({ T with r := s544 } : TV).arr) (ev' (.pointer (some ⟨b21, 0, none⟩)) rfl s563) (ev' (({ T with r := s544 } : TV).val) rfl rfl) h663 (n := 4) rfl sz24 rfl (TV.oneCell _) rfl) ?_
              rintro w703 ⟨c704, hB705⟩
              have R706 := R660.stN c704 l28
              have R707 := R661.stO c704 (.head _)
              refine ⟨R707, ?_⟩
              refine A.one (i := 3) (by kernel_rfl) ?_
              have h709 := h542.gr g545
              have h710 := h709.gr c555
              have h711 := h710.gr g565
              have h712 := h711.gr g659
              have h713 := h712.gr c704
              refine E.eff (i := 3) rfl rfl rfl (Y.slice1 (bs := (b21 :: b12 :: b4 :: bs)) (ev' (.agg (ansW m).arr) rfl rfl) h713) ?_
              rintro _ w714 ⟨s715, rfl, g716, hs717⟩
              have R718 := R706.gr g716
              have R719 := R707.gr g716
              refine ⟨R719, ?_⟩
              refine A.take (i := 5) rfl (by kernel_rfl) (by kernel_rfl) (by kernel_rfl) (fun _ _ _ h => h) R719 rfl rfl (fun _ _ => (X.assign (ev' (s715.val) rfl rfl))) ?_
              refine A.take (i := 6) rfl (by kernel_rfl) (by kernel_rfl) (by kernel_rfl) (fun _ _ _ h => h) R719 rfl rfl (fun _ _ => (X.assign (evc' (.bool true)))) ?_
              refine A.take (i := 7) rfl (by kernel_rfl) (by kernel_rfl) (by kernel_rfl) (fun _ _ _ h => h) R719 rfl rfl (fun _ _ => (X.assign (evc' (.int .i64 0)))) ?_
              refine A.done (by kernel_rfl) ?_
              refine then_n ?_
              refine W.fresh ?_
              intro r721 er722
              have s723 : r721 4 = .pointer (some ⟨b21, 0, none⟩) := (congrFun er722 4).trans s563
              have s724 : r721 5 = s715.val := (congrFun er722 5).trans rfl
              have s725 : r721 6 = .bool true := (congrFun er722 6).trans rfl
              have s726 : r721 7 = .int .i64 0 := (congrFun er722 7).trans rfl
              clear er722
              have h727 := hB705.gr g716
              have h728 := h539.gr g545
              have h729 := h728.st c555 (.head _)
              have h730 := h729.gr g565
              have h731 := h730.gr g659
              have h732 := h731.st c704 (.head _)
              have h733 := h732.gr g716
              have h734 := hs546.st c555 (.head _)
              have h735 := h734.gr g565
              have h736 := h735.gr g659
              have h737 := h736.st c704 (.head _)
              have h738 := h737.gr g716
              have pe739 : recvR t m = (({ t with received := (t.received ++ [m]) } : Trade), [(ansW m)], true, 0) := (by exact recv_4 ht.r.len k57 k218)
              have hT740 : Tr (b21 :: b12 :: b4 :: bs) w714 ({ T with r := s544 } : TV) ({ t with received := (t.received ++ [m]) } : Trade) := ⟨h733.next, h733.p, h738, h733.d⟩
              have hS741 : Sl (b21 :: b12 :: b4 :: bs) w714 s715 ([(ansW m)]) := hs717
              refine W.ret (retCTTT rfl rfl (show _ = (.pointer (some ⟨b21, 0, none⟩) : Value) from s723) (run_loadAt_row rt24 (row_blk_trade h727)) rfl (show _ = (s715.val : Value) from s724) rfl (show _ = (.bool true : Value) from s725) rfl (show _ = (.int .i64 0 : Value) from s726) ⟨({ T with r := s544 } : TV), s715, congrArg (fun (p : TakeT) => Value.tuple #[TV.val ({ T with r := s544 } : TV), SV.val s715, .bool p.2.2.1, .int .i64 p.2.2.2]) (Eq.symm pe739), by rw [pe739]; exact hT740.tl.tl.tl, by rw [pe739]; exact hS741.tl.tl.tl, R718⟩)
          · skip
            have h742 := h542.gr g545
            have h743 := h742.gr c555
            have h744 := h743.gr g565
            have h745 := h744.gr g659
            refine E.eff (i := 3) rfl rfl rfl (Y.slice1 (bs := (b21 :: b12 :: b4 :: bs)) (ev' (.agg (ansW m).arr) rfl rfl) h745) ?_
            rintro _ w746 ⟨s747, rfl, g748, hs749⟩
            have R750 := R660.gr g748
            have R751 := R661.gr g748
            refine ⟨R751, ?_⟩
            refine A.one (i := 0) (by kernel_rfl) ?_
            have h753 := hB556.gr g565
            have h754 := h753.gr g659
            have h755 := h754.gr g748
            refine E.val (i := 0) rfl rfl rfl (X.loadR (ev' (.pointer (some ⟨b21, 0, none⟩)) rfl s563) rt24 (row_blk_trade h755) rfl) ?_
            refine ⟨R751, ?_⟩
            refine A.one (i := 4) (by kernel_rfl) ?_
            refine E.eff0 (i := 4) rfl rfl rfl (Y.storeW (ds := ({ T with r := s544 } : TV).arr) (ev' (.pointer (some ⟨b21, 0, none⟩)) rfl s563) (ev' (({ T with r := s544 } : TV).val) rfl rfl) h755 (n := 4) rfl sz24 rfl (TV.oneCell _) rfl) ?_
            rintro w756 ⟨c757, hB758⟩
            have R759 := R750.stN c757 l28
            have R760 := R751.stO c757 (.head _)
            refine ⟨R760, ?_⟩
            refine A.take (i := 5) rfl (by kernel_rfl) (by kernel_rfl) (by kernel_rfl) (fun _ _ _ h => h) R760 rfl rfl (fun _ _ => (X.assign (ev' (s747.val) rfl rfl))) ?_
            refine A.take (i := 6) rfl (by kernel_rfl) (by kernel_rfl) (by kernel_rfl) (fun _ _ _ h => h) R760 rfl rfl (fun _ _ => (X.assign (evc' (.bool true)))) ?_
            refine A.take (i := 7) rfl (by kernel_rfl) (by kernel_rfl) (by kernel_rfl) (fun _ _ _ h => h) R760 rfl rfl (fun _ _ => (X.assign (evc' (.int .i64 0)))) ?_
            refine A.done (by kernel_rfl) ?_
            refine then_n ?_
            refine W.fresh ?_
            intro r762 er763
            have s764 : r762 4 = .pointer (some ⟨b21, 0, none⟩) := (congrFun er763 4).trans s563
            have s765 : r762 5 = s747.val := (congrFun er763 5).trans rfl
            have s766 : r762 6 = .bool true := (congrFun er763 6).trans rfl
            have s767 : r762 7 = .int .i64 0 := (congrFun er763 7).trans rfl
            clear er763
            have h768 := h539.gr g545
            have h769 := h768.st c555 (.head _)
            have h770 := h769.gr g565
            have h771 := h770.gr g659
            have h772 := h771.gr g748
            have h773 := h772.st c757 (.head _)
            have h774 := hs546.st c555 (.head _)
            have h775 := h774.gr g565
            have h776 := h775.gr g659
            have h777 := h776.gr g748
            have h778 := h777.st c757 (.head _)
            have pe779 : recvR t m = (({ t with received := (t.received ++ [m]) } : Trade), [(ansW m)], true, 0) := (by exact recv_4 ht.r.len k57 k218)
            have hT780 : Tr (b21 :: b12 :: b4 :: bs) w756 ({ T with r := s544 } : TV) ({ t with received := (t.received ++ [m]) } : Trade) := ⟨h773.next, h773.p, h778, h773.d⟩
            have h782 := hs749.st c757 (.head _)
            have hS781 : Sl (b21 :: b12 :: b4 :: bs) w756 s747 ([(ansW m)]) := h782
            refine W.ret (retCTTT rfl rfl (show _ = (.pointer (some ⟨b21, 0, none⟩) : Value) from s764) (run_loadAt_row rt24 (row_blk_trade hB758)) rfl (show _ = (s747.val : Value) from s765) rfl (show _ = (.bool true : Value) from s766) rfl (show _ = (.int .i64 0 : Value) from s767) ⟨({ T with r := s544 } : TV), s747, congrArg (fun (p : TakeT) => Value.tuple #[TV.val ({ T with r := s544 } : TV), SV.val s747, .bool p.2.2.1, .int .i64 p.2.2.2]) (Eq.symm pe779), by rw [pe779]; exact hT780.tl.tl.tl, by rw [pe779]; exact hS781.tl.tl.tl, R759⟩)

theorem ttake_c {bs : List Nat} {T : TV} {t : Trade} (m : Msg) (id : Int) (w : World) (ht : Tr bs w T t) (hl : LtAll bs w) : Calls Try.prog 22 #[T.val, .agg m.arr, .int .i64 id] w (Ret fun v w' => ∃ (T' : TV) (s' : SV), v = .tuple #[T'.val, s'.val, .bool (takeR t m id).2.2.1, .int .i64 (takeR t m id).2.2.2] ∧ Tr bs w' T' (takeR t m id).1 ∧ Sl bs w' s' (takeR t m id).2.1 ∧ Grow w w') := by
  refine enter (N := 59) Try.func22 rfl Try.ntmps22 rfl ?_
  intro ρ hρ
  have a0 : ρ 0 = T.val := hρ 0 _ rfl
  have a1 : ρ 1 = .agg m.arr := hρ 1 _ rfl
  have a2 : ρ 2 = .int .i64 id := hρ 2 _ rfl
  clear hρ
  have R0 : Grow w w := Chg.refl w
  refine W.seq ?_
  refine W.reg ?_
  refine W.eff rfl rfl (Y.box (cs := T.arr) (ev' (T.val) rfl a0) rfl) ?_
  rintro _ w3 ⟨b4, rfl, g5, hB6, lt7⟩
  have l8 := Nat.le_trans R0.size lt7
  have R9 := R0.gr g5
  refine W.eff rfl rfl (Y.box (cs := m.arr) (ev' (.agg m.arr) rfl a1) rfl) ?_
  rintro _ w11 ⟨b12, rfl, g13, hB14, lt15⟩
  have ne16 := hB6.ne lt15
  have l17 := Nat.le_trans R9.size lt15
  have R18 := R9.gr g13
  refine W.eff rfl rfl (Y.alloc (cs := TV.zero.arr) zero24 rfl) ?_
  rintro _ w20 ⟨b21, rfl, g22, hB23, lt24⟩
  have h25 := hB6.gr g13
  have ne26 := h25.ne lt24
  have ne27 := hB14.ne lt24
  have l28 := Nat.le_trans R18.size lt24
  have R29 := R18.gr g22
  refine W.val rfl rfl (X.assign (evc' (SV.nil.val))) ?_
  refine W.val rfl rfl (X.assign (evc' (.bool false))) ?_
  refine W.val rfl rfl (X.assign (evc' (.int .i64 0))) ?_
  refine W.nil ?_
  refine then_n ?_
  refine W.fresh ?_
  intro r31 er32
  have s33 : r31 2 = .int .i64 id := (congrFun er32 2).trans a2
  have s34 : r31 3 = .pointer (some ⟨b4, 0, none⟩) := (congrFun er32 3).trans rfl
  have s35 : r31 4 = .pointer (some ⟨b12, 0, none⟩) := (congrFun er32 4).trans rfl
  have s36 : r31 6 = .pointer (some ⟨b21, 0, none⟩) := (congrFun er32 6).trans rfl
  clear er32
  refine W.seq ?_
  refine W.seq ?_
  refine W.reg ?_
  have h37 := h25.gr g22
  refine W.val rfl rfl (X.loadR (ev' (.pointer (some ⟨b4, 0, none⟩)) rfl s34) rt24 (row_blk_trade h37) rfl) ?_
  refine W.val rfl rfl (X.move (ev' (.int .i64 id) rfl s33)) ?_
  have h38 := (ht.ext lt7).gr g5
  have h39 := (h38.ext lt15).gr g13
  have h40 := (h39.ext lt24).gr g22
  refine W.call rfl rfl (X.callF go16 (args2 (ev' (T.val) rfl rfl) (ev' (.int .i64 id) rfl rfl))) (tcheck_c id _ h40) ?_
  rintro _ w41 ⟨rfl, g42⟩
  have R43 := R29.gr g42
  refine W.val rfl rfl (X.assign (ev' (.int .i64 (chk t id)) rfl rfl)) ?_
  refine W.nil ?_
  refine then_n ?_
  refine W.fresh ?_
  intro r44 er45
  have s46 : r44 2 = .int .i64 id := (congrFun er45 2).trans s33
  have s47 : r44 3 = .pointer (some ⟨b4, 0, none⟩) := (congrFun er45 3).trans s34
  have s48 : r44 4 = .pointer (some ⟨b12, 0, none⟩) := (congrFun er45 4).trans s35
  have s49 : r44 6 = .pointer (some ⟨b21, 0, none⟩) := (congrFun er45 6).trans s36
  have s50 : r44 10 = .int .i64 (chk t id) := (congrFun er45 10).trans rfl
  clear er45
  refine W.seq ?_
  refine W.reg ?_
  refine W.val rfl rfl (X.move (ev' (.int .i64 (chk t id)) rfl s50)) ?_
  refine W.val rfl rfl (X.neq (ev' (.int .i64 (chk t id)) rfl rfl) (evc' (.int .i64 0))) ?_
  refine W.nil ?_
  refine then_n ?_
  refine W.fresh ?_
  intro r51 er52
  have s53 : r51 2 = .int .i64 id := (congrFun er52 2).trans s46
  have s54 : r51 3 = .pointer (some ⟨b4, 0, none⟩) := (congrFun er52 3).trans s47
  have s55 : r51 4 = .pointer (some ⟨b12, 0, none⟩) := (congrFun er52 4).trans s48
  have s56 : r51 6 = .pointer (some ⟨b21, 0, none⟩) := (congrFun er52 6).trans s49
  have s57 : r51 10 = .int .i64 (chk t id) := (congrFun er52 10).trans s50
  have s58 : r51 15 = .bool ((chk t id : Int) != (0 : Int)) := (congrFun er52 15).trans rfl
  clear er52
  refine W.cond rfl s58 (fun k59 => ?_) (fun k59 => ?_)
  · skip
    refine W.seq ?_
    refine W.reg ?_
    refine W.val rfl rfl X.build24 ?_
    refine W.val rfl rfl (X.move (ev' (.int .i64 (chk t id)) rfl s57)) ?_
    have h60 := hB23.gr g42
    refine W.eff0 rfl rfl (Y.storeW (ds := TV.zero.arr) (ev' (.pointer (some ⟨b21, 0, none⟩)) rfl s56) (ev' (TV.zero.val) rfl rfl) h60 (n := 4) rfl sz24 rfl (TV.oneCell _) rfl) ?_
    rintro w61 ⟨c62, hB63⟩
    have R64 := R43.stN c62 l28
    refine W.val rfl rfl (X.assign (evc' (SV.nil.val))) ?_
    refine W.val rfl rfl (X.assign (evc' (.bool false))) ?_
    refine W.val rfl rfl (X.assign (ev' (.int .i64 (chk t id)) rfl rfl)) ?_
    refine W.nil ?_
    refine then_n ?_
    refine W.fresh ?_
    intro r66 er67
    have s68 : r66 6 = .pointer (some ⟨b21, 0, none⟩) := (congrFun er67 6).trans s56
    have s69 : r66 7 = SV.nil.val := (congrFun er67 7).trans rfl
    have s70 : r66 8 = .bool false := (congrFun er67 8).trans rfl
    have s71 : r66 9 = .int .i64 (chk t id) := (congrFun er67 9).trans rfl
    clear er67
    have pe72 : takeR t m id = (Trade.zero, [], false, chk t id) := (by exact take_1 k59)
    have hT73 : Tr (b21 :: b12 :: b4 :: bs) w61 TV.zero Trade.zero := (Tr.zero_ _ _)
    have hS74 : Sl (b21 :: b12 :: b4 :: bs) w61 SV.nil ([]) := (Sl.none_ _ _)
    refine W.ret (then_r (retCTTT rfl rfl (show _ = (.pointer (some ⟨b21, 0, none⟩) : Value) from s68) (run_loadAt_row rt24 (row_blk_trade hB63)) rfl (show _ = (SV.nil.val : Value) from s69) rfl (show _ = (.bool false : Value) from s70) rfl (show _ = (.int .i64 (chk t id) : Value) from s71) ⟨TV.zero, SV.nil, congrArg (fun (p : TakeT) => Value.tuple #[TV.val TV.zero, SV.val SV.nil, .bool p.2.2.1, .int .i64 p.2.2.2]) (Eq.symm pe72), by rw [pe72]; exact hT73.tl.tl.tl, by rw [pe72]; exact hS74.tl.tl.tl, R64⟩))
  · skip
    refine W.skip ?_
    refine then_n ?_
    refine W.seq ?_
    refine W.seq ?_
    refine W.reg ?_
    have h75 := hB14.gr g22
    have h76 := h75.gr g42
    refine W.val rfl rfl (X.loadR (ev' (.pointer (some ⟨b12, 0, none⟩)) rfl s55) rt30 (row_blk_msg h76) rfl) ?_
    refine W.call rfl rfl (X.callF go36 (args1 (ev' (.agg m.arr) rfl rfl))) (right_c m _) ?_
    rintro _ w77 ⟨rfl, g78⟩
    have R79 := R43.gr g78
    refine W.val rfl rfl (X.not (ev' (.bool (ok m)) rfl rfl)) ?_
    refine W.val rfl rfl (X.move (ev' (.bool (!(ok m))) rfl rfl)) ?_
    refine W.gq rfl rfl rfl rfl rfl (fun _ => (X.fieldAddr (ev' (.pointer (some ⟨b12, 0, none⟩)) rfl s55) fo30_2 (b := ⟨b12, 2, none⟩) (Addr.add_lit _ _ _))) ?_
    have h80 := h76.gr g78
    refine W.gq rfl rfl rfl rfl rfl (fun hc => (X.load (ev' (.pointer (some ⟨b12, 2, none⟩)) rfl (gvt hc rfl)) pt3 (Blk.lc h80 (Msg.arr2 _)))) ?_
    refine W.gq rfl rfl rfl rfl rfl (fun _ => (X.move (ev' (.int .i64 id) rfl s53))) ?_
    refine W.gq rfl rfl rfl rfl rfl (fun hc => (X.neq (ev' (.int .i64 m.to) rfl (gvt hc rfl)) (ev' (.int .i64 id) rfl (gvt hc rfl)))) ?_
    refine W.val rfl rfl (X.or (ev' (.bool (!(ok m))) rfl rfl) (ev' (gv ((!(ok m)) == false) (.bool ((m.to : Int) != (id : Int)))) rfl rfl)) ?_
    refine W.nil ?_
    refine then_n ?_
    refine W.fresh ?_
    intro r81 er82
    have s83 : r81 3 = .pointer (some ⟨b4, 0, none⟩) := (congrFun er82 3).trans s54
    have s84 : r81 4 = .pointer (some ⟨b12, 0, none⟩) := (congrFun er82 4).trans s55
    have s85 : r81 6 = .pointer (some ⟨b21, 0, none⟩) := (congrFun er82 6).trans s56
    have s86 : r81 26 = .bool ((!(ok m)) || ((m.to : Int) != (id : Int))) := (congrFun er82 26).trans rfl
    clear er82
    refine W.cond rfl s86 (fun k87 => ?_) (fun k87 => ?_)
    · skip
      refine W.seq ?_
      refine W.reg ?_
      refine W.val rfl rfl X.build24 ?_
      have h88 := hB23.gr g42
      have h89 := h88.gr g78
      refine W.eff0 rfl rfl (Y.storeW (ds := TV.zero.arr) (ev' (.pointer (some ⟨b21, 0, none⟩)) rfl s85) (ev' (TV.zero.val) rfl rfl) h89 (n := 4) rfl sz24 rfl (TV.oneCell _) rfl) ?_
      rintro w90 ⟨c91, hB92⟩
      have R93 := R79.stN c91 l28
      refine W.val rfl rfl (X.assign (evc' (SV.nil.val))) ?_
      refine W.val rfl rfl (X.assign (evc' (.bool false))) ?_
      refine W.val rfl rfl (X.assign (evc' (.int .i64 480))) ?_
      refine W.nil ?_
      refine then_n ?_
      refine W.fresh ?_
      intro r95 er96
      have s97 : r95 6 = .pointer (some ⟨b21, 0, none⟩) := (congrFun er96 6).trans s85
      have s98 : r95 7 = SV.nil.val := (congrFun er96 7).trans rfl
      have s99 : r95 8 = .bool false := (congrFun er96 8).trans rfl
      have s100 : r95 9 = .int .i64 480 := (congrFun er96 9).trans rfl
      clear er96
      have pe101 : takeR t m id = (Trade.zero, [], false, 480) := (by exact take_2 k59 k87)
      have hT102 : Tr (b21 :: b12 :: b4 :: bs) w90 TV.zero Trade.zero := (Tr.zero_ _ _)
      have hS103 : Sl (b21 :: b12 :: b4 :: bs) w90 SV.nil ([]) := (Sl.none_ _ _)
      refine W.ret (then_r (retCTTT rfl rfl (show _ = (.pointer (some ⟨b21, 0, none⟩) : Value) from s97) (run_loadAt_row rt24 (row_blk_trade hB92)) rfl (show _ = (SV.nil.val : Value) from s98) rfl (show _ = (.bool false : Value) from s99) rfl (show _ = (.int .i64 480 : Value) from s100) ⟨TV.zero, SV.nil, congrArg (fun (p : TakeT) => Value.tuple #[TV.val TV.zero, SV.val SV.nil, .bool p.2.2.1, .int .i64 p.2.2.2]) (Eq.symm pe101), by rw [pe101]; exact hT102.tl.tl.tl, by rw [pe101]; exact hS103.tl.tl.tl, R93⟩))
    · skip
      refine W.skip ?_
      refine then_n ?_
      refine W.seq ?_
      refine W.seq ?_
      refine W.reg ?_
      refine W.val rfl rfl (X.fieldAddr (ev' (.pointer (some ⟨b12, 0, none⟩)) rfl s84) fo30_0 (b := ⟨b12, 0, none⟩) (Addr.add_lit _ _ _)) ?_
      refine W.val rfl rfl (X.load (ev' (.pointer (some ⟨b12, 0, none⟩)) rfl rfl) pt3 (Blk.lc h80 (Msg.arr0 _))) ?_
      refine W.call rfl rfl (X.callF go37 (args1 (ev' (.int .i64 m.kind) rfl rfl))) (placed_c m.kind _) ?_
      rintro _ w104 ⟨rfl, g105⟩
      have R106 := R79.gr g105
      refine W.nil ?_
      refine then_n ?_
      refine W.fresh ?_
      intro r107 er108
      have s109 : r107 3 = .pointer (some ⟨b4, 0, none⟩) := (congrFun er108 3).trans s83
      have s110 : r107 4 = .pointer (some ⟨b12, 0, none⟩) := (congrFun er108 4).trans s84
      have s111 : r107 6 = .pointer (some ⟨b21, 0, none⟩) := (congrFun er108 6).trans s85
      have s112 : r107 30 = .bool (m.kind == 1 || m.kind == 3) := (congrFun er108 30).trans rfl
      clear er108
      refine W.cond rfl s112 (fun k113 => ?_) (fun k113 => ?_)
      · skip
        refine W.seq ?_
        refine W.reg ?_
        have h114 := h37.gr g42
        have h115 := h114.gr g78
        have h116 := h115.gr g105
        refine W.val rfl rfl (X.loadR (ev' (.pointer (some ⟨b4, 0, none⟩)) rfl s109) rt24 (row_blk_trade h116) rfl) ?_
        have h117 := h80.gr g105
        refine W.val rfl rfl (X.loadR (ev' (.pointer (some ⟨b12, 0, none⟩)) rfl s110) rt30 (row_blk_msg h117) rfl) ?_
        have h118 := h40.gr g42
        have h119 := h118.gr g78
        have h120 := h119.gr g105
        have h121 := hl.new g5 hB6.lt
        have h122 := h121.new g13 hB14.lt
        have h123 := h122.new g22 hB23.lt
        have h124 := h123.gr g42
        have h125 := h124.gr g78
        have h126 := h125.gr g105
        refine W.call rfl rfl (X.callF go48 (args2 (ev' (T.val) rfl rfl) (ev' (.agg m.arr) rfl rfl))) (recv_c m _ h120 h126 (received_len k59)) ?_
        rintro _ w127 ⟨T128, s129, rfl, hT130, hS131, g132⟩
        have R133 := R106.gr g132
        refine W.val rfl rfl (X.extract (ev' (.tuple #[T128.val, s129.val, .bool ((recvR t m).2.2.1), .int .i64 ((recvR t m).2.2.2)]) rfl rfl) rfl) ?_
        refine W.val rfl rfl (X.extract (ev' (.tuple #[T128.val, s129.val, .bool ((recvR t m).2.2.1), .int .i64 ((recvR t m).2.2.2)]) rfl rfl) rfl) ?_
        refine W.val rfl rfl (X.extract (ev' (.tuple #[T128.val, s129.val, .bool ((recvR t m).2.2.1), .int .i64 ((recvR t m).2.2.2)]) rfl rfl) rfl) ?_
        refine W.val rfl rfl (X.extract (ev' (.tuple #[T128.val, s129.val, .bool ((recvR t m).2.2.1), .int .i64 ((recvR t m).2.2.2)]) rfl rfl) rfl) ?_
        have h136 := hB23.gr g42
        have h137 := h136.gr g78
        have h138 := h137.gr g105
        have h139 := h138.gr g132
        refine W.eff0 rfl rfl (Y.storeW (ds := T128.arr) (ev' (.pointer (some ⟨b21, 0, none⟩)) rfl s111) (ev' (T128.val) rfl rfl) h139 (n := 4) rfl sz24 rfl (TV.oneCell _) rfl) ?_
        rintro w140 ⟨c141, hB142⟩
        have R143 := R133.stN c141 l28
        refine W.val rfl rfl (X.assign (ev' (s129.val) rfl rfl)) ?_
        refine W.val rfl rfl (X.assign (ev' (.bool ((recvR t m).2.2.1)) rfl rfl)) ?_
        refine W.val rfl rfl (X.assign (ev' (.int .i64 ((recvR t m).2.2.2)) rfl rfl)) ?_
        refine W.nil ?_
        refine then_n ?_
        refine W.fresh ?_
        intro r145 er146
        have s147 : r145 6 = .pointer (some ⟨b21, 0, none⟩) := (congrFun er146 6).trans s111
        have s148 : r145 7 = s129.val := (congrFun er146 7).trans rfl
        have s149 : r145 8 = .bool ((recvR t m).2.2.1) := (congrFun er146 8).trans rfl
        have s150 : r145 9 = .int .i64 ((recvR t m).2.2.2) := (congrFun er146 9).trans rfl
        clear er146
        have h151 := hT130.st c141 (.head _)
        have pe152 : takeR t m id = ((recvR t m).1, (recvR t m).2.1, (recvR t m).2.2.1, (recvR t m).2.2.2) := (by exact take_3 k59 k87 k113)
        have hT153 : Tr (b21 :: b12 :: b4 :: bs) w140 T128 ((recvR t m).1) := h151
        have h155 := hS131.st c141 (.head _)
        have hS154 : Sl (b21 :: b12 :: b4 :: bs) w140 s129 ((recvR t m).2.1) := h155
        refine W.ret (then_r (retCTTT rfl rfl (show _ = (.pointer (some ⟨b21, 0, none⟩) : Value) from s147) (run_loadAt_row rt24 (row_blk_trade hB142)) rfl (show _ = (s129.val : Value) from s148) rfl (show _ = (.bool ((recvR t m).2.2.1) : Value) from s149) rfl (show _ = (.int .i64 ((recvR t m).2.2.2) : Value) from s150) ⟨T128, s129, congrArg (fun (p : TakeT) => Value.tuple #[TV.val T128, SV.val s129, .bool p.2.2.1, .int .i64 p.2.2.2]) (Eq.symm pe152), by rw [pe152]; exact hT153.tl.tl.tl, by rw [pe152]; exact hS154.tl.tl.tl, R143⟩))
      · skip
        refine W.skip ?_
        refine then_n ?_
        refine W.seq ?_
        refine W.seq ?_
        refine W.reg ?_
        have h156 := h80.gr g105
        refine W.val rfl rfl (X.loadR (ev' (.pointer (some ⟨b12, 0, none⟩)) rfl s110) rt30 (row_blk_msg h156) rfl) ?_
        refine W.val rfl rfl (X.fieldAddr (ev' (.pointer (some ⟨b4, 0, none⟩)) rfl s109) fo24_1 (b := ⟨b4, 1, none⟩) (Addr.add_lit _ _ _)) ?_
        have h157 := h37.gr g42
        have h158 := h157.gr g78
        have h159 := h158.gr g105
        refine W.val rfl rfl (X.load (ev' (.pointer (some ⟨b4, 1, none⟩)) rfl rfl) pt22 (Blk.lc h159 rfl)) ?_
        have h160 := h40.gr g42
        have h161 := h160.gr g78
        have h162 := h161.gr g105
        refine W.call rfl rfl (X.callF go44 (args2 (ev' (.agg m.arr) rfl rfl) (ev' (T.p.val) rfl rfl))) (answ_c m _ h162.p) ?_
        rintro _ w163 ⟨rfl, g164⟩
        have R165 := R106.gr g164
        refine W.val rfl rfl (X.not (ev' (.bool (answ m t.placed)) rfl rfl)) ?_
        refine W.nil ?_
        refine then_n ?_
        refine W.fresh ?_
        intro r166 er167
        have s168 : r166 3 = .pointer (some ⟨b4, 0, none⟩) := (congrFun er167 3).trans s109
        have s169 : r166 4 = .pointer (some ⟨b12, 0, none⟩) := (congrFun er167 4).trans s110
        have s170 : r166 6 = .pointer (some ⟨b21, 0, none⟩) := (congrFun er167 6).trans s111
        have s171 : r166 42 = .bool (!(answ m t.placed)) := (congrFun er167 42).trans rfl
        clear er167
        refine W.cond rfl s171 (fun k172 => ?_) (fun k172 => ?_)
        · skip
          refine W.seq ?_
          refine W.reg ?_
          refine W.val rfl rfl X.build24 ?_
          have h173 := hB23.gr g42
          have h174 := h173.gr g78
          have h175 := h174.gr g105
          have h176 := h175.gr g164
          refine W.eff0 rfl rfl (Y.storeW (ds := TV.zero.arr) (ev' (.pointer (some ⟨b21, 0, none⟩)) rfl s170) (ev' (TV.zero.val) rfl rfl) h176 (n := 4) rfl sz24 rfl (TV.oneCell _) rfl) ?_
          rintro w177 ⟨c178, hB179⟩
          have R180 := R165.stN c178 l28
          refine W.val rfl rfl (X.assign (evc' (SV.nil.val))) ?_
          refine W.val rfl rfl (X.assign (evc' (.bool false))) ?_
          refine W.val rfl rfl (X.assign (evc' (.int .i64 480))) ?_
          refine W.nil ?_
          refine then_n ?_
          refine W.fresh ?_
          intro r182 er183
          have s184 : r182 6 = .pointer (some ⟨b21, 0, none⟩) := (congrFun er183 6).trans s170
          have s185 : r182 7 = SV.nil.val := (congrFun er183 7).trans rfl
          have s186 : r182 8 = .bool false := (congrFun er183 8).trans rfl
          have s187 : r182 9 = .int .i64 480 := (congrFun er183 9).trans rfl
          clear er183
          have pe188 : takeR t m id = (Trade.zero, [], false, 480) := (by exact take_4 k59 k87 k113 k172)
          have hT189 : Tr (b21 :: b12 :: b4 :: bs) w177 TV.zero Trade.zero := (Tr.zero_ _ _)
          have hS190 : Sl (b21 :: b12 :: b4 :: bs) w177 SV.nil ([]) := (Sl.none_ _ _)
          refine W.ret (then_r (retCTTT rfl rfl (show _ = (.pointer (some ⟨b21, 0, none⟩) : Value) from s184) (run_loadAt_row rt24 (row_blk_trade hB179)) rfl (show _ = (SV.nil.val : Value) from s185) rfl (show _ = (.bool false : Value) from s186) rfl (show _ = (.int .i64 480 : Value) from s187) ⟨TV.zero, SV.nil, congrArg (fun (p : TakeT) => Value.tuple #[TV.val TV.zero, SV.val SV.nil, .bool p.2.2.1, .int .i64 p.2.2.2]) (Eq.symm pe188), by rw [pe188]; exact hT189.tl.tl.tl, by rw [pe188]; exact hS190.tl.tl.tl, R180⟩))
        · skip
          refine W.skip ?_
          refine then_n ?_
          refine W.seq ?_
          refine W.seq ?_
          refine W.reg ?_
          refine W.val rfl rfl (X.fieldAddr (ev' (.pointer (some ⟨b4, 0, none⟩)) rfl s168) fo24_3 (b := ⟨b4, 3, none⟩) (Addr.add_lit _ _ _)) ?_
          have h191 := h159.gr g164
          refine W.val rfl rfl (X.load (ev' (.pointer (some ⟨b4, 3, none⟩)) rfl rfl) pt22 (Blk.lc h191 rfl)) ?_
          refine W.val rfl rfl (X.makeFunc1 (ev' (.pointer (some ⟨b12, 0, none⟩)) rfl s169)) ?_
          have h192 := h156.gr g164
          have h193 := h162.gr g164
          refine W.call rfl rfl (X.callF go42 (args2 (ev' (T.d.val) rfl rfl) (ev' (.func (.func 49) #[] #[.pointer (some ⟨b12, 0, none⟩)]) rfl rfl))) (find_c (cap := #[.pointer (some ⟨b12, 0, none⟩)]) (p := (fun d => d.no == m.no)) _ go49 h193.d (fun d w' g => sameNo_c d _ w' (h192.gr g))) ?_
          rintro _ w194 ⟨rfl, g195⟩
          have R196 := R165.gr g195
          refine W.val rfl rfl (X.geq (ev' (.int .i64 (fnd (fun d => d.no == m.no) t.done)) rfl rfl) (evc' (.int .i64 0))) ?_
          refine W.nil ?_
          refine then_n ?_
          refine W.fresh ?_
          intro r197 er198
          have s199 : r197 3 = .pointer (some ⟨b4, 0, none⟩) := (congrFun er198 3).trans s168
          have s200 : r197 4 = .pointer (some ⟨b12, 0, none⟩) := (congrFun er198 4).trans s169
          have s201 : r197 6 = .pointer (some ⟨b21, 0, none⟩) := (congrFun er198 6).trans s170
          have s202 : r197 48 = .bool (decide ((0 : Int) ≤ (fnd (fun d => d.no == m.no) t.done : Int))) := (congrFun er198 48).trans rfl
          clear er198
          refine W.cond rfl s202 (fun k203 => ?_) (fun k203 => ?_)
          · skip
            refine W.seq ?_
            refine W.reg ?_
            have h204 := h191.gr g195
            refine W.val rfl rfl (X.loadR (ev' (.pointer (some ⟨b4, 0, none⟩)) rfl s199) rt24 (row_blk_trade h204) rfl) ?_
            have h205 := hB23.gr g42
            have h206 := h205.gr g78
            have h207 := h206.gr g105
            have h208 := h207.gr g164
            have h209 := h208.gr g195
            refine W.eff0 rfl rfl (Y.storeW (ds := T.arr) (ev' (.pointer (some ⟨b21, 0, none⟩)) rfl s201) (ev' (T.val) rfl rfl) h209 (n := 4) rfl sz24 rfl (TV.oneCell _) rfl) ?_
            rintro w210 ⟨c211, hB212⟩
            have R213 := R196.stN c211 l28
            refine W.val rfl rfl (X.assign (evc' (SV.nil.val))) ?_
            refine W.val rfl rfl (X.assign (evc' (.bool false))) ?_
            refine W.val rfl rfl (X.assign (evc' (.int .i64 0))) ?_
            refine W.nil ?_
            refine then_n ?_
            refine W.fresh ?_
            intro r215 er216
            have s217 : r215 6 = .pointer (some ⟨b21, 0, none⟩) := (congrFun er216 6).trans s201
            have s218 : r215 7 = SV.nil.val := (congrFun er216 7).trans rfl
            have s219 : r215 8 = .bool false := (congrFun er216 8).trans rfl
            have s220 : r215 9 = .int .i64 0 := (congrFun er216 9).trans rfl
            clear er216
            have h221 := h193.gr g195
            have h222 := h221.st c211 (.head _)
            have pe223 : takeR t m id = (t, [], false, 0) := (by exact take_5 k59 k87 k113 k172 (dec_hasNo k203))
            have hT224 : Tr (b21 :: b12 :: b4 :: bs) w210 T t := h222
            have hS225 : Sl (b21 :: b12 :: b4 :: bs) w210 SV.nil ([]) := (Sl.none_ _ _)
            refine W.ret (then_r (retCTTT rfl rfl (show _ = (.pointer (some ⟨b21, 0, none⟩) : Value) from s217) (run_loadAt_row rt24 (row_blk_trade hB212)) rfl (show _ = (SV.nil.val : Value) from s218) rfl (show _ = (.bool false : Value) from s219) rfl (show _ = (.int .i64 0 : Value) from s220) ⟨T, SV.nil, congrArg (fun (p : TakeT) => Value.tuple #[TV.val T, SV.val SV.nil, .bool p.2.2.1, .int .i64 p.2.2.2]) (Eq.symm pe223), by rw [pe223]; exact hT224.tl.tl.tl, by rw [pe223]; exact hS225.tl.tl.tl, R213⟩))
          · skip
            refine W.skip ?_
            refine then_n ?_
            refine W.seq ?_
            refine W.reg ?_
            have h226 := h191.gr g195
            refine W.val rfl rfl (X.loadR (ev' (.pointer (some ⟨b4, 0, none⟩)) rfl s199) rt24 (row_blk_trade h226) rfl) ?_
            have h227 := hB23.gr g42
            have h228 := h227.gr g78
            have h229 := h228.gr g105
            have h230 := h229.gr g164
            have h231 := h230.gr g195
            refine W.eff0 rfl rfl (Y.storeW (ds := T.arr) (ev' (.pointer (some ⟨b21, 0, none⟩)) rfl s201) (ev' (T.val) rfl rfl) h231 (n := 4) rfl sz24 rfl (TV.oneCell _) rfl) ?_
            rintro w232 ⟨c233, hB234⟩
            have R235 := R196.stN c233 l28
            refine W.nil ?_
            refine then_n ?_
            refine W.fresh ?_
            intro r237 er238
            have s239 : r237 3 = .pointer (some ⟨b4, 0, none⟩) := (congrFun er238 3).trans s199
            have s240 : r237 4 = .pointer (some ⟨b12, 0, none⟩) := (congrFun er238 4).trans s200
            have s241 : r237 6 = .pointer (some ⟨b21, 0, none⟩) := (congrFun er238 6).trans s201
            clear er238
            refine W.seq ?_
            refine A.begin' (cs := [b21]) rfl ?_
            intro w242 g243
            have R244 := R235.gr g243
            have R245 : Chg [b21] w242 w242 := Chg.of_refl _ _
            refine A.take (i := 0) rfl (by kernel_rfl) (by kernel_rfl) (by kernel_rfl) (fun _ _ _ h => h) R245 rfl rfl (fun _ _ => (X.fieldAddr (ev' (.pointer (some ⟨b4, 0, none⟩)) rfl s239) fo24_3 (b := ⟨b4, 3, none⟩) (Addr.add_lit _ _ _))) ?_
            have h246 := h226.st c233 ne26
            have h247 := h246.gr g243
            refine A.take (i := 1) rfl (by kernel_rfl) (by kernel_rfl) (by kernel_rfl) (fun _ _ _ h => h) R245 rfl rfl (fun _ hw => (X.load (ev' (.pointer (some ⟨b4, 3, none⟩)) rfl rfl) pt22 (Blk.lc (h247.chg hw (by simp [ne26])) rfl))) ?_
            have h248 := h192.gr g195
            have h249 := h248.st c233 ne27
            have h250 := h249.gr g243
            refine A.take (i := 3) rfl (by kernel_rfl) (by kernel_rfl) (by kernel_rfl) (fun _ _ _ h => h) R245 rfl rfl (fun _ hw => (X.loadR (ev' (.pointer (some ⟨b12, 0, none⟩)) rfl s240) rt30 (row_blk_msg (h250.chg hw (by simp [ne27]))) rfl)) ?_
            refine A.two (i := 2) (j := 4) (by kernel_rfl) ?_ ?_
            · skip
              have h251 := h193.gr g195
              have h252 := h251.st c233 (.head _)
              have h253 := h252.gr g243
              refine E.call (i := 2) rfl rfl rfl (X.callF go38 (args1 (ev' (T.d.val) rfl rfl))) (clip_c _ h253.d) ?_
              rintro _ w254 ⟨rfl, g255⟩
              have R256 := R244.gr g255
              have R257 := R245.gr g255
              refine ⟨R257, ?_⟩
              refine A.one (i := 4) (by kernel_rfl) ?_
              have h258 := hl.new g5 hB6.lt
              have h259 := h258.new g13 hB14.lt
              have h260 := h259.new g22 hB23.lt
              have h261 := h260.gr g42
              have h262 := h261.gr g78
              have h263 := h262.gr g105
              have h264 := h263.gr g164
              have h265 := h264.gr g195
              have h266 := h265.gr c233
              have h267 := h266.gr g243
              have h268 := h267.gr g255
              refine E.eff (i := 4) rfl rfl rfl (Y.slice1 (bs := (b21 :: b12 :: b4 :: bs)) (ev' (.agg m.arr) rfl rfl) h268) ?_
              rintro _ w269 ⟨s270, rfl, g271, hs272⟩
              have R273 := R256.gr g271
              have R274 := R257.gr g271
              refine ⟨R274, ?_⟩
              refine A.one (i := 5) (by kernel_rfl) ?_
              have h276 := h253.gr g255
              have h277 := h276.gr g271
              have h278 := h268.gr g271
              refine E.eff (i := 5) rfl rfl rfl (Y.append (ev' ((clip T.d).val) rfl rfl) (ev' (s270.val) rfl rfl) (Sl.clip h277.d) hs272 rfl (by simp) (done_len k59) h278) ?_
              rintro _ w279 ⟨s280, rfl, g281, hs282⟩
              have R283 := R273.gr g281
              have R284 := R274.gr g281
              refine ⟨R284, ?_⟩
              refine A.take (i := 6) rfl (by kernel_rfl) (by kernel_rfl) (by kernel_rfl) (fun _ _ _ h => h) R284 rfl rfl (fun _ _ => (X.fieldAddr (ev' (.pointer (some ⟨b21, 0, none⟩)) rfl s241) fo24_3 (b := ⟨b21, 3, none⟩) (Addr.add_lit _ _ _))) ?_
              refine A.one (i := 7) (by kernel_rfl) ?_
              have h286 := hB234.gr g243
              have h287 := h286.gr g255
              have h288 := h287.gr g271
              have h289 := h288.gr g281
              refine E.eff0 (i := 7) rfl rfl rfl (Y.storeC (ds := ({ T with d := s280 } : TV).arr) (ev' (.pointer (some ⟨b21, 3, none⟩)) rfl rfl) (ev' (s280.val) rfl rfl) h289 (show 3 < 4 from by decide) sz22 rfl rfl rfl) ?_
              rintro w290 ⟨c291, hB292⟩
              have R293 := R283.stN c291 l28
              have R294 := R284.stO c291 (.head _)
              refine ⟨R294, ?_⟩
              refine A.done (by kernel_rfl) ?_
              refine then_n ?_
              refine W.fresh ?_
              intro r296 er297
              have s298 : r296 6 = .pointer (some ⟨b21, 0, none⟩) := (congrFun er297 6).trans s241
              clear er297
              refine W.seq ?_
              refine W.reg ?_
              refine W.val rfl rfl (X.loadR (ev' (.pointer (some ⟨b21, 0, none⟩)) rfl s298) rt24 (row_blk_trade hB292) rfl) ?_
              refine W.eff0 rfl rfl (Y.storeW (ds := ({ T with d := s280 } : TV).arr) (ev' (.pointer (some ⟨b21, 0, none⟩)) rfl s298) (ev' (({ T with d := s280 } : TV).val) rfl rfl) hB292 (n := 4) rfl sz24 rfl (TV.oneCell _) rfl) ?_
              rintro w299 ⟨c300, hB301⟩
              have R302 := R293.stN c300 l28
              refine W.val rfl rfl (X.assign (evc' (SV.nil.val))) ?_
              refine W.val rfl rfl (X.assign (evc' (.bool true))) ?_
              refine W.val rfl rfl (X.assign (evc' (.int .i64 0))) ?_
              refine W.nil ?_
              refine then_n ?_
              refine W.fresh ?_
              intro r304 er305
              have s306 : r304 6 = .pointer (some ⟨b21, 0, none⟩) := (congrFun er305 6).trans s298
              have s307 : r304 7 = SV.nil.val := (congrFun er305 7).trans rfl
              have s308 : r304 8 = .bool true := (congrFun er305 8).trans rfl
              have s309 : r304 9 = .int .i64 0 := (congrFun er305 9).trans rfl
              clear er305
              have h310 := h277.gr g281
              have h311 := h310.st c291 (.head _)
              have h312 := h311.st c300 (.head _)
              have h313 := hs282.st c291 (.head _)
              have h314 := h313.st c300 (.head _)
              have pe315 : takeR t m id = (({ t with done := (t.done ++ [m]) } : Trade), [], true, 0) := (by exact take_6 k59 k87 k113 k172 (dec_hasNo k203))
              have hT316 : Tr (b21 :: b12 :: b4 :: bs) w299 ({ T with d := s280 } : TV) ({ t with done := (t.done ++ [m]) } : Trade) := ⟨h312.next, h312.p, h312.r, h314⟩
              have hS317 : Sl (b21 :: b12 :: b4 :: bs) w299 SV.nil ([]) := (Sl.none_ _ _)
              refine W.ret (retCTTT rfl rfl (show _ = (.pointer (some ⟨b21, 0, none⟩) : Value) from s306) (run_loadAt_row rt24 (row_blk_trade hB301)) rfl (show _ = (SV.nil.val : Value) from s307) rfl (show _ = (.bool true : Value) from s308) rfl (show _ = (.int .i64 0 : Value) from s309) ⟨({ T with d := s280 } : TV), SV.nil, congrArg (fun (p : TakeT) => Value.tuple #[TV.val ({ T with d := s280 } : TV), SV.val SV.nil, .bool p.2.2.1, .int .i64 p.2.2.2]) (Eq.symm pe315), by rw [pe315]; exact hT316.tl.tl.tl, by rw [pe315]; exact hS317.tl.tl.tl, R302⟩)
            · skip
              have h318 := hl.new g5 hB6.lt
              have h319 := h318.new g13 hB14.lt
              have h320 := h319.new g22 hB23.lt
              have h321 := h320.gr g42
              have h322 := h321.gr g78
              have h323 := h322.gr g105
              have h324 := h323.gr g164
              have h325 := h324.gr g195
              have h326 := h325.gr c233
              have h327 := h326.gr g243
              refine E.eff (i := 4) rfl rfl rfl (Y.slice1 (bs := (b21 :: b12 :: b4 :: bs)) (ev' (.agg m.arr) rfl rfl) h327) ?_
              rintro _ w328 ⟨s329, rfl, g330, hs331⟩
              have R332 := R244.gr g330
              have R333 := R245.gr g330
              refine ⟨R333, ?_⟩
              refine A.one (i := 2) (by kernel_rfl) ?_
              have h335 := h193.gr g195
              have h336 := h335.st c233 (.head _)
              have h337 := h336.gr g243
              have h338 := h337.gr g330
              refine E.call (i := 2) rfl rfl rfl (X.callF go38 (args1 (ev' (T.d.val) rfl rfl))) (clip_c _ h338.d) ?_
              rintro _ w339 ⟨rfl, g340⟩
              have R341 := R332.gr g340
              have R342 := R333.gr g340
              refine ⟨R342, ?_⟩
              refine A.one (i := 5) (by kernel_rfl) ?_
              have h343 := h338.gr g340
              have h344 := hs331.gr g340
              have h345 := h327.gr g330
              have h346 := h345.gr g340
              refine E.eff (i := 5) rfl rfl rfl (Y.append (ev' ((clip T.d).val) rfl rfl) (ev' (s329.val) rfl rfl) (Sl.clip h343.d) h344 rfl (by simp) (done_len k59) h346) ?_
              rintro _ w347 ⟨s348, rfl, g349, hs350⟩
              have R351 := R341.gr g349
              have R352 := R342.gr g349
              refine ⟨R352, ?_⟩
              refine A.take (i := 6) rfl (by kernel_rfl) (by kernel_rfl) (by kernel_rfl) (fun _ _ _ h => h) R352 rfl rfl (fun _ _ => (X.fieldAddr (ev' (.pointer (some ⟨b21, 0, none⟩)) rfl s241) fo24_3 (b := ⟨b21, 3, none⟩) (Addr.add_lit _ _ _))) ?_
              refine A.one (i := 7) (by kernel_rfl) ?_
              have h354 := hB234.gr g243
              have h355 := h354.gr g330
              have h356 := h355.gr g340
              have h357 := h356.gr g349
              refine E.eff0 (i := 7) rfl rfl rfl (Y.storeC (ds := ({ T with d := s348 } : TV).arr) (ev' (.pointer (some ⟨b21, 3, none⟩)) rfl rfl) (ev' (s348.val) rfl rfl) h357 (show 3 < 4 from by decide) sz22 rfl rfl rfl) ?_
              rintro w358 ⟨c359, hB360⟩
              have R361 := R351.stN c359 l28
              have R362 := R352.stO c359 (.head _)
              refine ⟨R362, ?_⟩
              refine A.done (by kernel_rfl) ?_
              refine then_n ?_
              refine W.fresh ?_
              intro r364 er365
              have s366 : r364 6 = .pointer (some ⟨b21, 0, none⟩) := (congrFun er365 6).trans s241
              clear er365
              refine W.seq ?_
              refine W.reg ?_
              refine W.val rfl rfl (X.loadR (ev' (.pointer (some ⟨b21, 0, none⟩)) rfl s366) rt24 (row_blk_trade hB360) rfl) ?_
              refine W.eff0 rfl rfl (Y.storeW (ds := ({ T with d := s348 } : TV).arr) (ev' (.pointer (some ⟨b21, 0, none⟩)) rfl s366) (ev' (({ T with d := s348 } : TV).val) rfl rfl) hB360 (n := 4) rfl sz24 rfl (TV.oneCell _) rfl) ?_
              rintro w367 ⟨c368, hB369⟩
              have R370 := R361.stN c368 l28
              refine W.val rfl rfl (X.assign (evc' (SV.nil.val))) ?_
              refine W.val rfl rfl (X.assign (evc' (.bool true))) ?_
              refine W.val rfl rfl (X.assign (evc' (.int .i64 0))) ?_
              refine W.nil ?_
              refine then_n ?_
              refine W.fresh ?_
              intro r372 er373
              have s374 : r372 6 = .pointer (some ⟨b21, 0, none⟩) := (congrFun er373 6).trans s366
              have s375 : r372 7 = SV.nil.val := (congrFun er373 7).trans rfl
              have s376 : r372 8 = .bool true := (congrFun er373 8).trans rfl
              have s377 : r372 9 = .int .i64 0 := (congrFun er373 9).trans rfl
              clear er373
              have h378 := h343.gr g349
              have h379 := h378.st c359 (.head _)
              have h380 := h379.st c368 (.head _)
              have h381 := hs350.st c359 (.head _)
              have h382 := h381.st c368 (.head _)
              have pe383 : takeR t m id = (({ t with done := (t.done ++ [m]) } : Trade), [], true, 0) := (by exact take_6 k59 k87 k113 k172 (dec_hasNo k203))
              have hT384 : Tr (b21 :: b12 :: b4 :: bs) w367 ({ T with d := s348 } : TV) ({ t with done := (t.done ++ [m]) } : Trade) := ⟨h380.next, h380.p, h380.r, h382⟩
              have hS385 : Sl (b21 :: b12 :: b4 :: bs) w367 SV.nil ([]) := (Sl.none_ _ _)
              refine W.ret (retCTTT rfl rfl (show _ = (.pointer (some ⟨b21, 0, none⟩) : Value) from s374) (run_loadAt_row rt24 (row_blk_trade hB369)) rfl (show _ = (SV.nil.val : Value) from s375) rfl (show _ = (.bool true : Value) from s376) rfl (show _ = (.int .i64 0 : Value) from s377) ⟨({ T with d := s348 } : TV), SV.nil, congrArg (fun (p : TakeT) => Value.tuple #[TV.val ({ T with d := s348 } : TV), SV.val SV.nil, .bool p.2.2.1, .int .i64 p.2.2.2]) (Eq.symm pe383), by rw [pe383]; exact hT384.tl.tl.tl, by rw [pe383]; exact hS385.tl.tl.tl, R370⟩)

theorem rtake_c {bs : List Nat} {T : TV} {t : Trade} (m : Msg) (id : Int) (w : World) (ht : Tr bs w T t) (hl : LtAll bs w) : Calls Try.prog 23 #[T.val, .agg m.arr, .int .i64 id] w (Ret fun v w' => ∃ (T' : TV) (s' : SV), v = .tuple #[T'.val, s'.val, .bool (takeR t m id).2.2.1, .int .i64 (takeR t m id).2.2.2] ∧ Tr bs w' T' (takeR t m id).1 ∧ Sl bs w' s' (takeR t m id).2.1 ∧ Grow w w') := by
  refine enter (N := 124) Try.func23 rfl Try.ntmps23 rfl ?_
  intro ρ hρ
  have a0 : ρ 0 = T.val := hρ 0 _ rfl
  have a1 : ρ 1 = .agg m.arr := hρ 1 _ rfl
  have a2 : ρ 2 = .int .i64 id := hρ 2 _ rfl
  clear hρ
  have R0 : Grow w w := Chg.refl w
  refine W.seq ?_
  refine W.reg ?_
  refine W.eff rfl rfl (Y.box (cs := T.arr) (ev' (T.val) rfl a0) rfl) ?_
  rintro _ w3 ⟨b4, rfl, g5, hB6, lt7⟩
  have l8 := Nat.le_trans R0.size lt7
  have R9 := R0.gr g5
  refine W.eff rfl rfl (Y.box (cs := m.arr) (ev' (.agg m.arr) rfl a1) rfl) ?_
  rintro _ w11 ⟨b12, rfl, g13, hB14, lt15⟩
  have ne16 := hB6.ne lt15
  have l17 := Nat.le_trans R9.size lt15
  have R18 := R9.gr g13
  refine W.eff rfl rfl (Y.alloc (cs := TV.zero.arr) zero24 rfl) ?_
  rintro _ w20 ⟨b21, rfl, g22, hB23, lt24⟩
  have h25 := hB6.gr g13
  have ne26 := h25.ne lt24
  have ne27 := hB14.ne lt24
  have l28 := Nat.le_trans R18.size lt24
  have R29 := R18.gr g22
  refine W.val rfl rfl (X.assign (evc' (SV.nil.val))) ?_
  refine W.val rfl rfl (X.assign (evc' (.bool false))) ?_
  refine W.val rfl rfl (X.assign (evc' (.int .i64 0))) ?_
  refine W.nil ?_
  refine then_n ?_
  refine W.fresh ?_
  intro r31 er32
  have s33 : r31 2 = .int .i64 id := (congrFun er32 2).trans a2
  have s34 : r31 3 = .pointer (some ⟨b4, 0, none⟩) := (congrFun er32 3).trans rfl
  have s35 : r31 4 = .pointer (some ⟨b12, 0, none⟩) := (congrFun er32 4).trans rfl
  have s36 : r31 6 = .pointer (some ⟨b21, 0, none⟩) := (congrFun er32 6).trans rfl
  clear er32
  refine W.seq ?_
  refine W.reg ?_
  have h37 := h25.gr g22
  refine W.val rfl rfl (X.loadR (ev' (.pointer (some ⟨b4, 0, none⟩)) rfl s34) rt24 (row_blk_trade h37) rfl) ?_
  refine W.val rfl rfl (X.move (ev' (.int .i64 id) rfl s33)) ?_
  have h38 := (ht.ext lt7).gr g5
  have h39 := (h38.ext lt15).gr g13
  have h40 := (h39.ext lt24).gr g22
  refine W.call rfl rfl (X.callF go17 (args2 (ev' (T.val) rfl rfl) (ev' (.int .i64 id) rfl rfl))) (rcheck_c id _ h40) ?_
  rintro _ w41 ⟨rfl, g42⟩
  have R43 := R29.gr g42
  refine W.val rfl rfl (X.assign (ev' (.int .i64 (chk t id)) rfl rfl)) ?_
  refine W.nil ?_
  refine then_n ?_
  refine W.fresh ?_
  intro r44 er45
  have s46 : r44 2 = .int .i64 id := (congrFun er45 2).trans s33
  have s47 : r44 3 = .pointer (some ⟨b4, 0, none⟩) := (congrFun er45 3).trans s34
  have s48 : r44 4 = .pointer (some ⟨b12, 0, none⟩) := (congrFun er45 4).trans s35
  have s49 : r44 6 = .pointer (some ⟨b21, 0, none⟩) := (congrFun er45 6).trans s36
  have s50 : r44 10 = .int .i64 (chk t id) := (congrFun er45 10).trans rfl
  clear er45
  refine W.seq ?_
  refine W.seq ?_
  refine W.reg ?_
  refine W.val rfl rfl (X.move (ev' (.int .i64 (chk t id)) rfl s50)) ?_
  refine W.val rfl rfl (X.neq (ev' (.int .i64 (chk t id)) rfl rfl) (evc' (.int .i64 0))) ?_
  refine W.nil ?_
  refine then_n ?_
  refine W.fresh ?_
  intro r51 er52
  have s53 : r51 2 = .int .i64 id := (congrFun er52 2).trans s46
  have s54 : r51 3 = .pointer (some ⟨b4, 0, none⟩) := (congrFun er52 3).trans s47
  have s55 : r51 4 = .pointer (some ⟨b12, 0, none⟩) := (congrFun er52 4).trans s48
  have s56 : r51 6 = .pointer (some ⟨b21, 0, none⟩) := (congrFun er52 6).trans s49
  have s57 : r51 10 = .int .i64 (chk t id) := (congrFun er52 10).trans s50
  have s58 : r51 17 = .bool ((chk t id : Int) != (0 : Int)) := (congrFun er52 17).trans rfl
  clear er52
  refine W.cond rfl s58 (fun k59 => ?_) (fun k59 => ?_)
  · skip
    refine W.seq ?_
    refine W.reg ?_
    refine W.val rfl rfl X.build24 ?_
    refine W.val rfl rfl (X.move (ev' (.int .i64 (chk t id)) rfl s57)) ?_
    have h60 := hB23.gr g42
    refine W.eff0 rfl rfl (Y.storeW (ds := TV.zero.arr) (ev' (.pointer (some ⟨b21, 0, none⟩)) rfl s56) (ev' (TV.zero.val) rfl rfl) h60 (n := 4) rfl sz24 rfl (TV.oneCell _) rfl) ?_
    rintro w61 ⟨c62, hB63⟩
    have R64 := R43.stN c62 l28
    refine W.val rfl rfl (X.assign (evc' (SV.nil.val))) ?_
    refine W.val rfl rfl (X.assign (evc' (.bool false))) ?_
    refine W.val rfl rfl (X.assign (ev' (.int .i64 (chk t id)) rfl rfl)) ?_
    refine W.nil ?_
    refine then_n ?_
    refine W.fresh ?_
    intro r66 er67
    have s68 : r66 6 = .pointer (some ⟨b21, 0, none⟩) := (congrFun er67 6).trans s56
    have s69 : r66 7 = SV.nil.val := (congrFun er67 7).trans rfl
    have s70 : r66 8 = .bool false := (congrFun er67 8).trans rfl
    have s71 : r66 9 = .int .i64 (chk t id) := (congrFun er67 9).trans rfl
    clear er67
    have pe72 : takeR t m id = (Trade.zero, [], false, chk t id) := (by exact take_1 k59)
    have hT73 : Tr (b21 :: b12 :: b4 :: bs) w61 TV.zero Trade.zero := (Tr.zero_ _ _)
    have hS74 : Sl (b21 :: b12 :: b4 :: bs) w61 SV.nil ([]) := (Sl.none_ _ _)
    refine W.ret (then_r (retCTTT rfl rfl (show _ = (.pointer (some ⟨b21, 0, none⟩) : Value) from s68) (run_loadAt_row rt24 (row_blk_trade hB63)) rfl (show _ = (SV.nil.val : Value) from s69) rfl (show _ = (.bool false : Value) from s70) rfl (show _ = (.int .i64 (chk t id) : Value) from s71) ⟨TV.zero, SV.nil, congrArg (fun (p : TakeT) => Value.tuple #[TV.val TV.zero, SV.val SV.nil, .bool p.2.2.1, .int .i64 p.2.2.2]) (Eq.symm pe72), by rw [pe72]; exact hT73.tl.tl.tl, by rw [pe72]; exact hS74.tl.tl.tl, R64⟩))
  · skip
    refine W.skip ?_
    refine then_n ?_
    refine W.seq ?_
    refine W.seq ?_
    refine W.reg ?_
    have h75 := hB14.gr g22
    have h76 := h75.gr g42
    refine W.val rfl rfl (X.loadR (ev' (.pointer (some ⟨b12, 0, none⟩)) rfl s55) rt30 (row_blk_msg h76) rfl) ?_
    refine W.call rfl rfl (X.callF go39 (args1 (ev' (.agg m.arr) rfl rfl))) (of_c m _) ?_
    rintro _ w77 ⟨rfl, g78⟩
    have R79 := R43.gr g78
    refine W.val rfl rfl (X.not (ev' (.bool (ok m)) rfl rfl)) ?_
    refine W.val rfl rfl (X.move (ev' (.bool (!(ok m))) rfl rfl)) ?_
    refine W.gq rfl rfl rfl rfl rfl (fun _ => (X.fieldAddr (ev' (.pointer (some ⟨b12, 0, none⟩)) rfl s55) fo30_2 (b := ⟨b12, 2, none⟩) (Addr.add_lit _ _ _))) ?_
    have h80 := h76.gr g78
    refine W.gq rfl rfl rfl rfl rfl (fun hc => (X.load (ev' (.pointer (some ⟨b12, 2, none⟩)) rfl (gvt hc rfl)) pt3 (Blk.lc h80 (Msg.arr2 _)))) ?_
    refine W.gq rfl rfl rfl rfl rfl (fun _ => (X.move (ev' (.int .i64 id) rfl s53))) ?_
    refine W.gq rfl rfl rfl rfl rfl (fun hc => (X.neq (ev' (.int .i64 m.to) rfl (gvt hc rfl)) (ev' (.int .i64 id) rfl (gvt hc rfl)))) ?_
    refine W.val rfl rfl (X.or (ev' (.bool (!(ok m))) rfl rfl) (ev' (gv ((!(ok m)) == false) (.bool ((m.to : Int) != (id : Int)))) rfl rfl)) ?_
    refine W.nil ?_
    refine then_n ?_
    refine W.fresh ?_
    intro r81 er82
    have s83 : r81 3 = .pointer (some ⟨b4, 0, none⟩) := (congrFun er82 3).trans s54
    have s84 : r81 4 = .pointer (some ⟨b12, 0, none⟩) := (congrFun er82 4).trans s55
    have s85 : r81 6 = .pointer (some ⟨b21, 0, none⟩) := (congrFun er82 6).trans s56
    have s86 : r81 28 = .bool ((!(ok m)) || ((m.to : Int) != (id : Int))) := (congrFun er82 28).trans rfl
    clear er82
    refine W.cond rfl s86 (fun k87 => ?_) (fun k87 => ?_)
    · skip
      refine W.seq ?_
      refine W.reg ?_
      refine W.val rfl rfl X.build24 ?_
      have h88 := hB23.gr g42
      have h89 := h88.gr g78
      refine W.eff0 rfl rfl (Y.storeW (ds := TV.zero.arr) (ev' (.pointer (some ⟨b21, 0, none⟩)) rfl s85) (ev' (TV.zero.val) rfl rfl) h89 (n := 4) rfl sz24 rfl (TV.oneCell _) rfl) ?_
      rintro w90 ⟨c91, hB92⟩
      have R93 := R79.stN c91 l28
      refine W.val rfl rfl (X.assign (evc' (SV.nil.val))) ?_
      refine W.val rfl rfl (X.assign (evc' (.bool false))) ?_
      refine W.val rfl rfl (X.assign (evc' (.int .i64 480))) ?_
      refine W.nil ?_
      refine then_n ?_
      refine W.fresh ?_
      intro r95 er96
      have s97 : r95 6 = .pointer (some ⟨b21, 0, none⟩) := (congrFun er96 6).trans s85
      have s98 : r95 7 = SV.nil.val := (congrFun er96 7).trans rfl
      have s99 : r95 8 = .bool false := (congrFun er96 8).trans rfl
      have s100 : r95 9 = .int .i64 480 := (congrFun er96 9).trans rfl
      clear er96
      have pe101 : takeR t m id = (Trade.zero, [], false, 480) := (by exact take_2 k59 k87)
      have hT102 : Tr (b21 :: b12 :: b4 :: bs) w90 TV.zero Trade.zero := (Tr.zero_ _ _)
      have hS103 : Sl (b21 :: b12 :: b4 :: bs) w90 SV.nil ([]) := (Sl.none_ _ _)
      refine W.ret (then_r (retCTTT rfl rfl (show _ = (.pointer (some ⟨b21, 0, none⟩) : Value) from s97) (run_loadAt_row rt24 (row_blk_trade hB92)) rfl (show _ = (SV.nil.val : Value) from s98) rfl (show _ = (.bool false : Value) from s99) rfl (show _ = (.int .i64 480 : Value) from s100) ⟨TV.zero, SV.nil, congrArg (fun (p : TakeT) => Value.tuple #[TV.val TV.zero, SV.val SV.nil, .bool p.2.2.1, .int .i64 p.2.2.2]) (Eq.symm pe101), by rw [pe101]; exact hT102.tl.tl.tl, by rw [pe101]; exact hS103.tl.tl.tl, R93⟩))
    · skip
      refine W.skip ?_
      refine then_n ?_
      refine W.seq ?_
      refine W.reg ?_
      have h104 := h37.gr g42
      have h105 := h104.gr g78
      refine W.val rfl rfl (X.loadR (ev' (.pointer (some ⟨b4, 0, none⟩)) rfl s83) rt24 (row_blk_trade h105) rfl) ?_
      refine W.eff rfl rfl (Y.alloc (cs := TV.zero.arr) zero24 rfl) ?_
      rintro _ w106 ⟨b107, rfl, g108, hB109, lt110⟩
      have ne111 := h105.ne lt110
      have ne112 := h80.ne lt110
      have h113 := hB23.gr g42
      have h114 := h113.gr g78
      have ne115 := h114.ne lt110
      have l116 := Nat.le_trans R79.size lt110
      have R117 := R79.gr g108
      refine W.eff0 rfl rfl (Y.storeW (ds := T.arr) (ev' (.pointer (some ⟨b107, 0, none⟩)) rfl rfl) (ev' (T.val) rfl rfl) hB109 (n := 4) rfl sz24 rfl (TV.oneCell _) rfl) ?_
      rintro w119 ⟨c120, hB121⟩
      have R122 := R117.stN c120 l116
      refine W.nil ?_
      refine then_n ?_
      refine W.fresh ?_
      intro r124 er125
      have s126 : r124 3 = .pointer (some ⟨b4, 0, none⟩) := (congrFun er125 3).trans s83
      have s127 : r124 4 = .pointer (some ⟨b12, 0, none⟩) := (congrFun er125 4).trans s84
      have s128 : r124 6 = .pointer (some ⟨b21, 0, none⟩) := (congrFun er125 6).trans s85
      have s129 : r124 11 = .pointer (some ⟨b107, 0, none⟩) := (congrFun er125 11).trans rfl
      clear er125
      refine W.seq ?_
      refine W.seq ?_
      refine W.reg ?_
      have h130 := h80.gr g108
      have h131 := h130.st c120 ne112
      refine W.val rfl rfl (X.loadR (ev' (.pointer (some ⟨b12, 0, none⟩)) rfl s127) rt30 (row_blk_msg h131) rfl) ?_
      refine W.call rfl rfl (X.callF go40 (args1 (ev' (.agg m.arr) rfl rfl))) (begins_c m _) ?_
      rintro _ w132 ⟨rfl, g133⟩
      have R134 := R122.gr g133
      refine W.nil ?_
      refine then_n ?_
      refine W.fresh ?_
      intro r135 er136
      have s137 : r135 3 = .pointer (some ⟨b4, 0, none⟩) := (congrFun er136 3).trans s126
      have s138 : r135 4 = .pointer (some ⟨b12, 0, none⟩) := (congrFun er136 4).trans s127
      have s139 : r135 6 = .pointer (some ⟨b21, 0, none⟩) := (congrFun er136 6).trans s128
      have s140 : r135 11 = .pointer (some ⟨b107, 0, none⟩) := (congrFun er136 11).trans s129
      have s141 : r135 32 = .bool (begins m) := (congrFun er136 32).trans rfl
      clear er136
      refine W.cond rfl s141 (fun k142 => ?_) (fun k142 => ?_)
      · skip
        refine W.seq ?_
        refine W.seq ?_
        refine W.reg ?_
        refine W.val rfl rfl (X.assign (evc' (.int .i64 0))) ?_
        refine W.nil ?_
        refine then_n ?_
        refine W.fresh ?_
        intro r143 er144
        have s145 : r143 3 = .pointer (some ⟨b4, 0, none⟩) := (congrFun er144 3).trans s137
        have s146 : r143 4 = .pointer (some ⟨b12, 0, none⟩) := (congrFun er144 4).trans s138
        have s147 : r143 6 = .pointer (some ⟨b21, 0, none⟩) := (congrFun er144 6).trans s139
        have s148 : r143 11 = .pointer (some ⟨b107, 0, none⟩) := (congrFun er144 11).trans s140
        have s149 : r143 12 = .int .i64 0 := (congrFun er144 12).trans rfl
        clear er144
        refine W.block ?_
        refine W.fresh ?_
        intro r150 er151
        have s152 : r150 3 = .pointer (some ⟨b4, 0, none⟩) := (congrFun er151 3).trans s145
        have s153 : r150 4 = .pointer (some ⟨b12, 0, none⟩) := (congrFun er151 4).trans s146
        have s154 : r150 6 = .pointer (some ⟨b21, 0, none⟩) := (congrFun er151 6).trans s147
        have s155 : r150 11 = .pointer (some ⟨b107, 0, none⟩) := (congrFun er151 11).trans s148
        have s156 : r150 12 = .int .i64 0 := (congrFun er151 12).trans s149
        clear er151
        refine W.count 12 T.r.n (fun I ρ W => I ≤ T.r.n ∧ ρ 12 = .int .i64 ((I : Nat) : Int) ∧ Chg [] w132 W ∧ ρ 3 = .pointer (some ⟨b4, 0, none⟩) ∧ ρ 4 = .pointer (some ⟨b12, 0, none⟩) ∧ ρ 6 = .pointer (some ⟨b21, 0, none⟩) ∧ ρ 11 = .pointer (some ⟨b107, 0, none⟩) ∧ (∀ y ∈ t.received.take I, (y.frm == m.frm && y.no == m.no) = false)) 0 rfl
          ⟨Nat.zero_le _, s156, Chg.of_refl _ _, s152, s153, s154, s155, (take_zero _ _)⟩ (fun I ρ W hJ => ⟨hJ.2.1, hJ.1⟩) ?_
        rintro i157 r158 w159 ⟨le160, s161, R162, s163, s164, s165, s166, x167⟩
        have R173 := R134.gr R162
        refine W.seq ?_
        refine W.seq ?_
        refine W.reg ?_
        refine W.val rfl rfl (X.move (ev' (.int .i64 ((i157 : Nat) : Int)) rfl s161)) ?_
        refine W.val rfl rfl (X.fieldAddr (ev' (.pointer (some ⟨b4, 0, none⟩)) rfl s163) fo24_2 (b := ⟨b4, 2, none⟩) (Addr.add_lit _ _ _)) ?_
        have h174 := h105.gr g108
        have h175 := h174.st c120 ne111
        have h176 := h175.gr g133
        have h177 := h176.gr R162
        refine W.val rfl rfl (X.load (ev' (.pointer (some ⟨b4, 2, none⟩)) rfl rfl) pt22 (Blk.lc h177 rfl)) ?_
        refine W.val rfl rfl (X.len (ev' (T.r.val) rfl rfl) st22) ?_
        refine W.val rfl rfl (X.lss (ev' (.int .i64 ((i157 : Nat) : Int)) rfl rfl) (ev' (.int .i64 (T.r.n : Int)) rfl rfl)) ?_
        refine W.nil ?_
        refine then_n ?_
        refine W.fresh ?_
        intro r178 er179
        have s180 : r178 3 = .pointer (some ⟨b4, 0, none⟩) := (congrFun er179 3).trans s163
        have s181 : r178 4 = .pointer (some ⟨b12, 0, none⟩) := (congrFun er179 4).trans s164
        have s182 : r178 6 = .pointer (some ⟨b21, 0, none⟩) := (congrFun er179 6).trans s165
        have s183 : r178 11 = .pointer (some ⟨b107, 0, none⟩) := (congrFun er179 11).trans s166
        have s184 : r178 12 = .int .i64 ((i157 : Nat) : Int) := (congrFun er179 12).trans s161
        have s185 : r178 37 = .bool (decide ((((i157 : Nat) : Int) : Int) < ((T.r.n : Int) : Int))) := (congrFun er179 37).trans rfl
        clear er179
        refine W.cond rfl s185 (fun k186 => ?_) (fun k186 => ?_)
        · skip
          have lt172 : i157 < T.r.n := Int.ofNat_lt.1 (of_decide_eq_true k186)
          refine W.skip ?_
          refine then_n ?_
          refine W.seq ?_
          refine W.block ?_
          refine W.seq ?_
          refine A.begin' (cs := []) rfl ?_
          intro w187 g188
          have R189 := R173.gr g188
          have R190 := R162.gr g188
          have R191 : Chg [] w187 w187 := Chg.of_refl _ _
          refine A.take (i := 0) rfl (by kernel_rfl) (by kernel_rfl) (by kernel_rfl) (fun _ _ _ h => h) R191 rfl rfl (fun _ _ => (X.fieldAddr (ev' (.pointer (some ⟨b4, 0, none⟩)) rfl s180) fo24_2 (b := ⟨b4, 2, none⟩) (Addr.add_lit _ _ _))) ?_
          have h192 := h177.gr g188
          refine A.take (i := 1) rfl (by kernel_rfl) (by kernel_rfl) (by kernel_rfl) (fun _ _ _ h => h) R191 rfl rfl (fun _ hw => (X.load (ev' (.pointer (some ⟨b4, 2, none⟩)) rfl rfl) pt22 (Blk.lc (h192.gr hw) rfl))) ?_
          refine A.take (i := 2) rfl (by kernel_rfl) (by kernel_rfl) (by kernel_rfl) (fun _ _ _ h => h) R191 rfl rfl (fun _ _ => (X.move (ev' (.int .i64 ((i157 : Nat) : Int)) rfl s184))) ?_
          have h195 := h40.gr g42
          have h196 := h195.gr g78
          have h197 := (h196.ext lt110).gr g108
          have h198 := h197.st c120 (.head _)
          have h199 := h198.gr g133
          have h200 := h199.gr R162
          have h201 := h200.gr g188
          obtain ⟨m193, hm194⟩ := some_of_lt (h201.r.len ▸ lt172)
          obtain ⟨eb202, eo203, ha204, lt205, hr206⟩ := Sl.rowAt h201.r hm194
          refine A.take (i := 3) rfl (by kernel_rfl) (by kernel_rfl) (by kernel_rfl) (fun _ _ _ h => h) R191 rfl rfl (fun _ _ => (X.idx (b := ⟨eb202, eo203 + i157 * 43, none⟩) (evs ha204 (ev' (T.r.val) rfl rfl)) (ev' (.int .i64 ((i157 : Nat) : Int)) rfl rfl) (Int.natCast_nonneg _) (Int.ofNat_lt.2 lt205) st22 sz30 (Addr.add_lit _ _ _))) ?_
          refine A.take (i := 4) rfl (by kernel_rfl) (by kernel_rfl) (by kernel_rfl) (fun _ _ _ h => h) R191 rfl rfl (fun _ _ => (X.fieldAddr (ev' (.pointer (some ⟨eb202, eo203 + i157 * 43, none⟩)) rfl rfl) fo30_1 (b := ⟨eb202, eo203 + i157 * 43 + 1, none⟩) (Addr.add_lit _ _ _))) ?_
          refine A.take (i := 5) rfl (by kernel_rfl) (by kernel_rfl) (by kernel_rfl) (fun _ _ _ h => h) R191 rfl rfl (fun _ hw => (X.load (ev' (.pointer (some ⟨eb202, eo203 + i157 * 43 + 1, none⟩)) rfl rfl) pt3 (cell_of_rowM (k := 1) (hr206.gr hw).r (Msg.arr1 _)))) ?_
          refine A.take (i := 6) rfl (by kernel_rfl) (by kernel_rfl) (by kernel_rfl) (fun _ _ _ h => h) R191 rfl rfl (fun _ _ => (X.fieldAddr (ev' (.pointer (some ⟨b12, 0, none⟩)) rfl s181) fo30_1 (b := ⟨b12, 1, none⟩) (Addr.add_lit _ _ _))) ?_
          have h208 := h131.gr g133
          have h209 := h208.gr R162
          have h210 := h209.gr g188
          refine A.take (i := 7) rfl (by kernel_rfl) (by kernel_rfl) (by kernel_rfl) (fun _ _ _ h => h) R191 rfl rfl (fun _ hw => (X.load (ev' (.pointer (some ⟨b12, 1, none⟩)) rfl rfl) pt3 (Blk.lc (h210.gr hw) (Msg.arr1 _)))) ?_
          refine A.take (i := 8) rfl (by kernel_rfl) (by kernel_rfl) (by kernel_rfl) (fun _ _ _ h => h) R191 rfl rfl (fun _ _ => (X.eql (ev' (.int .i64 m193.frm) rfl rfl) (ev' (.int .i64 m.frm) rfl rfl))) ?_
          refine A.take (i := 9) rfl (by kernel_rfl) (by kernel_rfl) (by kernel_rfl) (fun _ _ _ h => h) R191 rfl rfl (fun _ _ => (X.move (ev' (.bool ((m193.frm : Int) == (m.frm : Int))) rfl rfl))) ?_
          refine A.takeG (i := 10) rfl (by kernel_rfl) (by kernel_rfl) (by kernel_rfl) (fun _ _ _ _ h => h) R191 rfl rfl rfl rfl rfl (fun _ _ _ => (X.fieldAddr (ev' (.pointer (some ⟨b4, 0, none⟩)) rfl s180) fo24_2 (b := ⟨b4, 2, none⟩) (Addr.add_lit _ _ _))) ?_
          refine A.takeG (i := 11) rfl (by kernel_rfl) (by kernel_rfl) (by kernel_rfl) (fun _ _ _ _ h => h) R191 rfl rfl rfl rfl rfl (fun hc _ hw => (X.load (ev' (.pointer (some ⟨b4, 2, none⟩)) rfl (gvt hc rfl)) pt22 (Blk.lc (h192.gr hw) rfl))) ?_
          refine A.takeG (i := 12) rfl (by kernel_rfl) (by kernel_rfl) (by kernel_rfl) (fun _ _ _ _ h => h) R191 rfl rfl rfl rfl rfl (fun _ _ _ => (X.move (ev' (.int .i64 ((i157 : Nat) : Int)) rfl s184))) ?_
          obtain ⟨eb211, eo212, ha213, lt214, hr215⟩ := Sl.rowAt h201.r hm194
          refine A.takeG (i := 13) rfl (by kernel_rfl) (by kernel_rfl) (by kernel_rfl) (fun _ _ _ _ h => h) R191 rfl rfl rfl rfl rfl (fun hc _ _ => (X.idx (b := ⟨eb211, eo212 + i157 * 43, none⟩) (evs ha213 (ev' (T.r.val) rfl (gvt hc rfl))) (ev' (.int .i64 ((i157 : Nat) : Int)) rfl (gvt hc rfl)) (Int.natCast_nonneg _) (Int.ofNat_lt.2 lt214) st22 sz30 (Addr.add_lit _ _ _))) ?_
          refine A.takeG (i := 14) rfl (by kernel_rfl) (by kernel_rfl) (by kernel_rfl) (fun _ _ _ _ h => h) R191 rfl rfl rfl rfl rfl (fun hc _ _ => (X.fieldAddr (ev' (.pointer (some ⟨eb211, eo212 + i157 * 43, none⟩)) rfl (gvt hc rfl)) fo30_3 (b := ⟨eb211, eo212 + i157 * 43 + 3, none⟩) (Addr.add_lit _ _ _))) ?_
          refine A.takeG (i := 15) rfl (by kernel_rfl) (by kernel_rfl) (by kernel_rfl) (fun _ _ _ _ h => h) R191 rfl rfl rfl rfl rfl (fun hc _ hw => (X.load (ev' (.pointer (some ⟨eb211, eo212 + i157 * 43 + 3, none⟩)) rfl (gvt hc rfl)) pt3 (cell_of_rowM (k := 3) (hr215.gr hw).r (Msg.arr3 _)))) ?_
          refine A.takeG (i := 16) rfl (by kernel_rfl) (by kernel_rfl) (by kernel_rfl) (fun _ _ _ _ h => h) R191 rfl rfl rfl rfl rfl (fun _ _ _ => (X.fieldAddr (ev' (.pointer (some ⟨b12, 0, none⟩)) rfl s181) fo30_3 (b := ⟨b12, 3, none⟩) (Addr.add_lit _ _ _))) ?_
          refine A.takeG (i := 17) rfl (by kernel_rfl) (by kernel_rfl) (by kernel_rfl) (fun _ _ _ _ h => h) R191 rfl rfl rfl rfl rfl (fun hc _ hw => (X.load (ev' (.pointer (some ⟨b12, 3, none⟩)) rfl (gvt hc rfl)) pt3 (Blk.lc (h210.gr hw) (Msg.arr3 _)))) ?_
          refine A.takeG (i := 18) rfl (by kernel_rfl) (by kernel_rfl) (by kernel_rfl) (fun _ _ _ _ h => h) R191 rfl rfl rfl rfl rfl (fun hc _ _ => (X.eql (ev' (.int .i64 m193.no) rfl (gvt hc rfl)) (ev' (.int .i64 m.no) rfl (gvt hc rfl)))) ?_
          refine A.take (i := 19) rfl (by kernel_rfl) (by kernel_rfl) (by kernel_rfl) (fun _ _ _ h => h) R191 rfl rfl (fun _ _ => (X.and (ev' (.bool ((m193.frm : Int) == (m.frm : Int))) rfl rfl) (ev' (gv (((m193.frm : Int) == (m.frm : Int)) == true) (.bool ((m193.no : Int) == (m.no : Int)))) rfl rfl))) ?_
          refine A.done (by kernel_rfl) ?_
          refine then_n ?_
          refine W.fresh ?_
          intro r217 er218
          have s219 : r217 3 = .pointer (some ⟨b4, 0, none⟩) := (congrFun er218 3).trans s180
          have s220 : r217 4 = .pointer (some ⟨b12, 0, none⟩) := (congrFun er218 4).trans s181
          have s221 : r217 6 = .pointer (some ⟨b21, 0, none⟩) := (congrFun er218 6).trans s182
          have s222 : r217 11 = .pointer (some ⟨b107, 0, none⟩) := (congrFun er218 11).trans s183
          have s223 : r217 12 = .int .i64 ((i157 : Nat) : Int) := (congrFun er218 12).trans s184
          have s224 : r217 59 = .bool (((m193.frm : Int) == (m.frm : Int)) && ((m193.no : Int) == (m.no : Int))) := (congrFun er218 59).trans rfl
          clear er218
          refine W.cond rfl s224 (fun k225 => ?_) (fun k225 => ?_)
          · skip
            refine W.seq ?_
            refine W.seq ?_
            refine A.begin' (cs := []) rfl ?_
            intro w226 g227
            have R228 := R189.gr g227
            have R229 := R190.gr g227
            have R230 : Chg [] w226 w226 := Chg.of_refl _ _
            refine A.take (i := 0) rfl (by kernel_rfl) (by kernel_rfl) (by kernel_rfl) (fun _ _ _ h => h) R230 rfl rfl (fun _ _ => (X.fieldAddr (ev' (.pointer (some ⟨b4, 0, none⟩)) rfl s219) fo24_2 (b := ⟨b4, 2, none⟩) (Addr.add_lit _ _ _))) ?_
            have h231 := h192.gr g227
            refine A.take (i := 1) rfl (by kernel_rfl) (by kernel_rfl) (by kernel_rfl) (fun _ _ _ h => h) R230 rfl rfl (fun _ hw => (X.load (ev' (.pointer (some ⟨b4, 2, none⟩)) rfl rfl) pt22 (Blk.lc (h231.gr hw) rfl))) ?_
            refine A.take (i := 2) rfl (by kernel_rfl) (by kernel_rfl) (by kernel_rfl) (fun _ _ _ h => h) R230 rfl rfl (fun _ _ => (X.move (ev' (.int .i64 ((i157 : Nat) : Int)) rfl s223))) ?_
            have h232 := h201.gr g227
            obtain ⟨eb233, eo234, ha235, lt236, hr237⟩ := Sl.rowAt h232.r hm194
            refine A.take (i := 3) rfl (by kernel_rfl) (by kernel_rfl) (by kernel_rfl) (fun _ _ _ h => h) R230 rfl rfl (fun _ _ => (X.idx (b := ⟨eb233, eo234 + i157 * 43, none⟩) (evs ha235 (ev' (T.r.val) rfl rfl)) (ev' (.int .i64 ((i157 : Nat) : Int)) rfl rfl) (Int.natCast_nonneg _) (Int.ofNat_lt.2 lt236) st22 sz30 (Addr.add_lit _ _ _))) ?_
            refine A.take (i := 4) rfl (by kernel_rfl) (by kernel_rfl) (by kernel_rfl) (fun _ _ _ h => h) R230 rfl rfl (fun _ hw => (X.loadR (ev' (.pointer (some ⟨eb233, eo234 + i157 * 43, none⟩)) rfl rfl) rt30 (hr237.gr hw).r rfl)) ?_
            have h239 := h210.gr g227
            refine A.take (i := 5) rfl (by kernel_rfl) (by kernel_rfl) (by kernel_rfl) (fun _ _ _ h => h) R230 rfl rfl (fun _ hw => (X.loadR (ev' (.pointer (some ⟨b12, 0, none⟩)) rfl s220) rt30 (row_blk_msg (h239.gr hw)) rfl)) ?_
            refine A.one (i := 6) (by kernel_rfl) ?_
            refine E.call (i := 6) rfl rfl rfl (X.callF go15 (args2 (ev' (.agg m193.arr) rfl rfl) (ev' (.agg m.arr) rfl rfl))) (same_c m193 m _) ?_
            rintro _ w240 ⟨rfl, g241⟩
            have R242 := R228.gr g241
            have R243 := R229.gr g241
            have R244 := R230.gr g241
            refine ⟨R244, ?_⟩
            refine A.take (i := 7) rfl (by kernel_rfl) (by kernel_rfl) (by kernel_rfl) (fun _ _ _ h => h) R244 rfl rfl (fun _ _ => (X.not (ev' (.bool (same m193 m)) rfl rfl))) ?_
            refine A.done (by kernel_rfl) ?_
            refine then_n ?_
            refine W.fresh ?_
            intro r245 er246
            have s247 : r245 3 = .pointer (some ⟨b4, 0, none⟩) := (congrFun er246 3).trans s219
            have s248 : r245 4 = .pointer (some ⟨b12, 0, none⟩) := (congrFun er246 4).trans s220
            have s249 : r245 6 = .pointer (some ⟨b21, 0, none⟩) := (congrFun er246 6).trans s221
            have s250 : r245 67 = .bool (!(same m193 m)) := (congrFun er246 67).trans rfl
            clear er246
            refine W.cond rfl s250 (fun k251 => ?_) (fun k251 => ?_)
            · skip
              refine W.seq ?_
              refine W.reg ?_
              refine W.val rfl rfl X.build24 ?_
              have h252 := h114.gr g108
              have h253 := h252.st c120 ne115
              have h254 := h253.gr g133
              have h255 := h254.gr R162
              have h256 := h255.gr g188
              have h257 := h256.gr g227
              have h258 := h257.gr g241
              refine W.eff0 rfl rfl (Y.storeW (ds := TV.zero.arr) (ev' (.pointer (some ⟨b21, 0, none⟩)) rfl s249) (ev' (TV.zero.val) rfl rfl) h258 (n := 4) rfl sz24 rfl (TV.oneCell _) rfl) ?_
              rintro w259 ⟨c260, hB261⟩
              have R262 := R242.stN c260 l28
              refine W.val rfl rfl (X.assign (evc' (SV.nil.val))) ?_
              refine W.val rfl rfl (X.assign (evc' (.bool false))) ?_
              refine W.val rfl rfl (X.assign (evc' (.int .i64 480))) ?_
              refine W.nil ?_
              refine then_n ?_
              refine W.fresh ?_
              intro r264 er265
              have s266 : r264 6 = .pointer (some ⟨b21, 0, none⟩) := (congrFun er265 6).trans s249
              have s267 : r264 7 = SV.nil.val := (congrFun er265 7).trans rfl
              have s268 : r264 8 = .bool false := (congrFun er265 8).trans rfl
              have s269 : r264 9 = .int .i64 480 := (congrFun er265 9).trans rfl
              clear er265
              have pe270 : takeR t m id = (Trade.zero, [], false, 480) := (by exact rtake_3 k59 k87 k142 hm194 k225 x167 k251)
              have hT271 : Tr (b107 :: b21 :: b12 :: b4 :: bs) w259 TV.zero Trade.zero := (Tr.zero_ _ _)
              have hS272 : Sl (b107 :: b21 :: b12 :: b4 :: bs) w259 SV.nil ([]) := (Sl.none_ _ _)
              refine W.ret (then_r (inb_r (then_r (then_r (inb_r (then_r (then_r (retCTTT rfl rfl (show _ = (.pointer (some ⟨b21, 0, none⟩) : Value) from s266) (run_loadAt_row rt24 (row_blk_trade hB261)) rfl (show _ = (SV.nil.val : Value) from s267) rfl (show _ = (.bool false : Value) from s268) rfl (show _ = (.int .i64 480 : Value) from s269) ⟨TV.zero, SV.nil, congrArg (fun (p : TakeT) => Value.tuple #[TV.val TV.zero, SV.val SV.nil, .bool p.2.2.1, .int .i64 p.2.2.2]) (Eq.symm pe270), by rw [pe270]; exact hT271.tl.tl.tl.tl, by rw [pe270]; exact hS272.tl.tl.tl.tl, R262⟩))))))))
            · skip
              refine W.skip ?_
              refine then_n ?_
              refine W.seq ?_
              refine A.begin' (cs := [b21]) rfl ?_
              intro w273 g274
              have R275 := R242.gr g274
              have R276 := R243.gr g274
              have R277 : Chg [b21] w273 w273 := Chg.of_refl _ _
              have h278 := h231.gr g241
              have h279 := h278.gr g274
              refine A.take (i := 0) rfl (by kernel_rfl) (by kernel_rfl) (by kernel_rfl) (fun _ _ _ h => h) R277 rfl rfl (fun _ hw => (X.loadR (ev' (.pointer (some ⟨b4, 0, none⟩)) rfl s247) rt24 (row_blk_trade (h279.chg hw (by simp [ne26]))) rfl)) ?_
              have h280 := h239.gr g241
              have h281 := h280.gr g274
              refine A.take (i := 1) rfl (by kernel_rfl) (by kernel_rfl) (by kernel_rfl) (fun _ _ _ h => h) R277 rfl rfl (fun _ hw => (X.loadR (ev' (.pointer (some ⟨b12, 0, none⟩)) rfl s248) rt30 (row_blk_msg (h281.chg hw (by simp [ne27]))) rfl)) ?_
              refine A.one (i := 2) (by kernel_rfl) ?_
              refine E.call (i := 2) rfl rfl rfl (X.callF go46 (args1 (ev' (.agg m.arr) rfl rfl))) (ansR_c m _) ?_
              rintro _ w282 ⟨rfl, g283⟩
              have R284 := R275.gr g283
              have R285 := R276.gr g283
              have R286 := R277.gr g283
              refine ⟨R286, ?_⟩
              refine A.two (i := 3) (j := 4) (by kernel_rfl) ?_ ?_
              · skip
                have h287 := hl.new g5 hB6.lt
                have h288 := h287.new g13 hB14.lt
                have h289 := h288.new g22 hB23.lt
                have h290 := h289.gr g42
                have h291 := h290.gr g78
                have h292 := h291.new g108 hB109.lt
                have h293 := h292.gr c120
                have h294 := h293.gr g133
                have h295 := h294.gr R162
                have h296 := h295.gr g188
                have h297 := h296.gr g227
                have h298 := h297.gr g241
                have h299 := h298.gr g274
                have h300 := h299.gr g283
                refine E.eff (i := 3) rfl rfl rfl (Y.slice1 (bs := (b107 :: b21 :: b12 :: b4 :: bs)) (ev' (.agg (ansR m).arr) rfl rfl) h300) ?_
                rintro _ w301 ⟨s302, rfl, g303, hs304⟩
                have R305 := R284.gr g303
                have R306 := R285.gr g303
                have R307 := R286.gr g303
                refine ⟨R307, ?_⟩
                refine A.one (i := 4) (by kernel_rfl) ?_
                have h309 := h114.gr g108
                have h310 := h309.st c120 ne115
                have h311 := h310.gr g133
                have h312 := h311.gr R162
                have h313 := h312.gr g188
                have h314 := h313.gr g227
                have h315 := h314.gr g241
                have h316 := h315.gr g274
                have h317 := h316.gr g283
                have h318 := h317.gr g303
                refine E.eff0 (i := 4) rfl rfl rfl (Y.storeW (ds := T.arr) (ev' (.pointer (some ⟨b21, 0, none⟩)) rfl s249) (ev' (T.val) rfl rfl) h318 (n := 4) rfl sz24 rfl (TV.oneCell _) rfl) ?_
                rintro w319 ⟨c320, hB321⟩
                have R322 := R305.stN c320 l28
                have R323 := R307.stO c320 (.head _)
                refine ⟨R323, ?_⟩
                refine A.take (i := 5) rfl (by kernel_rfl) (by kernel_rfl) (by kernel_rfl) (fun _ _ _ h => h) R323 rfl rfl (fun _ _ => (X.assign (ev' (s302.val) rfl rfl))) ?_
                refine A.take (i := 6) rfl (by kernel_rfl) (by kernel_rfl) (by kernel_rfl) (fun _ _ _ h => h) R323 rfl rfl (fun _ _ => (X.assign (evc' (.bool false)))) ?_
                refine A.take (i := 7) rfl (by kernel_rfl) (by kernel_rfl) (by kernel_rfl) (fun _ _ _ h => h) R323 rfl rfl (fun _ _ => (X.assign (evc' (.int .i64 0)))) ?_
                refine A.done (by kernel_rfl) ?_
                refine then_n ?_
                refine W.fresh ?_
                intro r325 er326
                have s327 : r325 6 = .pointer (some ⟨b21, 0, none⟩) := (congrFun er326 6).trans s249
                have s328 : r325 7 = s302.val := (congrFun er326 7).trans rfl
                have s329 : r325 8 = .bool false := (congrFun er326 8).trans rfl
                have s330 : r325 9 = .int .i64 0 := (congrFun er326 9).trans rfl
                clear er326
                have h331 := h232.gr g241
                have h332 := h331.gr g274
                have h333 := h332.gr g283
                have h334 := h333.gr g303
                have h335 := h334.st c320 (.tail _ (.head _))
                have pe336 : takeR t m id = (t, [(ansR m)], false, 0) := (by exact rtake_4 k59 k87 k142 hm194 k225 x167 k251)
                have hT337 : Tr (b107 :: b21 :: b12 :: b4 :: bs) w319 T t := h335
                have h339 := hs304.st c320 (.tail _ (.head _))
                have hS338 : Sl (b107 :: b21 :: b12 :: b4 :: bs) w319 s302 ([(ansR m)]) := h339
                refine W.ret (inb_r (then_r (then_r (inb_r (then_r (then_r (retCTTT rfl rfl (show _ = (.pointer (some ⟨b21, 0, none⟩) : Value) from s327) (run_loadAt_row rt24 (row_blk_trade hB321)) rfl (show _ = (s302.val : Value) from s328) rfl (show _ = (.bool false : Value) from s329) rfl (show _ = (.int .i64 0 : Value) from s330) ⟨T, s302, congrArg (fun (p : TakeT) => Value.tuple #[TV.val T, SV.val s302, .bool p.2.2.1, .int .i64 p.2.2.2]) (Eq.symm pe336), by rw [pe336]; exact hT337.tl.tl.tl.tl, by rw [pe336]; exact hS338.tl.tl.tl.tl, R322⟩)))))))
              · skip
                have h340 := h114.gr g108
                have h341 := h340.st c120 ne115
                have h342 := h341.gr g133
                have h343 := h342.gr R162
                have h344 := h343.gr g188
                have h345 := h344.gr g227
                have h346 := h345.gr g241
                have h347 := h346.gr g274
                have h348 := h347.gr g283
                refine E.eff0 (i := 4) rfl rfl rfl (Y.storeW (ds := T.arr) (ev' (.pointer (some ⟨b21, 0, none⟩)) rfl s249) (ev' (T.val) rfl rfl) h348 (n := 4) rfl sz24 rfl (TV.oneCell _) rfl) ?_
                rintro w349 ⟨c350, hB351⟩
                have R352 := R284.stN c350 l28
                have R353 := R286.stO c350 (.head _)
                refine ⟨R353, ?_⟩
                refine A.one (i := 3) (by kernel_rfl) ?_
                have h355 := hl.new g5 hB6.lt
                have h356 := h355.new g13 hB14.lt
                have h357 := h356.new g22 hB23.lt
                have h358 := h357.gr g42
                have h359 := h358.gr g78
                have h360 := h359.new g108 hB109.lt
                have h361 := h360.gr c120
                have h362 := h361.gr g133
                have h363 := h362.gr R162
                have h364 := h363.gr g188
                have h365 := h364.gr g227
                have h366 := h365.gr g241
                have h367 := h366.gr g274
                have h368 := h367.gr g283
                have h369 := h368.gr c350
                refine E.eff (i := 3) rfl rfl rfl (Y.slice1 (bs := (b107 :: b21 :: b12 :: b4 :: bs)) (ev' (.agg (ansR m).arr) rfl rfl) h369) ?_
                rintro _ w370 ⟨s371, rfl, g372, hs373⟩
                have R374 := R352.gr g372
                have R375 := R353.gr g372
                refine ⟨R375, ?_⟩
                refine A.take (i := 5) rfl (by kernel_rfl) (by kernel_rfl) (by kernel_rfl) (fun _ _ _ h => h) R375 rfl rfl (fun _ _ => (X.assign (ev' (s371.val) rfl rfl))) ?_
                refine A.take (i := 6) rfl (by kernel_rfl) (by kernel_rfl) (by kernel_rfl) (fun _ _ _ h => h) R375 rfl rfl (fun _ _ => (X.assign (evc' (.bool false)))) ?_
                refine A.take (i := 7) rfl (by kernel_rfl) (by kernel_rfl) (by kernel_rfl) (fun _ _ _ h => h) R375 rfl rfl (fun _ _ => (X.assign (evc' (.int .i64 0)))) ?_
                refine A.done (by kernel_rfl) ?_
                refine then_n ?_
                refine W.fresh ?_
                intro r377 er378
                have s379 : r377 6 = .pointer (some ⟨b21, 0, none⟩) := (congrFun er378 6).trans s249
                have s380 : r377 7 = s371.val := (congrFun er378 7).trans rfl
                have s381 : r377 8 = .bool false := (congrFun er378 8).trans rfl
                have s382 : r377 9 = .int .i64 0 := (congrFun er378 9).trans rfl
                clear er378
                have h383 := hB351.gr g372
                have h384 := h232.gr g241
                have h385 := h384.gr g274
                have h386 := h385.gr g283
                have h387 := h386.st c350 (.tail _ (.head _))
                have h388 := h387.gr g372
                have pe389 : takeR t m id = (t, [(ansR m)], false, 0) := (by exact rtake_4 k59 k87 k142 hm194 k225 x167 k251)
                have hT390 : Tr (b107 :: b21 :: b12 :: b4 :: bs) w370 T t := h388
                have hS391 : Sl (b107 :: b21 :: b12 :: b4 :: bs) w370 s371 ([(ansR m)]) := hs373
                refine W.ret (inb_r (then_r (then_r (inb_r (then_r (then_r (retCTTT rfl rfl (show _ = (.pointer (some ⟨b21, 0, none⟩) : Value) from s379) (run_loadAt_row rt24 (row_blk_trade h383)) rfl (show _ = (s371.val : Value) from s380) rfl (show _ = (.bool false : Value) from s381) rfl (show _ = (.int .i64 0 : Value) from s382) ⟨T, s371, congrArg (fun (p : TakeT) => Value.tuple #[TV.val T, SV.val s371, .bool p.2.2.1, .int .i64 p.2.2.2]) (Eq.symm pe389), by rw [pe389]; exact hT390.tl.tl.tl.tl, by rw [pe389]; exact hS391.tl.tl.tl.tl, R374⟩)))))))
          · skip
            refine W.skip ?_
            refine inb_n ?_
            refine then_n ?_
            refine W.reg ?_
            refine W.val rfl rfl (X.move (ev' (.int .i64 ((i157 : Nat) : Int)) rfl s223)) ?_
            refine W.val rfl rfl (X.inc (ev' (.int .i64 ((i157 : Nat) : Int)) rfl rfl) (evc' (.int .i64 1)) lt172 ht.r.bnd) ?_
            refine W.val rfl rfl (X.assign (ev' (.int .i64 ((i157 + 1 : Nat) : Int)) rfl rfl)) ?_
            refine W.nil ?_
            refine then_n ?_
            exact ⟨_, rfl, lt172, rfl, R190, s219, s220, s221, s222, (take_step hm194 x167 k225)⟩
        · skip
          have ei392 : i157 = T.r.n := Nat.le_antisymm le160 (Nat.le_of_not_lt fun h => of_decide_eq_false k186 (Int.ofNat_lt.2 h))
          refine W.exit (then_x (then_x (inb_x ?_)))
          refine then_n ?_
          refine W.seq ?_
          refine W.seq ?_
          refine W.reg ?_
          refine W.val rfl rfl (X.fieldAddr (ev' (.pointer (some ⟨b4, 0, none⟩)) rfl s180) fo24_2 (b := ⟨b4, 2, none⟩) (Addr.add_lit _ _ _)) ?_
          refine W.val rfl rfl (X.load (ev' (.pointer (some ⟨b4, 2, none⟩)) rfl rfl) pt22 (Blk.lc h177 rfl)) ?_
          refine W.val rfl rfl (X.len (ev' (T.r.val) rfl rfl) st22) ?_
          refine W.val rfl rfl (X.eql (ev' (.int .i64 (T.r.n : Int)) rfl rfl) (evc' (.int .i64 4096))) ?_
          refine W.nil ?_
          refine then_n ?_
          refine W.fresh ?_
          intro r393 er394
          have s395 : r393 3 = .pointer (some ⟨b4, 0, none⟩) := (congrFun er394 3).trans s180
          have s396 : r393 4 = .pointer (some ⟨b12, 0, none⟩) := (congrFun er394 4).trans s181
          have s397 : r393 6 = .pointer (some ⟨b21, 0, none⟩) := (congrFun er394 6).trans s182
          have s398 : r393 11 = .pointer (some ⟨b107, 0, none⟩) := (congrFun er394 11).trans s183
          have s399 : r393 76 = .bool (((T.r.n : Int) : Int) == (4096 : Int)) := (congrFun er394 76).trans rfl
          clear er394
          refine W.cond rfl s399 (fun k400 => ?_) (fun k400 => ?_)
          · skip
            refine W.seq ?_
            refine W.reg ?_
            refine W.val rfl rfl X.build24 ?_
            have h401 := h114.gr g108
            have h402 := h401.st c120 ne115
            have h403 := h402.gr g133
            have h404 := h403.gr R162
            refine W.eff0 rfl rfl (Y.storeW (ds := TV.zero.arr) (ev' (.pointer (some ⟨b21, 0, none⟩)) rfl s397) (ev' (TV.zero.val) rfl rfl) h404 (n := 4) rfl sz24 rfl (TV.oneCell _) rfl) ?_
            rintro w405 ⟨c406, hB407⟩
            have R408 := R173.stN c406 l28
            refine W.val rfl rfl (X.assign (evc' (SV.nil.val))) ?_
            refine W.val rfl rfl (X.assign (evc' (.bool false))) ?_
            refine W.val rfl rfl (X.assign (evc' (.int .i64 2))) ?_
            refine W.nil ?_
            refine then_n ?_
            refine W.fresh ?_
            intro r410 er411
            have s412 : r410 6 = .pointer (some ⟨b21, 0, none⟩) := (congrFun er411 6).trans s397
            have s413 : r410 7 = SV.nil.val := (congrFun er411 7).trans rfl
            have s414 : r410 8 = .bool false := (congrFun er411 8).trans rfl
            have s415 : r410 9 = .int .i64 2 := (congrFun er411 9).trans rfl
            clear er411
            have pe416 : takeR t m id = (Trade.zero, [], false, 2) := (by exact rtake_5 ht.r.len k59 k87 k142 ei392 x167 k400)
            have hT417 : Tr (b107 :: b21 :: b12 :: b4 :: bs) w405 TV.zero Trade.zero := (Tr.zero_ _ _)
            have hS418 : Sl (b107 :: b21 :: b12 :: b4 :: bs) w405 SV.nil ([]) := (Sl.none_ _ _)
            refine W.ret (then_r (then_r (retCTTT rfl rfl (show _ = (.pointer (some ⟨b21, 0, none⟩) : Value) from s412) (run_loadAt_row rt24 (row_blk_trade hB407)) rfl (show _ = (SV.nil.val : Value) from s413) rfl (show _ = (.bool false : Value) from s414) rfl (show _ = (.int .i64 2 : Value) from s415) ⟨TV.zero, SV.nil, congrArg (fun (p : TakeT) => Value.tuple #[TV.val TV.zero, SV.val SV.nil, .bool p.2.2.1, .int .i64 p.2.2.2]) (Eq.symm pe416), by rw [pe416]; exact hT417.tl.tl.tl.tl, by rw [pe416]; exact hS418.tl.tl.tl.tl, R408⟩)))
          · skip
            refine W.skip ?_
            refine then_n ?_
            refine W.seq ?_
            refine A.begin' (cs := [b107]) rfl ?_
            intro w419 g420
            have R421 := R173.gr g420
            have R422 := R162.gr g420
            have R423 : Chg [b107] w419 w419 := Chg.of_refl _ _
            refine A.take (i := 1) rfl (by kernel_rfl) (by kernel_rfl) (by kernel_rfl) (fun _ _ _ h => h) R423 rfl rfl (fun _ _ => (X.fieldAddr (ev' (.pointer (some ⟨b4, 0, none⟩)) rfl s395) fo24_2 (b := ⟨b4, 2, none⟩) (Addr.add_lit _ _ _))) ?_
            have h424 := h177.gr g420
            refine A.take (i := 2) rfl (by kernel_rfl) (by kernel_rfl) (by kernel_rfl) (fun _ _ _ h => h) R423 rfl rfl (fun _ hw => (X.load (ev' (.pointer (some ⟨b4, 2, none⟩)) rfl rfl) pt22 (Blk.lc (h424.chg hw (by simp [ne111])) rfl))) ?_
            have h425 := h131.gr g133
            have h426 := h425.gr R162
            have h427 := h426.gr g420
            refine A.take (i := 4) rfl (by kernel_rfl) (by kernel_rfl) (by kernel_rfl) (fun _ _ _ h => h) R423 rfl rfl (fun _ hw => (X.loadR (ev' (.pointer (some ⟨b12, 0, none⟩)) rfl s396) rt30 (row_blk_msg (h427.chg hw (by simp [ne112]))) rfl)) ?_
            refine A.two (i := 0) (j := 5) (by kernel_rfl) ?_ ?_
            · skip
              have R428 : Grow w419 w419 := Chg.refl _
              have h429 := hl.new g5 hB6.lt
              have h430 := h429.new g13 hB14.lt
              have h431 := h430.new g22 hB23.lt
              have h432 := h431.gr g42
              have h433 := h432.gr g78
              have h434 := h433.new g108 hB109.lt
              have h435 := h434.gr c120
              have h436 := h435.gr g133
              have h437 := h436.gr R162
              have h438 := h437.gr g420
              refine E.eff (i := 0) rfl rfl rfl (Y.own0c h438) ?_
              rintro v440 w439 ⟨_, rfl, g441, ho442, hc443⟩
              have R444 := R421.gr g441
              have R445 := R422.gr g441
              have R446 := R423.gr g441
              have R447 := R428.gr g441
              refine ⟨R446, ?_⟩
              refine A.two (i := 3) (j := 5) (by kernel_rfl) ?_ ?_
              · skip
                have h449 := h40.gr g42
                have h450 := h449.gr g78
                have h451 := (h450.ext lt110).gr g108
                have h452 := h451.st c120 (.head _)
                have h453 := h452.gr g133
                have h454 := h453.gr R162
                have h455 := h454.gr g420
                have h456 := h455.gr g441
                have h462 := h438.gr g441
                refine E.eff (i := 3) rfl rfl rfl (Y.append0 (ev' (v440) rfl rfl) (ev' (T.r.val) rfl rfl) ho442 hc443 h456.r (Nat.le_of_succ_le (received_len k59)) R447 h438 h462) ?_
                rintro v458 w457 ⟨_, n459, rfl, g460, ho461⟩
                have R463 := R444.gr g460
                have R464 := R445.gr g460
                have R465 := R446.gr g460
                have R466 := R447.gr g460
                refine ⟨R465, ?_⟩
                refine A.one (i := 5) (by kernel_rfl) ?_
                have h468 := h462.gr g460
                refine E.eff (i := 5) rfl rfl rfl (Y.slice1 (bs := (b107 :: b21 :: b12 :: b4 :: bs)) (ev' (.agg m.arr) rfl rfl) h468) ?_
                rintro _ w469 ⟨s470, rfl, g471, hs472⟩
                have R473 := R463.gr g471
                have R474 := R464.gr g471
                have R475 := R465.gr g471
                have R476 := R466.gr g471
                refine ⟨R475, ?_⟩
                refine A.one (i := 6) (by kernel_rfl) ?_
                have h478 := ho461.gr g471
                refine E.eff (i := 6) rfl rfl rfl (Y.appendOwnS (ev' (v458) rfl rfl) (ev' (s470.val) rfl rfl) h478 hs472 (by simp) (received_len k59) R476 h438) ?_
                rintro _ w479 ⟨s480, rfl, g481, hs482⟩
                have R483 := R421.gr g481
                have R484 := R422.gr g481
                have R485 := R423.gr g481
                refine ⟨R485, ?_⟩
                refine A.take (i := 7) rfl (by kernel_rfl) (by kernel_rfl) (by kernel_rfl) (fun _ _ _ h => h) R485 rfl rfl (fun _ _ => (X.fieldAddr (ev' (.pointer (some ⟨b107, 0, none⟩)) rfl s398) fo24_2 (b := ⟨b107, 2, none⟩) (Addr.add_lit _ _ _))) ?_
                refine A.one (i := 8) (by kernel_rfl) ?_
                have h487 := hB121.gr g133
                have h488 := h487.gr R162
                have h489 := h488.gr g420
                have h490 := h489.gr g481
                refine E.eff0 (i := 8) rfl rfl rfl (Y.storeC (ds := ({ T with r := s480 } : TV).arr) (ev' (.pointer (some ⟨b107, 2, none⟩)) rfl rfl) (ev' (s480.val) rfl rfl) h490 (show 2 < 4 from by decide) sz22 rfl rfl rfl) ?_
                rintro w491 ⟨c492, hB493⟩
                have R494 := R483.stN c492 l116
                have R495 := R485.stO c492 (.head _)
                refine ⟨R495, ?_⟩
                refine A.done (by kernel_rfl) ?_
                refine then_n ?_
                refine W.fresh ?_
                intro r497 er498
                have s499 : r497 4 = .pointer (some ⟨b12, 0, none⟩) := (congrFun er498 4).trans s396
                have s500 : r497 6 = .pointer (some ⟨b21, 0, none⟩) := (congrFun er498 6).trans s397
                have s501 : r497 11 = .pointer (some ⟨b107, 0, none⟩) := (congrFun er498 11).trans s398
                clear er498
                refine W.seq ?_
                refine A.begin' (cs := [b21]) rfl ?_
                intro w502 g503
                have R504 := R494.gr g503
                have R505 : Chg [b21] w502 w502 := Chg.of_refl _ _
                have h506 := hB493.gr g503
                refine A.take (i := 0) rfl (by kernel_rfl) (by kernel_rfl) (by kernel_rfl) (fun _ _ _ h => h) R505 rfl rfl (fun _ hw => (X.loadR (ev' (.pointer (some ⟨b107, 0, none⟩)) rfl s501) rt24 (row_blk_trade (h506.chg hw (by simp [ne115.symm]))) rfl)) ?_
                have h507 := h427.gr g481
                have h508 := h507.st c492 ne112
                have h509 := h508.gr g503
                refine A.take (i := 1) rfl (by kernel_rfl) (by kernel_rfl) (by kernel_rfl) (fun _ _ _ h => h) R505 rfl rfl (fun _ hw => (X.loadR (ev' (.pointer (some ⟨b12, 0, none⟩)) rfl s499) rt30 (row_blk_msg (h509.chg hw (by simp [ne27]))) rfl)) ?_
                refine A.one (i := 2) (by kernel_rfl) ?_
                refine E.call (i := 2) rfl rfl rfl (X.callF go46 (args1 (ev' (.agg m.arr) rfl rfl))) (ansR_c m _) ?_
                rintro _ w510 ⟨rfl, g511⟩
                have R512 := R504.gr g511
                have R513 := R505.gr g511
                refine ⟨R513, ?_⟩
                refine A.two (i := 3) (j := 4) (by kernel_rfl) ?_ ?_
                · skip
                  have h514 := h438.gr g481
                  have h515 := h514.gr c492
                  have h516 := h515.gr g503
                  have h517 := h516.gr g511
                  refine E.eff (i := 3) rfl rfl rfl (Y.slice1 (bs := (b107 :: b21 :: b12 :: b4 :: bs)) (ev' (.agg (ansR m).arr) rfl rfl) h517) ?_
                  rintro _ w518 ⟨s519, rfl, g520, hs521⟩
                  have R522 := R512.gr g520
                  have R523 := R513.gr g520
                  refine ⟨R523, ?_⟩
                  refine A.one (i := 4) (by kernel_rfl) ?_
                  have h525 := h114.gr g108
                  have h526 := h525.st c120 ne115
                  have h527 := h526.gr g133
                  have h528 := h527.gr R162
                  have h529 := h528.gr g420
                  have h530 := h529.gr g481
                  have h531 := h530.st c492 ne115
                  have h532 := h531.gr g503
                  have h533 := h532.gr g511
                  have h534 := h533.gr g520
                  refine E.eff0 (i := 4) rfl rfl rfl (Y.storeW (ds := ({ T with r := s480 } : TV).arr) (ev' (.pointer (some ⟨b21, 0, none⟩)) rfl s500) (ev' (({ T with r := s480 } : TV).val) rfl rfl) h534 (n := 4) rfl sz24 rfl (TV.oneCell _) rfl) ?_
                  rintro w535 ⟨c536, hB537⟩
                  have R538 := R522.stN c536 l28
                  have R539 := R523.stO c536 (.head _)
                  refine ⟨R539, ?_⟩
                  refine A.take (i := 5) rfl (by kernel_rfl) (by kernel_rfl) (by kernel_rfl) (fun _ _ _ h => h) R539 rfl rfl (fun _ _ => (X.assign (ev' (s519.val) rfl rfl))) ?_
                  refine A.take (i := 6) rfl (by kernel_rfl) (by kernel_rfl) (by kernel_rfl) (fun _ _ _ h => h) R539 rfl rfl (fun _ _ => (X.assign (evc' (.bool true)))) ?_
                  refine A.take (i := 7) rfl (by kernel_rfl) (by kernel_rfl) (by kernel_rfl) (fun _ _ _ h => h) R539 rfl rfl (fun _ _ => (X.assign (evc' (.int .i64 0)))) ?_
                  refine A.done (by kernel_rfl) ?_
                  refine then_n ?_
                  refine W.fresh ?_
                  intro r541 er542
                  have s543 : r541 6 = .pointer (some ⟨b21, 0, none⟩) := (congrFun er542 6).trans s500
                  have s544 : r541 7 = s519.val := (congrFun er542 7).trans rfl
                  have s545 : r541 8 = .bool true := (congrFun er542 8).trans rfl
                  have s546 : r541 9 = .int .i64 0 := (congrFun er542 9).trans rfl
                  clear er542
                  have h547 := h455.gr g481
                  have h548 := h547.st c492 (.head _)
                  have h549 := h548.gr g503
                  have h550 := h549.gr g511
                  have h551 := h550.gr g520
                  have h552 := h551.st c536 (.tail _ (.head _))
                  have h553 := hs482.st c492 (.head _)
                  have h554 := h553.gr g503
                  have h555 := h554.gr g511
                  have h556 := h555.gr g520
                  have h557 := h556.st c536 (.tail _ (.head _))
                  have pe558 : takeR t m id = (({ t with received := (t.received ++ [m]) } : Trade), [(ansR m)], true, 0) := (by exact rtake_6 ht.r.len k59 k87 k142 ei392 x167 k400)
                  have hT559 : Tr (b107 :: b21 :: b12 :: b4 :: bs) w535 ({ T with r := s480 } : TV) ({ t with received := (t.received ++ [m]) } : Trade) := ⟨h552.next, h552.p, h557, h552.d⟩
                  have h561 := hs521.st c536 (.tail _ (.head _))
                  have hS560 : Sl (b107 :: b21 :: b12 :: b4 :: bs) w535 s519 ([(ansR m)]) := h561
                  refine W.ret (then_r (retCTTT rfl rfl (show _ = (.pointer (some ⟨b21, 0, none⟩) : Value) from s543) (run_loadAt_row rt24 (row_blk_trade hB537)) rfl (show _ = (s519.val : Value) from s544) rfl (show _ = (.bool true : Value) from s545) rfl (show _ = (.int .i64 0 : Value) from s546) ⟨({ T with r := s480 } : TV), s519, congrArg (fun (p : TakeT) => Value.tuple #[TV.val ({ T with r := s480 } : TV), SV.val s519, .bool p.2.2.1, .int .i64 p.2.2.2]) (Eq.symm pe558), by rw [pe558]; exact hT559.tl.tl.tl.tl, by rw [pe558]; exact hS560.tl.tl.tl.tl, R538⟩))
                · skip
                  have h562 := h114.gr g108
                  have h563 := h562.st c120 ne115
                  have h564 := h563.gr g133
                  have h565 := h564.gr R162
                  have h566 := h565.gr g420
                  have h567 := h566.gr g481
                  have h568 := h567.st c492 ne115
                  have h569 := h568.gr g503
                  have h570 := h569.gr g511
                  refine E.eff0 (i := 4) rfl rfl rfl (Y.storeW (ds := ({ T with r := s480 } : TV).arr) (ev' (.pointer (some ⟨b21, 0, none⟩)) rfl s500) (ev' (({ T with r := s480 } : TV).val) rfl rfl) h570 (n := 4) rfl sz24 rfl (TV.oneCell _) rfl) ?_
                  rintro w571 ⟨c572, hB573⟩
                  have R574 := R512.stN c572 l28
                  have R575 := R513.stO c572 (.head _)
                  refine ⟨R575, ?_⟩
                  refine A.one (i := 3) (by kernel_rfl) ?_
                  have h577 := h438.gr g481
                  have h578 := h577.gr c492
                  have h579 := h578.gr g503
                  have h580 := h579.gr g511
                  have h581 := h580.gr c572
                  refine E.eff (i := 3) rfl rfl rfl (Y.slice1 (bs := (b107 :: b21 :: b12 :: b4 :: bs)) (ev' (.agg (ansR m).arr) rfl rfl) h581) ?_
                  rintro _ w582 ⟨s583, rfl, g584, hs585⟩
                  have R586 := R574.gr g584
                  have R587 := R575.gr g584
                  refine ⟨R587, ?_⟩
                  refine A.take (i := 5) rfl (by kernel_rfl) (by kernel_rfl) (by kernel_rfl) (fun _ _ _ h => h) R587 rfl rfl (fun _ _ => (X.assign (ev' (s583.val) rfl rfl))) ?_
                  refine A.take (i := 6) rfl (by kernel_rfl) (by kernel_rfl) (by kernel_rfl) (fun _ _ _ h => h) R587 rfl rfl (fun _ _ => (X.assign (evc' (.bool true)))) ?_
                  refine A.take (i := 7) rfl (by kernel_rfl) (by kernel_rfl) (by kernel_rfl) (fun _ _ _ h => h) R587 rfl rfl (fun _ _ => (X.assign (evc' (.int .i64 0)))) ?_
                  refine A.done (by kernel_rfl) ?_
                  refine then_n ?_
                  refine W.fresh ?_
                  intro r589 er590
                  have s591 : r589 6 = .pointer (some ⟨b21, 0, none⟩) := (congrFun er590 6).trans s500
                  have s592 : r589 7 = s583.val := (congrFun er590 7).trans rfl
                  have s593 : r589 8 = .bool true := (congrFun er590 8).trans rfl
                  have s594 : r589 9 = .int .i64 0 := (congrFun er590 9).trans rfl
                  clear er590
                  have h595 := hB573.gr g584
                  have h596 := h455.gr g481
                  have h597 := h596.st c492 (.head _)
                  have h598 := h597.gr g503
                  have h599 := h598.gr g511
                  have h600 := h599.st c572 (.tail _ (.head _))
                  have h601 := h600.gr g584
                  have h602 := hs482.st c492 (.head _)
                  have h603 := h602.gr g503
                  have h604 := h603.gr g511
                  have h605 := h604.st c572 (.tail _ (.head _))
                  have h606 := h605.gr g584
                  have pe607 : takeR t m id = (({ t with received := (t.received ++ [m]) } : Trade), [(ansR m)], true, 0) := (by exact rtake_6 ht.r.len k59 k87 k142 ei392 x167 k400)
                  have hT608 : Tr (b107 :: b21 :: b12 :: b4 :: bs) w582 ({ T with r := s480 } : TV) ({ t with received := (t.received ++ [m]) } : Trade) := ⟨h601.next, h601.p, h606, h601.d⟩
                  have hS609 : Sl (b107 :: b21 :: b12 :: b4 :: bs) w582 s583 ([(ansR m)]) := hs585
                  refine W.ret (then_r (retCTTT rfl rfl (show _ = (.pointer (some ⟨b21, 0, none⟩) : Value) from s591) (run_loadAt_row rt24 (row_blk_trade h595)) rfl (show _ = (s583.val : Value) from s592) rfl (show _ = (.bool true : Value) from s593) rfl (show _ = (.int .i64 0 : Value) from s594) ⟨({ T with r := s480 } : TV), s583, congrArg (fun (p : TakeT) => Value.tuple #[TV.val ({ T with r := s480 } : TV), SV.val s583, .bool p.2.2.1, .int .i64 p.2.2.2]) (Eq.symm pe607), by rw [pe607]; exact hT608.tl.tl.tl.tl, by rw [pe607]; exact hS609.tl.tl.tl.tl, R586⟩))
              · skip
                have h610 := h438.gr g441
                refine E.eff (i := 5) rfl rfl rfl (Y.slice1 (bs := (b107 :: b21 :: b12 :: b4 :: bs)) (ev' (.agg m.arr) rfl rfl) h610) ?_
                rintro _ w611 ⟨s612, rfl, g613, hs614⟩
                have R615 := R444.gr g613
                have R616 := R445.gr g613
                have R617 := R446.gr g613
                have R618 := R447.gr g613
                refine ⟨R617, ?_⟩
                refine A.one (i := 3) (by kernel_rfl) ?_
                have h620 := ho442.gr g613
                have h621 := h40.gr g42
                have h622 := h621.gr g78
                have h623 := (h622.ext lt110).gr g108
                have h624 := h623.st c120 (.head _)
                have h625 := h624.gr g133
                have h626 := h625.gr R162
                have h627 := h626.gr g420
                have h628 := h627.gr g441
                have h629 := h628.gr g613
                have h635 := h610.gr g613
                refine E.eff (i := 3) rfl rfl rfl (Y.append0 (ev' (v440) rfl rfl) (ev' (T.r.val) rfl rfl) h620 hc443 h629.r (Nat.le_of_succ_le (received_len k59)) R618 h438 h635) ?_
                rintro v631 w630 ⟨_, n632, rfl, g633, ho634⟩
                have R636 := R615.gr g633
                have R637 := R616.gr g633
                have R638 := R617.gr g633
                have R639 := R618.gr g633
                refine ⟨R638, ?_⟩
                refine A.one (i := 6) (by kernel_rfl) ?_
                have h641 := hs614.gr g633
                refine E.eff (i := 6) rfl rfl rfl (Y.appendOwnS (ev' (v631) rfl rfl) (ev' (s612.val) rfl rfl) ho634 h641 (by simp) (received_len k59) R639 h438) ?_
                rintro _ w642 ⟨s643, rfl, g644, hs645⟩
                have R646 := R421.gr g644
                have R647 := R422.gr g644
                have R648 := R423.gr g644
                refine ⟨R648, ?_⟩
                refine A.take (i := 7) rfl (by kernel_rfl) (by kernel_rfl) (by kernel_rfl) (fun _ _ _ h => h) R648 rfl rfl (fun _ _ => (X.fieldAddr (ev' (.pointer (some ⟨b107, 0, none⟩)) rfl s398) fo24_2 (b := ⟨b107, 2, none⟩) (Addr.add_lit _ _ _))) ?_
                refine A.one (i := 8) (by kernel_rfl) ?_
                have h650 := hB121.gr g133
                have h651 := h650.gr R162
                have h652 := h651.gr g420
                have h653 := h652.gr g644
                refine E.eff0 (i := 8) rfl rfl rfl (Y.storeC (ds := ({ T with r := s643 } : TV).arr) (ev' (.pointer (some ⟨b107, 2, none⟩)) rfl rfl) (ev' (s643.val) rfl rfl) h653 (show 2 < 4 from by decide) sz22 rfl rfl rfl) ?_
                rintro w654 ⟨c655, hB656⟩
                have R657 := R646.stN c655 l116
                have R658 := R648.stO c655 (.head _)
                refine ⟨R658, ?_⟩
                refine A.done (by kernel_rfl) ?_
                refine then_n ?_
                refine W.fresh ?_
                intro r660 er661
                have s662 : r660 4 = .pointer (some ⟨b12, 0, none⟩) := (congrFun er661 4).trans s396
                have s663 : r660 6 = .pointer (some ⟨b21, 0, none⟩) := (congrFun er661 6).trans s397
                have s664 : r660 11 = .pointer (some ⟨b107, 0, none⟩) := (congrFun er661 11).trans s398
                clear er661
                refine W.seq ?_
                refine A.begin' (cs := [b21]) rfl ?_
                intro w665 g666
                have R667 := R657.gr g666
                have R668 : Chg [b21] w665 w665 := Chg.of_refl _ _
                have h669 := hB656.gr g666
                refine A.take (i := 0) rfl (by kernel_rfl) (by kernel_rfl) (by kernel_rfl) (fun _ _ _ h => h) R668 rfl rfl (fun _ hw => (X.loadR (ev' (.pointer (some ⟨b107, 0, none⟩)) rfl s664) rt24 (row_blk_trade (h669.chg hw (by simp [ne115.symm]))) rfl)) ?_
                have h670 := h427.gr g644
                have h671 := h670.st c655 ne112
                have h672 := h671.gr g666
                refine A.take (i := 1) rfl (by kernel_rfl) (by kernel_rfl) (by kernel_rfl) (fun _ _ _ h => h) R668 rfl rfl (fun _ hw => (X.loadR (ev' (.pointer (some ⟨b12, 0, none⟩)) rfl s662) rt30 (row_blk_msg (h672.chg hw (by simp [ne27]))) rfl)) ?_
                refine A.one (i := 2) (by kernel_rfl) ?_
                refine E.call (i := 2) rfl rfl rfl (X.callF go46 (args1 (ev' (.agg m.arr) rfl rfl))) (ansR_c m _) ?_
                rintro _ w673 ⟨rfl, g674⟩
                have R675 := R667.gr g674
                have R676 := R668.gr g674
                refine ⟨R676, ?_⟩
                refine A.two (i := 3) (j := 4) (by kernel_rfl) ?_ ?_
                · skip
                  have h677 := h438.gr g644
                  have h678 := h677.gr c655
                  have h679 := h678.gr g666
                  have h680 := h679.gr g674
                  refine E.eff (i := 3) rfl rfl rfl (Y.slice1 (bs := (b107 :: b21 :: b12 :: b4 :: bs)) (ev' (.agg (ansR m).arr) rfl rfl) h680) ?_
                  rintro _ w681 ⟨s682, rfl, g683, hs684⟩
                  have R685 := R675.gr g683
                  have R686 := R676.gr g683
                  refine ⟨R686, ?_⟩
                  refine A.one (i := 4) (by kernel_rfl) ?_
                  have h688 := h114.gr g108
                  have h689 := h688.st c120 ne115
                  have h690 := h689.gr g133
                  have h691 := h690.gr R162
                  have h692 := h691.gr g420
                  have h693 := h692.gr g644
                  have h694 := h693.st c655 ne115
                  have h695 := h694.gr g666
                  have h696 := h695.gr g674
                  have h697 := h696.gr g683
                  refine E.eff0 (i := 4) rfl rfl rfl (Y.storeW (ds := ({ T with r := s643 } : TV).arr) (ev' (.pointer (some ⟨b21, 0, none⟩)) rfl s663) (ev' (({ T with r := s643 } : TV).val) rfl rfl) h697 (n := 4) rfl sz24 rfl (TV.oneCell _) rfl) ?_
                  rintro w698 ⟨c699, hB700⟩
                  have R701 := R685.stN c699 l28
                  have R702 := R686.stO c699 (.head _)
                  refine ⟨R702, ?_⟩
                  refine A.take (i := 5) rfl (by kernel_rfl) (by kernel_rfl) (by kernel_rfl) (fun _ _ _ h => h) R702 rfl rfl (fun _ _ => (X.assign (ev' (s682.val) rfl rfl))) ?_
                  refine A.take (i := 6) rfl (by kernel_rfl) (by kernel_rfl) (by kernel_rfl) (fun _ _ _ h => h) R702 rfl rfl (fun _ _ => (X.assign (evc' (.bool true)))) ?_
                  refine A.take (i := 7) rfl (by kernel_rfl) (by kernel_rfl) (by kernel_rfl) (fun _ _ _ h => h) R702 rfl rfl (fun _ _ => (X.assign (evc' (.int .i64 0)))) ?_
                  refine A.done (by kernel_rfl) ?_
                  refine then_n ?_
                  refine W.fresh ?_
                  intro r704 er705
                  have s706 : r704 6 = .pointer (some ⟨b21, 0, none⟩) := (congrFun er705 6).trans s663
                  have s707 : r704 7 = s682.val := (congrFun er705 7).trans rfl
                  have s708 : r704 8 = .bool true := (congrFun er705 8).trans rfl
                  have s709 : r704 9 = .int .i64 0 := (congrFun er705 9).trans rfl
                  clear er705
                  have h710 := h627.gr g644
                  have h711 := h710.st c655 (.head _)
                  have h712 := h711.gr g666
                  have h713 := h712.gr g674
                  have h714 := h713.gr g683
                  have h715 := h714.st c699 (.tail _ (.head _))
                  have h716 := hs645.st c655 (.head _)
                  have h717 := h716.gr g666
                  have h718 := h717.gr g674
                  have h719 := h718.gr g683
                  have h720 := h719.st c699 (.tail _ (.head _))
                  have pe721 : takeR t m id = (({ t with received := (t.received ++ [m]) } : Trade), [(ansR m)], true, 0) := (by exact rtake_6 ht.r.len k59 k87 k142 ei392 x167 k400)
                  have hT722 : Tr (b107 :: b21 :: b12 :: b4 :: bs) w698 ({ T with r := s643 } : TV) ({ t with received := (t.received ++ [m]) } : Trade) := ⟨h715.next, h715.p, h720, h715.d⟩
                  have h724 := hs684.st c699 (.tail _ (.head _))
                  have hS723 : Sl (b107 :: b21 :: b12 :: b4 :: bs) w698 s682 ([(ansR m)]) := h724
                  refine W.ret (then_r (retCTTT rfl rfl (show _ = (.pointer (some ⟨b21, 0, none⟩) : Value) from s706) (run_loadAt_row rt24 (row_blk_trade hB700)) rfl (show _ = (s682.val : Value) from s707) rfl (show _ = (.bool true : Value) from s708) rfl (show _ = (.int .i64 0 : Value) from s709) ⟨({ T with r := s643 } : TV), s682, congrArg (fun (p : TakeT) => Value.tuple #[TV.val ({ T with r := s643 } : TV), SV.val s682, .bool p.2.2.1, .int .i64 p.2.2.2]) (Eq.symm pe721), by rw [pe721]; exact hT722.tl.tl.tl.tl, by rw [pe721]; exact hS723.tl.tl.tl.tl, R701⟩))
                · skip
                  have h725 := h114.gr g108
                  have h726 := h725.st c120 ne115
                  have h727 := h726.gr g133
                  have h728 := h727.gr R162
                  have h729 := h728.gr g420
                  have h730 := h729.gr g644
                  have h731 := h730.st c655 ne115
                  have h732 := h731.gr g666
                  have h733 := h732.gr g674
                  refine E.eff0 (i := 4) rfl rfl rfl (Y.storeW (ds := ({ T with r := s643 } : TV).arr) (ev' (.pointer (some ⟨b21, 0, none⟩)) rfl s663) (ev' (({ T with r := s643 } : TV).val) rfl rfl) h733 (n := 4) rfl sz24 rfl (TV.oneCell _) rfl) ?_
                  rintro w734 ⟨c735, hB736⟩
                  have R737 := R675.stN c735 l28
                  have R738 := R676.stO c735 (.head _)
                  refine ⟨R738, ?_⟩
                  refine A.one (i := 3) (by kernel_rfl) ?_
                  have h740 := h438.gr g644
                  have h741 := h740.gr c655
                  have h742 := h741.gr g666
                  have h743 := h742.gr g674
                  have h744 := h743.gr c735
                  refine E.eff (i := 3) rfl rfl rfl (Y.slice1 (bs := (b107 :: b21 :: b12 :: b4 :: bs)) (ev' (.agg (ansR m).arr) rfl rfl) h744) ?_
                  rintro _ w745 ⟨s746, rfl, g747, hs748⟩
                  have R749 := R737.gr g747
                  have R750 := R738.gr g747
                  refine ⟨R750, ?_⟩
                  refine A.take (i := 5) rfl (by kernel_rfl) (by kernel_rfl) (by kernel_rfl) (fun _ _ _ h => h) R750 rfl rfl (fun _ _ => (X.assign (ev' (s746.val) rfl rfl))) ?_
                  refine A.take (i := 6) rfl (by kernel_rfl) (by kernel_rfl) (by kernel_rfl) (fun _ _ _ h => h) R750 rfl rfl (fun _ _ => (X.assign (evc' (.bool true)))) ?_
                  refine A.take (i := 7) rfl (by kernel_rfl) (by kernel_rfl) (by kernel_rfl) (fun _ _ _ h => h) R750 rfl rfl (fun _ _ => (X.assign (evc' (.int .i64 0)))) ?_
                  refine A.done (by kernel_rfl) ?_
                  refine then_n ?_
                  refine W.fresh ?_
                  intro r752 er753
                  have s754 : r752 6 = .pointer (some ⟨b21, 0, none⟩) := (congrFun er753 6).trans s663
                  have s755 : r752 7 = s746.val := (congrFun er753 7).trans rfl
                  have s756 : r752 8 = .bool true := (congrFun er753 8).trans rfl
                  have s757 : r752 9 = .int .i64 0 := (congrFun er753 9).trans rfl
                  clear er753
                  have h758 := hB736.gr g747
                  have h759 := h627.gr g644
                  have h760 := h759.st c655 (.head _)
                  have h761 := h760.gr g666
                  have h762 := h761.gr g674
                  have h763 := h762.st c735 (.tail _ (.head _))
                  have h764 := h763.gr g747
                  have h765 := hs645.st c655 (.head _)
                  have h766 := h765.gr g666
                  have h767 := h766.gr g674
                  have h768 := h767.st c735 (.tail _ (.head _))
                  have h769 := h768.gr g747
                  have pe770 : takeR t m id = (({ t with received := (t.received ++ [m]) } : Trade), [(ansR m)], true, 0) := (by exact rtake_6 ht.r.len k59 k87 k142 ei392 x167 k400)
                  have hT771 : Tr (b107 :: b21 :: b12 :: b4 :: bs) w745 ({ T with r := s643 } : TV) ({ t with received := (t.received ++ [m]) } : Trade) := ⟨h764.next, h764.p, h769, h764.d⟩
                  have hS772 : Sl (b107 :: b21 :: b12 :: b4 :: bs) w745 s746 ([(ansR m)]) := hs748
                  refine W.ret (then_r (retCTTT rfl rfl (show _ = (.pointer (some ⟨b21, 0, none⟩) : Value) from s754) (run_loadAt_row rt24 (row_blk_trade h758)) rfl (show _ = (s746.val : Value) from s755) rfl (show _ = (.bool true : Value) from s756) rfl (show _ = (.int .i64 0 : Value) from s757) ⟨({ T with r := s643 } : TV), s746, congrArg (fun (p : TakeT) => Value.tuple #[TV.val ({ T with r := s643 } : TV), SV.val s746, .bool p.2.2.1, .int .i64 p.2.2.2]) (Eq.symm pe770), by rw [pe770]; exact hT771.tl.tl.tl.tl, by rw [pe770]; exact hS772.tl.tl.tl.tl, R749⟩))
            · skip
              have h773 := hl.new g5 hB6.lt
              have h774 := h773.new g13 hB14.lt
              have h775 := h774.new g22 hB23.lt
              have h776 := h775.gr g42
              have h777 := h776.gr g78
              have h778 := h777.new g108 hB109.lt
              have h779 := h778.gr c120
              have h780 := h779.gr g133
              have h781 := h780.gr R162
              have h782 := h781.gr g420
              refine E.eff (i := 5) rfl rfl rfl (Y.slice1 (bs := (b107 :: b21 :: b12 :: b4 :: bs)) (ev' (.agg m.arr) rfl rfl) h782) ?_
              rintro _ w783 ⟨s784, rfl, g785, hs786⟩
              have R787 := R421.gr g785
              have R788 := R422.gr g785
              have R789 := R423.gr g785
              refine ⟨R789, ?_⟩
              refine A.one (i := 0) (by kernel_rfl) ?_
              have R791 : Grow w783 w783 := Chg.refl _
              have h792 := h782.gr g785
              refine E.eff (i := 0) rfl rfl rfl (Y.own0c h792) ?_
              rintro v794 w793 ⟨_, rfl, g795, ho796, hc797⟩
              have R798 := R787.gr g795
              have R799 := R788.gr g795
              have R800 := R789.gr g795
              have R801 := R791.gr g795
              refine ⟨R800, ?_⟩
              refine A.one (i := 3) (by kernel_rfl) ?_
              have h803 := h40.gr g42
              have h804 := h803.gr g78
              have h805 := (h804.ext lt110).gr g108
              have h806 := h805.st c120 (.head _)
              have h807 := h806.gr g133
              have h808 := h807.gr R162
              have h809 := h808.gr g420
              have h810 := h809.gr g785
              have h811 := h810.gr g795
              have h817 := h792.gr g795
              refine E.eff (i := 3) rfl rfl rfl (Y.append0 (ev' (v794) rfl rfl) (ev' (T.r.val) rfl rfl) ho796 hc797 h811.r (Nat.le_of_succ_le (received_len k59)) R801 h792 h817) ?_
              rintro v813 w812 ⟨_, n814, rfl, g815, ho816⟩
              have R818 := R798.gr g815
              have R819 := R799.gr g815
              have R820 := R800.gr g815
              have R821 := R801.gr g815
              refine ⟨R820, ?_⟩
              refine A.one (i := 6) (by kernel_rfl) ?_
              have h823 := hs786.gr g795
              have h824 := h823.gr g815
              refine E.eff (i := 6) rfl rfl rfl (Y.appendOwnS (ev' (v813) rfl rfl) (ev' (s784.val) rfl rfl) ho816 h824 (by simp) (received_len k59) R821 h792) ?_
              rintro _ w825 ⟨s826, rfl, g827, hs828⟩
              have R829 := R787.gr g827
              have R830 := R788.gr g827
              have R831 := R789.gr g827
              refine ⟨R831, ?_⟩
              refine A.take (i := 7) rfl (by kernel_rfl) (by kernel_rfl) (by kernel_rfl) (fun _ _ _ h => h) R831 rfl rfl (fun _ _ => (X.fieldAddr (ev' (.pointer (some ⟨b107, 0, none⟩)) rfl s398) fo24_2 (b := ⟨b107, 2, none⟩) (Addr.add_lit _ _ _))) ?_
              refine A.one (i := 8) (by kernel_rfl) ?_
              have h833 := hB121.gr g133
              have h834 := h833.gr R162
              have h835 := h834.gr g420
              have h836 := h835.gr g785
              have h837 := h836.gr g827
              refine E.eff0 (i := 8) rfl rfl rfl (Y.storeC (ds := ({ T with r := s826 } : TV).arr) (ev' (.pointer (some ⟨b107, 2, none⟩)) rfl rfl) (ev' (s826.val) rfl rfl) h837 (show 2 < 4 from by decide) sz22 rfl rfl rfl) ?_
              rintro w838 ⟨c839, hB840⟩
              have R841 := R829.stN c839 l116
              have R842 := R831.stO c839 (.head _)
              refine ⟨R842, ?_⟩
              refine A.done (by kernel_rfl) ?_
              refine then_n ?_
              refine W.fresh ?_
              intro r844 er845
              have s846 : r844 4 = .pointer (some ⟨b12, 0, none⟩) := (congrFun er845 4).trans s396
              have s847 : r844 6 = .pointer (some ⟨b21, 0, none⟩) := (congrFun er845 6).trans s397
              have s848 : r844 11 = .pointer (some ⟨b107, 0, none⟩) := (congrFun er845 11).trans s398
              clear er845
              refine W.seq ?_
              refine A.begin' (cs := [b21]) rfl ?_
              intro w849 g850
              have R851 := R841.gr g850
              have R852 : Chg [b21] w849 w849 := Chg.of_refl _ _
              have h853 := hB840.gr g850
              refine A.take (i := 0) rfl (by kernel_rfl) (by kernel_rfl) (by kernel_rfl) (fun _ _ _ h => h) R852 rfl rfl (fun _ hw => (X.loadR (ev' (.pointer (some ⟨b107, 0, none⟩)) rfl s848) rt24 (row_blk_trade (h853.chg hw (by simp [ne115.symm]))) rfl)) ?_
              have h854 := h427.gr g785
              have h855 := h854.gr g827
              have h856 := h855.st c839 ne112
              have h857 := h856.gr g850
              refine A.take (i := 1) rfl (by kernel_rfl) (by kernel_rfl) (by kernel_rfl) (fun _ _ _ h => h) R852 rfl rfl (fun _ hw => (X.loadR (ev' (.pointer (some ⟨b12, 0, none⟩)) rfl s846) rt30 (row_blk_msg (h857.chg hw (by simp [ne27]))) rfl)) ?_
              refine A.one (i := 2) (by kernel_rfl) ?_
              refine E.call (i := 2) rfl rfl rfl (X.callF go46 (args1 (ev' (.agg m.arr) rfl rfl))) (ansR_c m _) ?_
              rintro _ w858 ⟨rfl, g859⟩
              have R860 := R851.gr g859
              have R861 := R852.gr g859
              refine ⟨R861, ?_⟩
              refine A.two (i := 3) (j := 4) (by kernel_rfl) ?_ ?_
              · skip
                have h862 := h792.gr g827
                have h863 := h862.gr c839
                have h864 := h863.gr g850
                have h865 := h864.gr g859
                refine E.eff (i := 3) rfl rfl rfl (Y.slice1 (bs := (b107 :: b21 :: b12 :: b4 :: bs)) (ev' (.agg (ansR m).arr) rfl rfl) h865) ?_
                rintro _ w866 ⟨s867, rfl, g868, hs869⟩
                have R870 := R860.gr g868
                have R871 := R861.gr g868
                refine ⟨R871, ?_⟩
                refine A.one (i := 4) (by kernel_rfl) ?_
                have h873 := h114.gr g108
                have h874 := h873.st c120 ne115
                have h875 := h874.gr g133
                have h876 := h875.gr R162
                have h877 := h876.gr g420
                have h878 := h877.gr g785
                have h879 := h878.gr g827
                have h880 := h879.st c839 ne115
                have h881 := h880.gr g850
                have h882 := h881.gr g859
                have h883 := h882.gr g868
                refine E.eff0 (i := 4) rfl rfl rfl (Y.storeW (ds := ({ T with r := s826 } : TV).arr) (ev' (.pointer (some ⟨b21, 0, none⟩)) rfl s847) (ev' (({ T with r := s826 } : TV).val) rfl rfl) h883 (n := 4) rfl sz24 rfl (TV.oneCell _) rfl) ?_
                rintro w884 ⟨c885, hB886⟩
                have R887 := R870.stN c885 l28
                have R888 := R871.stO c885 (.head _)
                refine ⟨R888, ?_⟩
                refine A.take (i := 5) rfl (by kernel_rfl) (by kernel_rfl) (by kernel_rfl) (fun _ _ _ h => h) R888 rfl rfl (fun _ _ => (X.assign (ev' (s867.val) rfl rfl))) ?_
                refine A.take (i := 6) rfl (by kernel_rfl) (by kernel_rfl) (by kernel_rfl) (fun _ _ _ h => h) R888 rfl rfl (fun _ _ => (X.assign (evc' (.bool true)))) ?_
                refine A.take (i := 7) rfl (by kernel_rfl) (by kernel_rfl) (by kernel_rfl) (fun _ _ _ h => h) R888 rfl rfl (fun _ _ => (X.assign (evc' (.int .i64 0)))) ?_
                refine A.done (by kernel_rfl) ?_
                refine then_n ?_
                refine W.fresh ?_
                intro r890 er891
                have s892 : r890 6 = .pointer (some ⟨b21, 0, none⟩) := (congrFun er891 6).trans s847
                have s893 : r890 7 = s867.val := (congrFun er891 7).trans rfl
                have s894 : r890 8 = .bool true := (congrFun er891 8).trans rfl
                have s895 : r890 9 = .int .i64 0 := (congrFun er891 9).trans rfl
                clear er891
                have h896 := h810.gr g827
                have h897 := h896.st c839 (.head _)
                have h898 := h897.gr g850
                have h899 := h898.gr g859
                have h900 := h899.gr g868
                have h901 := h900.st c885 (.tail _ (.head _))
                have h902 := hs828.st c839 (.head _)
                have h903 := h902.gr g850
                have h904 := h903.gr g859
                have h905 := h904.gr g868
                have h906 := h905.st c885 (.tail _ (.head _))
                have pe907 : takeR t m id = (({ t with received := (t.received ++ [m]) } : Trade), [(ansR m)], true, 0) := (by exact rtake_6 ht.r.len k59 k87 k142 ei392 x167 k400)
                have hT908 : Tr (b107 :: b21 :: b12 :: b4 :: bs) w884 ({ T with r := s826 } : TV) ({ t with received := (t.received ++ [m]) } : Trade) := ⟨h901.next, h901.p, h906, h901.d⟩
                have h910 := hs869.st c885 (.tail _ (.head _))
                have hS909 : Sl (b107 :: b21 :: b12 :: b4 :: bs) w884 s867 ([(ansR m)]) := h910
                refine W.ret (then_r (retCTTT rfl rfl (show _ = (.pointer (some ⟨b21, 0, none⟩) : Value) from s892) (run_loadAt_row rt24 (row_blk_trade hB886)) rfl (show _ = (s867.val : Value) from s893) rfl (show _ = (.bool true : Value) from s894) rfl (show _ = (.int .i64 0 : Value) from s895) ⟨({ T with r := s826 } : TV), s867, congrArg (fun (p : TakeT) => Value.tuple #[TV.val ({ T with r := s826 } : TV), SV.val s867, .bool p.2.2.1, .int .i64 p.2.2.2]) (Eq.symm pe907), by rw [pe907]; exact hT908.tl.tl.tl.tl, by rw [pe907]; exact hS909.tl.tl.tl.tl, R887⟩))
              · skip
                have h911 := h114.gr g108
                have h912 := h911.st c120 ne115
                have h913 := h912.gr g133
                have h914 := h913.gr R162
                have h915 := h914.gr g420
                have h916 := h915.gr g785
                have h917 := h916.gr g827
                have h918 := h917.st c839 ne115
                have h919 := h918.gr g850
                have h920 := h919.gr g859
                refine E.eff0 (i := 4) rfl rfl rfl (Y.storeW (ds := ({ T with r := s826 } : TV).arr) (ev' (.pointer (some ⟨b21, 0, none⟩)) rfl s847) (ev' (({ T with r := s826 } : TV).val) rfl rfl) h920 (n := 4) rfl sz24 rfl (TV.oneCell _) rfl) ?_
                rintro w921 ⟨c922, hB923⟩
                have R924 := R860.stN c922 l28
                have R925 := R861.stO c922 (.head _)
                refine ⟨R925, ?_⟩
                refine A.one (i := 3) (by kernel_rfl) ?_
                have h927 := h792.gr g827
                have h928 := h927.gr c839
                have h929 := h928.gr g850
                have h930 := h929.gr g859
                have h931 := h930.gr c922
                refine E.eff (i := 3) rfl rfl rfl (Y.slice1 (bs := (b107 :: b21 :: b12 :: b4 :: bs)) (ev' (.agg (ansR m).arr) rfl rfl) h931) ?_
                rintro _ w932 ⟨s933, rfl, g934, hs935⟩
                have R936 := R924.gr g934
                have R937 := R925.gr g934
                refine ⟨R937, ?_⟩
                refine A.take (i := 5) rfl (by kernel_rfl) (by kernel_rfl) (by kernel_rfl) (fun _ _ _ h => h) R937 rfl rfl (fun _ _ => (X.assign (ev' (s933.val) rfl rfl))) ?_
                refine A.take (i := 6) rfl (by kernel_rfl) (by kernel_rfl) (by kernel_rfl) (fun _ _ _ h => h) R937 rfl rfl (fun _ _ => (X.assign (evc' (.bool true)))) ?_
                refine A.take (i := 7) rfl (by kernel_rfl) (by kernel_rfl) (by kernel_rfl) (fun _ _ _ h => h) R937 rfl rfl (fun _ _ => (X.assign (evc' (.int .i64 0)))) ?_
                refine A.done (by kernel_rfl) ?_
                refine then_n ?_
                refine W.fresh ?_
                intro r939 er940
                have s941 : r939 6 = .pointer (some ⟨b21, 0, none⟩) := (congrFun er940 6).trans s847
                have s942 : r939 7 = s933.val := (congrFun er940 7).trans rfl
                have s943 : r939 8 = .bool true := (congrFun er940 8).trans rfl
                have s944 : r939 9 = .int .i64 0 := (congrFun er940 9).trans rfl
                clear er940
                have h945 := hB923.gr g934
                have h946 := h810.gr g827
                have h947 := h946.st c839 (.head _)
                have h948 := h947.gr g850
                have h949 := h948.gr g859
                have h950 := h949.st c922 (.tail _ (.head _))
                have h951 := h950.gr g934
                have h952 := hs828.st c839 (.head _)
                have h953 := h952.gr g850
                have h954 := h953.gr g859
                have h955 := h954.st c922 (.tail _ (.head _))
                have h956 := h955.gr g934
                have pe957 : takeR t m id = (({ t with received := (t.received ++ [m]) } : Trade), [(ansR m)], true, 0) := (by exact rtake_6 ht.r.len k59 k87 k142 ei392 x167 k400)
                have hT958 : Tr (b107 :: b21 :: b12 :: b4 :: bs) w932 ({ T with r := s826 } : TV) ({ t with received := (t.received ++ [m]) } : Trade) := ⟨h951.next, h951.p, h956, h951.d⟩
                have hS959 : Sl (b107 :: b21 :: b12 :: b4 :: bs) w932 s933 ([(ansR m)]) := hs935
                refine W.ret (then_r (retCTTT rfl rfl (show _ = (.pointer (some ⟨b21, 0, none⟩) : Value) from s941) (run_loadAt_row rt24 (row_blk_trade h945)) rfl (show _ = (s933.val : Value) from s942) rfl (show _ = (.bool true : Value) from s943) rfl (show _ = (.int .i64 0 : Value) from s944) ⟨({ T with r := s826 } : TV), s933, congrArg (fun (p : TakeT) => Value.tuple #[TV.val ({ T with r := s826 } : TV), SV.val s933, .bool p.2.2.1, .int .i64 p.2.2.2]) (Eq.symm pe957), by rw [pe957]; exact hT958.tl.tl.tl.tl, by rw [pe957]; exact hS959.tl.tl.tl.tl, R936⟩))
      · skip
        refine W.skip ?_
        refine then_n ?_
        refine W.seq ?_
        refine W.seq ?_
        by_cases hb960 : m.no < (t.placed.length : Int)
        · skip
          obtain ⟨x961, hx962⟩ := some_of_lt (show m.no.toNat < t.placed.length from by have := no_pos k87; omega)
          refine A.begin' (cs := []) rfl ?_
          intro w963 g964
          have R965 := R134.gr g964
          have R966 : Chg [] w963 w963 := Chg.of_refl _ _
          refine A.take (i := 0) rfl (by kernel_rfl) (by kernel_rfl) (by kernel_rfl) (fun _ _ _ h => h) R966 rfl rfl (fun _ _ => (X.fieldAddr (ev' (.pointer (some ⟨b12, 0, none⟩)) rfl s138) fo30_3 (b := ⟨b12, 3, none⟩) (Addr.add_lit _ _ _))) ?_
          have h967 := h131.gr g133
          have h968 := h967.gr g964
          refine A.take (i := 1) rfl (by kernel_rfl) (by kernel_rfl) (by kernel_rfl) (fun _ _ _ h => h) R966 rfl rfl (fun _ hw => (X.load (ev' (.pointer (some ⟨b12, 3, none⟩)) rfl rfl) pt3 (Blk.lc (h968.gr hw) (Msg.arr3 _)))) ?_
          refine A.take (i := 2) rfl (by kernel_rfl) (by kernel_rfl) (by kernel_rfl) (fun _ _ _ h => h) R966 rfl rfl (fun _ _ => (X.fieldAddr (ev' (.pointer (some ⟨b4, 0, none⟩)) rfl s137) fo24_1 (b := ⟨b4, 1, none⟩) (Addr.add_lit _ _ _))) ?_
          have h969 := h105.gr g108
          have h970 := h969.st c120 ne111
          have h971 := h970.gr g133
          have h972 := h971.gr g964
          refine A.take (i := 3) rfl (by kernel_rfl) (by kernel_rfl) (by kernel_rfl) (fun _ _ _ h => h) R966 rfl rfl (fun _ hw => (X.load (ev' (.pointer (some ⟨b4, 1, none⟩)) rfl rfl) pt22 (Blk.lc (h972.gr hw) rfl))) ?_
          refine A.take (i := 4) rfl (by kernel_rfl) (by kernel_rfl) (by kernel_rfl) (fun _ _ _ h => h) R966 rfl rfl (fun _ _ => (X.len (ev' (T.p.val) rfl rfl) st22)) ?_
          refine A.take (i := 5) rfl (by kernel_rfl) (by kernel_rfl) (by kernel_rfl) (fun _ _ _ h => h) R966 rfl rfl (fun _ _ => (X.geq (ev' (.int .i64 m.no) rfl rfl) (ev' (.int .i64 (T.p.n : Int)) rfl rfl))) ?_
          refine A.take (i := 6) rfl (by kernel_rfl) (by kernel_rfl) (by kernel_rfl) (fun _ _ _ h => h) R966 rfl rfl (fun _ _ => (X.move (ev' (.bool (decide (((T.p.n : Int) : Int) ≤ (m.no : Int)))) rfl rfl))) ?_
          refine A.takeG (i := 7) rfl (by kernel_rfl) (by kernel_rfl) (by kernel_rfl) (fun _ _ _ _ h => h) R966 rfl rfl rfl rfl rfl (fun _ _ hw => (X.loadR (ev' (.pointer (some ⟨b12, 0, none⟩)) rfl s138) rt30 (row_blk_msg (h968.gr hw)) rfl)) ?_
          refine A.takeG (i := 8) rfl (by kernel_rfl) (by kernel_rfl) (by kernel_rfl) (fun _ _ _ _ h => h) R966 rfl rfl rfl rfl rfl (fun _ _ _ => (X.fieldAddr (ev' (.pointer (some ⟨b4, 0, none⟩)) rfl s137) fo24_1 (b := ⟨b4, 1, none⟩) (Addr.add_lit _ _ _))) ?_
          refine A.takeG (i := 9) rfl (by kernel_rfl) (by kernel_rfl) (by kernel_rfl) (fun _ _ _ _ h => h) R966 rfl rfl rfl rfl rfl (fun hc _ hw => (X.load (ev' (.pointer (some ⟨b4, 1, none⟩)) rfl (gvt hc rfl)) pt22 (Blk.lc (h972.gr hw) rfl))) ?_
          refine A.takeG (i := 10) rfl (by kernel_rfl) (by kernel_rfl) (by kernel_rfl) (fun _ _ _ _ h => h) R966 rfl rfl rfl rfl rfl (fun _ _ _ => (X.fieldAddr (ev' (.pointer (some ⟨b12, 0, none⟩)) rfl s138) fo30_3 (b := ⟨b12, 3, none⟩) (Addr.add_lit _ _ _))) ?_
          refine A.takeG (i := 11) rfl (by kernel_rfl) (by kernel_rfl) (by kernel_rfl) (fun _ _ _ _ h => h) R966 rfl rfl rfl rfl rfl (fun hc _ hw => (X.load (ev' (.pointer (some ⟨b12, 3, none⟩)) rfl (gvt hc rfl)) pt3 (Blk.lc (h968.gr hw) (Msg.arr3 _)))) ?_
          have h973 := h40.gr g42
          have h974 := h973.gr g78
          have h975 := (h974.ext lt110).gr g108
          have h976 := h975.st c120 (.head _)
          have h977 := h976.gr g133
          have h978 := h977.gr g964
          obtain ⟨eb979, eo980, ha981, lt982, hr983⟩ := Sl.rowAt h978.p hx962
          refine A.takeG (i := 12) rfl (by kernel_rfl) (by kernel_rfl) (by kernel_rfl) (fun _ _ _ _ h => h) R966 rfl rfl rfl rfl rfl (fun hc _ _ => (X.idx (b := ⟨eb979, eo980 + m.no.toNat * 43, none⟩) (evs ha981 (ev' (T.p.val) rfl (gvt hc rfl))) (ev' (.int .i64 m.no) rfl (gvt hc rfl)) (no_pos k87) (idx_lt (no_pos k87) lt982) st22 sz30 (Addr.add_lit _ _ _))) ?_
          refine A.takeG (i := 13) rfl (by kernel_rfl) (by kernel_rfl) (by kernel_rfl) (fun _ _ _ _ h => h) R966 rfl rfl rfl rfl rfl (fun hc _ hw => (X.loadR (ev' (.pointer (some ⟨eb979, eo980 + m.no.toNat * 43, none⟩)) rfl (gvt hc rfl)) rt30 (hr983.gr hw).r rfl)) ?_
          refine A.one (i := 14) (by kernel_rfl) ?_
          refine E.gcallS (i := 14) rfl rfl rfl rfl rfl rfl (fun hc => X.callF go46 (args1 (ev' (.agg x961.arr) rfl (gvt hc rfl)))) (fun _ => (ansR_c x961 _)) ?_
          intro w985 g986
          have R987 := R965.gr g986
          have R988 := R966.gr g986
          refine ⟨R988, ?_⟩
          refine A.one (i := 15) (by kernel_rfl) ?_
          refine E.gcallS (i := 15) rfl rfl rfl rfl rfl rfl (fun hc => X.callF go15 (args2 (ev' (.agg m.arr) rfl (gvt hc rfl)) (ev' (.agg (ansR x961).arr) rfl (gvt hc rfl)))) (fun _ => (same_c m (ansR x961) _)) ?_
          intro w989 g990
          have R991 := R987.gr g990
          have R992 := R988.gr g990
          refine ⟨R992, ?_⟩
          refine A.takeG (i := 16) rfl (by kernel_rfl) (by kernel_rfl) (by kernel_rfl) (fun _ _ _ _ h => h) R992 rfl rfl rfl rfl rfl (fun hc _ _ => (X.not (ev' (.bool (same m (ansR x961))) rfl (gvt hc rfl)))) ?_
          refine A.take (i := 17) rfl (by kernel_rfl) (by kernel_rfl) (by kernel_rfl) (fun _ _ _ h => h) R992 rfl rfl (fun _ _ => (X.or (ev' (.bool (decide (((T.p.n : Int) : Int) ≤ (m.no : Int)))) rfl rfl) (ev' (gv ((decide (((T.p.n : Int) : Int) ≤ (m.no : Int))) == false) (.bool (!(same m (ansR x961))))) rfl rfl))) ?_
          refine A.done (by kernel_rfl) ?_
          refine then_n ?_
          refine W.fresh ?_
          intro r993 er994
          have s995 : r993 3 = .pointer (some ⟨b4, 0, none⟩) := (congrFun er994 3).trans s137
          have s996 : r993 4 = .pointer (some ⟨b12, 0, none⟩) := (congrFun er994 4).trans s138
          have s997 : r993 6 = .pointer (some ⟨b21, 0, none⟩) := (congrFun er994 6).trans s139
          have s998 : r993 11 = .pointer (some ⟨b107, 0, none⟩) := (congrFun er994 11).trans s140
          have s999 : r993 107 = .bool ((decide (((T.p.n : Int) : Int) ≤ (m.no : Int))) || (!(same m (ansR x961)))) := (congrFun er994 107).trans rfl
          clear er994
          refine W.cond rfl s999 (fun k1000 => ?_) (fun k1000 => ?_)
          · skip
            refine W.seq ?_
            refine W.reg ?_
            refine W.val rfl rfl X.build24 ?_
            have h1001 := h114.gr g108
            have h1002 := h1001.st c120 ne115
            have h1003 := h1002.gr g133
            have h1004 := h1003.gr g964
            have h1005 := h1004.gr g986
            have h1006 := h1005.gr g990
            refine W.eff0 rfl rfl (Y.storeW (ds := TV.zero.arr) (ev' (.pointer (some ⟨b21, 0, none⟩)) rfl s997) (ev' (TV.zero.val) rfl rfl) h1006 (n := 4) rfl sz24 rfl (TV.oneCell _) rfl) ?_
            rintro w1007 ⟨c1008, hB1009⟩
            have R1010 := R991.stN c1008 l28
            refine W.val rfl rfl (X.assign (evc' (SV.nil.val))) ?_
            refine W.val rfl rfl (X.assign (evc' (.bool false))) ?_
            refine W.val rfl rfl (X.assign (evc' (.int .i64 480))) ?_
            refine W.nil ?_
            refine then_n ?_
            refine W.fresh ?_
            intro r1012 er1013
            have s1014 : r1012 6 = .pointer (some ⟨b21, 0, none⟩) := (congrFun er1013 6).trans s997
            have s1015 : r1012 7 = SV.nil.val := (congrFun er1013 7).trans rfl
            have s1016 : r1012 8 = .bool false := (congrFun er1013 8).trans rfl
            have s1017 : r1012 9 = .int .i64 480 := (congrFun er1013 9).trans rfl
            clear er1013
            have pe1018 : takeR t m id = (Trade.zero, [], false, 480) := (by exact take_4 k59 k87 k142 (ranswI ht.p.len k59 k87 hb960 hx962 k1000))
            have hT1019 : Tr (b107 :: b21 :: b12 :: b4 :: bs) w1007 TV.zero Trade.zero := (Tr.zero_ _ _)
            have hS1020 : Sl (b107 :: b21 :: b12 :: b4 :: bs) w1007 SV.nil ([]) := (Sl.none_ _ _)
            refine W.ret (then_r (retCTTT rfl rfl (show _ = (.pointer (some ⟨b21, 0, none⟩) : Value) from s1014) (run_loadAt_row rt24 (row_blk_trade hB1009)) rfl (show _ = (SV.nil.val : Value) from s1015) rfl (show _ = (.bool false : Value) from s1016) rfl (show _ = (.int .i64 480 : Value) from s1017) ⟨TV.zero, SV.nil, congrArg (fun (p : TakeT) => Value.tuple #[TV.val TV.zero, SV.val SV.nil, .bool p.2.2.1, .int .i64 p.2.2.2]) (Eq.symm pe1018), by rw [pe1018]; exact hT1019.tl.tl.tl.tl, by rw [pe1018]; exact hS1020.tl.tl.tl.tl, R1010⟩))
          · skip
            refine W.skip ?_
            refine then_n ?_
            refine W.seq ?_
            refine W.seq ?_
            refine W.reg ?_
            refine W.val rfl rfl (X.fieldAddr (ev' (.pointer (some ⟨b4, 0, none⟩)) rfl s995) fo24_3 (b := ⟨b4, 3, none⟩) (Addr.add_lit _ _ _)) ?_
            have h1021 := h972.gr g986
            have h1022 := h1021.gr g990
            refine W.val rfl rfl (X.load (ev' (.pointer (some ⟨b4, 3, none⟩)) rfl rfl) pt22 (Blk.lc h1022 rfl)) ?_
            refine W.val rfl rfl (X.fieldAddr (ev' (.pointer (some ⟨b12, 0, none⟩)) rfl s996) fo30_3 (b := ⟨b12, 3, none⟩) (Addr.add_lit _ _ _)) ?_
            have h1023 := h968.gr g986
            have h1024 := h1023.gr g990
            refine W.val rfl rfl (X.load (ev' (.pointer (some ⟨b12, 3, none⟩)) rfl rfl) pt3 (Blk.lc h1024 (Msg.arr3 _))) ?_
            have h1025 := h978.gr g986
            have h1026 := h1025.gr g990
            refine W.call rfl rfl (X.callF go47 (args2 (ev' (T.d.val) rfl rfl) (ev' (.int .i64 m.no) rfl rfl))) (hasNo_c m.no _ h1026.d) ?_
            rintro _ w1027 ⟨rfl, g1028⟩
            have R1029 := R991.gr g1028
            refine W.nil ?_
            refine then_n ?_
            refine W.fresh ?_
            intro r1030 er1031
            have s1032 : r1030 3 = .pointer (some ⟨b4, 0, none⟩) := (congrFun er1031 3).trans s995
            have s1033 : r1030 4 = .pointer (some ⟨b12, 0, none⟩) := (congrFun er1031 4).trans s996
            have s1034 : r1030 6 = .pointer (some ⟨b21, 0, none⟩) := (congrFun er1031 6).trans s997
            have s1035 : r1030 11 = .pointer (some ⟨b107, 0, none⟩) := (congrFun er1031 11).trans s998
            have s1036 : r1030 113 = .bool (hasNo m.no t.done) := (congrFun er1031 113).trans rfl
            clear er1031
            refine W.cond rfl s1036 (fun k1037 => ?_) (fun k1037 => ?_)
            · skip
              refine W.seq ?_
              refine W.reg ?_
              have h1038 := h1022.gr g1028
              refine W.val rfl rfl (X.loadR (ev' (.pointer (some ⟨b4, 0, none⟩)) rfl s1032) rt24 (row_blk_trade h1038) rfl) ?_
              have h1039 := h114.gr g108
              have h1040 := h1039.st c120 ne115
              have h1041 := h1040.gr g133
              have h1042 := h1041.gr g964
              have h1043 := h1042.gr g986
              have h1044 := h1043.gr g990
              have h1045 := h1044.gr g1028
              refine W.eff0 rfl rfl (Y.storeW (ds := T.arr) (ev' (.pointer (some ⟨b21, 0, none⟩)) rfl s1034) (ev' (T.val) rfl rfl) h1045 (n := 4) rfl sz24 rfl (TV.oneCell _) rfl) ?_
              rintro w1046 ⟨c1047, hB1048⟩
              have R1049 := R1029.stN c1047 l28
              refine W.val rfl rfl (X.assign (evc' (SV.nil.val))) ?_
              refine W.val rfl rfl (X.assign (evc' (.bool false))) ?_
              refine W.val rfl rfl (X.assign (evc' (.int .i64 0))) ?_
              refine W.nil ?_
              refine then_n ?_
              refine W.fresh ?_
              intro r1051 er1052
              have s1053 : r1051 6 = .pointer (some ⟨b21, 0, none⟩) := (congrFun er1052 6).trans s1034
              have s1054 : r1051 7 = SV.nil.val := (congrFun er1052 7).trans rfl
              have s1055 : r1051 8 = .bool false := (congrFun er1052 8).trans rfl
              have s1056 : r1051 9 = .int .i64 0 := (congrFun er1052 9).trans rfl
              clear er1052
              have h1057 := h1026.gr g1028
              have h1058 := h1057.st c1047 (.tail _ (.head _))
              have pe1059 : takeR t m id = (t, [], false, 0) := (by exact take_5 k59 k87 k142 (ranswI ht.p.len k59 k87 hb960 hx962 k1000) k1037)
              have hT1060 : Tr (b107 :: b21 :: b12 :: b4 :: bs) w1046 T t := h1058
              have hS1061 : Sl (b107 :: b21 :: b12 :: b4 :: bs) w1046 SV.nil ([]) := (Sl.none_ _ _)
              refine W.ret (then_r (retCTTT rfl rfl (show _ = (.pointer (some ⟨b21, 0, none⟩) : Value) from s1053) (run_loadAt_row rt24 (row_blk_trade hB1048)) rfl (show _ = (SV.nil.val : Value) from s1054) rfl (show _ = (.bool false : Value) from s1055) rfl (show _ = (.int .i64 0 : Value) from s1056) ⟨T, SV.nil, congrArg (fun (p : TakeT) => Value.tuple #[TV.val T, SV.val SV.nil, .bool p.2.2.1, .int .i64 p.2.2.2]) (Eq.symm pe1059), by rw [pe1059]; exact hT1060.tl.tl.tl.tl, by rw [pe1059]; exact hS1061.tl.tl.tl.tl, R1049⟩))
            · skip
              refine W.skip ?_
              refine then_n ?_
              refine W.seq ?_
              refine A.begin' (cs := [b107]) rfl ?_
              intro w1062 g1063
              have R1064 := R1029.gr g1063
              have R1065 : Chg [b107] w1062 w1062 := Chg.of_refl _ _
              refine A.take (i := 1) rfl (by kernel_rfl) (by kernel_rfl) (by kernel_rfl) (fun _ _ _ h => h) R1065 rfl rfl (fun _ _ => (X.fieldAddr (ev' (.pointer (some ⟨b4, 0, none⟩)) rfl s1032) fo24_3 (b := ⟨b4, 3, none⟩) (Addr.add_lit _ _ _))) ?_
              have h1066 := h1022.gr g1028
              have h1067 := h1066.gr g1063
              refine A.take (i := 2) rfl (by kernel_rfl) (by kernel_rfl) (by kernel_rfl) (fun _ _ _ h => h) R1065 rfl rfl (fun _ hw => (X.load (ev' (.pointer (some ⟨b4, 3, none⟩)) rfl rfl) pt22 (Blk.lc (h1067.chg hw (by simp [ne111])) rfl))) ?_
              have h1068 := h1024.gr g1028
              have h1069 := h1068.gr g1063
              refine A.take (i := 4) rfl (by kernel_rfl) (by kernel_rfl) (by kernel_rfl) (fun _ _ _ h => h) R1065 rfl rfl (fun _ hw => (X.loadR (ev' (.pointer (some ⟨b12, 0, none⟩)) rfl s1033) rt30 (row_blk_msg (h1069.chg hw (by simp [ne112]))) rfl)) ?_
              refine A.two (i := 0) (j := 5) (by kernel_rfl) ?_ ?_
              · skip
                have R1070 : Grow w1062 w1062 := Chg.refl _
                have h1071 := hl.new g5 hB6.lt
                have h1072 := h1071.new g13 hB14.lt
                have h1073 := h1072.new g22 hB23.lt
                have h1074 := h1073.gr g42
                have h1075 := h1074.gr g78
                have h1076 := h1075.new g108 hB109.lt
                have h1077 := h1076.gr c120
                have h1078 := h1077.gr g133
                have h1079 := h1078.gr g964
                have h1080 := h1079.gr g986
                have h1081 := h1080.gr g990
                have h1082 := h1081.gr g1028
                have h1083 := h1082.gr g1063
                refine E.eff (i := 0) rfl rfl rfl (Y.own0c h1083) ?_
                rintro v1085 w1084 ⟨_, rfl, g1086, ho1087, hc1088⟩
                have R1089 := R1064.gr g1086
                have R1090 := R1065.gr g1086
                have R1091 := R1070.gr g1086
                refine ⟨R1090, ?_⟩
                refine A.two (i := 3) (j := 5) (by kernel_rfl) ?_ ?_
                · skip
                  have h1093 := h1026.gr g1028
                  have h1094 := h1093.gr g1063
                  have h1095 := h1094.gr g1086
                  have h1101 := h1083.gr g1086
                  refine E.eff (i := 3) rfl rfl rfl (Y.append0 (ev' (v1085) rfl rfl) (ev' (T.d.val) rfl rfl) ho1087 hc1088 h1095.d (Nat.le_of_succ_le (done_len k59)) R1091 h1083 h1101) ?_
                  rintro v1097 w1096 ⟨_, n1098, rfl, g1099, ho1100⟩
                  have R1102 := R1089.gr g1099
                  have R1103 := R1090.gr g1099
                  have R1104 := R1091.gr g1099
                  refine ⟨R1103, ?_⟩
                  refine A.one (i := 5) (by kernel_rfl) ?_
                  have h1106 := h1101.gr g1099
                  refine E.eff (i := 5) rfl rfl rfl (Y.slice1 (bs := (b107 :: b21 :: b12 :: b4 :: bs)) (ev' (.agg m.arr) rfl rfl) h1106) ?_
                  rintro _ w1107 ⟨s1108, rfl, g1109, hs1110⟩
                  have R1111 := R1102.gr g1109
                  have R1112 := R1103.gr g1109
                  have R1113 := R1104.gr g1109
                  refine ⟨R1112, ?_⟩
                  refine A.one (i := 6) (by kernel_rfl) ?_
                  have h1115 := ho1100.gr g1109
                  refine E.eff (i := 6) rfl rfl rfl (Y.appendOwnS (ev' (v1097) rfl rfl) (ev' (s1108.val) rfl rfl) h1115 hs1110 (by simp) (done_len k59) R1113 h1083) ?_
                  rintro _ w1116 ⟨s1117, rfl, g1118, hs1119⟩
                  have R1120 := R1064.gr g1118
                  have R1121 := R1065.gr g1118
                  refine ⟨R1121, ?_⟩
                  refine A.take (i := 7) rfl (by kernel_rfl) (by kernel_rfl) (by kernel_rfl) (fun _ _ _ h => h) R1121 rfl rfl (fun _ _ => (X.fieldAddr (ev' (.pointer (some ⟨b107, 0, none⟩)) rfl s1035) fo24_3 (b := ⟨b107, 3, none⟩) (Addr.add_lit _ _ _))) ?_
                  refine A.one (i := 8) (by kernel_rfl) ?_
                  have h1123 := hB121.gr g133
                  have h1124 := h1123.gr g964
                  have h1125 := h1124.gr g986
                  have h1126 := h1125.gr g990
                  have h1127 := h1126.gr g1028
                  have h1128 := h1127.gr g1063
                  have h1129 := h1128.gr g1118
                  refine E.eff0 (i := 8) rfl rfl rfl (Y.storeC (ds := ({ T with d := s1117 } : TV).arr) (ev' (.pointer (some ⟨b107, 3, none⟩)) rfl rfl) (ev' (s1117.val) rfl rfl) h1129 (show 3 < 4 from by decide) sz22 rfl rfl rfl) ?_
                  rintro w1130 ⟨c1131, hB1132⟩
                  have R1133 := R1120.stN c1131 l116
                  have R1134 := R1121.stO c1131 (.head _)
                  refine ⟨R1134, ?_⟩
                  refine A.done (by kernel_rfl) ?_
                  refine then_n ?_
                  refine W.fresh ?_
                  intro r1136 er1137
                  have s1138 : r1136 6 = .pointer (some ⟨b21, 0, none⟩) := (congrFun er1137 6).trans s1034
                  have s1139 : r1136 11 = .pointer (some ⟨b107, 0, none⟩) := (congrFun er1137 11).trans s1035
                  clear er1137
                  refine W.seq ?_
                  refine W.reg ?_
                  refine W.val rfl rfl (X.loadR (ev' (.pointer (some ⟨b107, 0, none⟩)) rfl s1139) rt24 (row_blk_trade hB1132) rfl) ?_
                  have h1140 := h114.gr g108
                  have h1141 := h1140.st c120 ne115
                  have h1142 := h1141.gr g133
                  have h1143 := h1142.gr g964
                  have h1144 := h1143.gr g986
                  have h1145 := h1144.gr g990
                  have h1146 := h1145.gr g1028
                  have h1147 := h1146.gr g1063
                  have h1148 := h1147.gr g1118
                  have h1149 := h1148.st c1131 ne115
                  refine W.eff0 rfl rfl (Y.storeW (ds := ({ T with d := s1117 } : TV).arr) (ev' (.pointer (some ⟨b21, 0, none⟩)) rfl s1138) (ev' (({ T with d := s1117 } : TV).val) rfl rfl) h1149 (n := 4) rfl sz24 rfl (TV.oneCell _) rfl) ?_
                  rintro w1150 ⟨c1151, hB1152⟩
                  have R1153 := R1133.stN c1151 l28
                  refine W.val rfl rfl (X.assign (evc' (SV.nil.val))) ?_
                  refine W.val rfl rfl (X.assign (evc' (.bool true))) ?_
                  refine W.val rfl rfl (X.assign (evc' (.int .i64 0))) ?_
                  refine W.nil ?_
                  refine then_n ?_
                  refine W.fresh ?_
                  intro r1155 er1156
                  have s1157 : r1155 6 = .pointer (some ⟨b21, 0, none⟩) := (congrFun er1156 6).trans s1138
                  have s1158 : r1155 7 = SV.nil.val := (congrFun er1156 7).trans rfl
                  have s1159 : r1155 8 = .bool true := (congrFun er1156 8).trans rfl
                  have s1160 : r1155 9 = .int .i64 0 := (congrFun er1156 9).trans rfl
                  clear er1156
                  have h1161 := h1094.gr g1118
                  have h1162 := h1161.st c1131 (.head _)
                  have h1163 := h1162.st c1151 (.tail _ (.head _))
                  have h1164 := hs1119.st c1131 (.head _)
                  have h1165 := h1164.st c1151 (.tail _ (.head _))
                  have pe1166 : takeR t m id = (({ t with done := (t.done ++ [m]) } : Trade), [], true, 0) := (by exact take_6 k59 k87 k142 (ranswI ht.p.len k59 k87 hb960 hx962 k1000) k1037)
                  have hT1167 : Tr (b107 :: b21 :: b12 :: b4 :: bs) w1150 ({ T with d := s1117 } : TV) ({ t with done := (t.done ++ [m]) } : Trade) := ⟨h1163.next, h1163.p, h1163.r, h1165⟩
                  have hS1168 : Sl (b107 :: b21 :: b12 :: b4 :: bs) w1150 SV.nil ([]) := (Sl.none_ _ _)
                  refine W.ret (retCTTT rfl rfl (show _ = (.pointer (some ⟨b21, 0, none⟩) : Value) from s1157) (run_loadAt_row rt24 (row_blk_trade hB1152)) rfl (show _ = (SV.nil.val : Value) from s1158) rfl (show _ = (.bool true : Value) from s1159) rfl (show _ = (.int .i64 0 : Value) from s1160) ⟨({ T with d := s1117 } : TV), SV.nil, congrArg (fun (p : TakeT) => Value.tuple #[TV.val ({ T with d := s1117 } : TV), SV.val SV.nil, .bool p.2.2.1, .int .i64 p.2.2.2]) (Eq.symm pe1166), by rw [pe1166]; exact hT1167.tl.tl.tl.tl, by rw [pe1166]; exact hS1168.tl.tl.tl.tl, R1153⟩)
                · skip
                  have h1169 := h1083.gr g1086
                  refine E.eff (i := 5) rfl rfl rfl (Y.slice1 (bs := (b107 :: b21 :: b12 :: b4 :: bs)) (ev' (.agg m.arr) rfl rfl) h1169) ?_
                  rintro _ w1170 ⟨s1171, rfl, g1172, hs1173⟩
                  have R1174 := R1089.gr g1172
                  have R1175 := R1090.gr g1172
                  have R1176 := R1091.gr g1172
                  refine ⟨R1175, ?_⟩
                  refine A.one (i := 3) (by kernel_rfl) ?_
                  have h1178 := ho1087.gr g1172
                  have h1179 := h1026.gr g1028
                  have h1180 := h1179.gr g1063
                  have h1181 := h1180.gr g1086
                  have h1182 := h1181.gr g1172
                  have h1188 := h1169.gr g1172
                  refine E.eff (i := 3) rfl rfl rfl (Y.append0 (ev' (v1085) rfl rfl) (ev' (T.d.val) rfl rfl) h1178 hc1088 h1182.d (Nat.le_of_succ_le (done_len k59)) R1176 h1083 h1188) ?_
                  rintro v1184 w1183 ⟨_, n1185, rfl, g1186, ho1187⟩
                  have R1189 := R1174.gr g1186
                  have R1190 := R1175.gr g1186
                  have R1191 := R1176.gr g1186
                  refine ⟨R1190, ?_⟩
                  refine A.one (i := 6) (by kernel_rfl) ?_
                  have h1193 := hs1173.gr g1186
                  refine E.eff (i := 6) rfl rfl rfl (Y.appendOwnS (ev' (v1184) rfl rfl) (ev' (s1171.val) rfl rfl) ho1187 h1193 (by simp) (done_len k59) R1191 h1083) ?_
                  rintro _ w1194 ⟨s1195, rfl, g1196, hs1197⟩
                  have R1198 := R1064.gr g1196
                  have R1199 := R1065.gr g1196
                  refine ⟨R1199, ?_⟩
                  refine A.take (i := 7) rfl (by kernel_rfl) (by kernel_rfl) (by kernel_rfl) (fun _ _ _ h => h) R1199 rfl rfl (fun _ _ => (X.fieldAddr (ev' (.pointer (some ⟨b107, 0, none⟩)) rfl s1035) fo24_3 (b := ⟨b107, 3, none⟩) (Addr.add_lit _ _ _))) ?_
                  refine A.one (i := 8) (by kernel_rfl) ?_
                  have h1201 := hB121.gr g133
                  have h1202 := h1201.gr g964
                  have h1203 := h1202.gr g986
                  have h1204 := h1203.gr g990
                  have h1205 := h1204.gr g1028
                  have h1206 := h1205.gr g1063
                  have h1207 := h1206.gr g1196
                  refine E.eff0 (i := 8) rfl rfl rfl (Y.storeC (ds := ({ T with d := s1195 } : TV).arr) (ev' (.pointer (some ⟨b107, 3, none⟩)) rfl rfl) (ev' (s1195.val) rfl rfl) h1207 (show 3 < 4 from by decide) sz22 rfl rfl rfl) ?_
                  rintro w1208 ⟨c1209, hB1210⟩
                  have R1211 := R1198.stN c1209 l116
                  have R1212 := R1199.stO c1209 (.head _)
                  refine ⟨R1212, ?_⟩
                  refine A.done (by kernel_rfl) ?_
                  refine then_n ?_
                  refine W.fresh ?_
                  intro r1214 er1215
                  have s1216 : r1214 6 = .pointer (some ⟨b21, 0, none⟩) := (congrFun er1215 6).trans s1034
                  have s1217 : r1214 11 = .pointer (some ⟨b107, 0, none⟩) := (congrFun er1215 11).trans s1035
                  clear er1215
                  refine W.seq ?_
                  refine W.reg ?_
                  refine W.val rfl rfl (X.loadR (ev' (.pointer (some ⟨b107, 0, none⟩)) rfl s1217) rt24 (row_blk_trade hB1210) rfl) ?_
                  have h1218 := h114.gr g108
                  have h1219 := h1218.st c120 ne115
                  have h1220 := h1219.gr g133
                  have h1221 := h1220.gr g964
                  have h1222 := h1221.gr g986
                  have h1223 := h1222.gr g990
                  have h1224 := h1223.gr g1028
                  have h1225 := h1224.gr g1063
                  have h1226 := h1225.gr g1196
                  have h1227 := h1226.st c1209 ne115
                  refine W.eff0 rfl rfl (Y.storeW (ds := ({ T with d := s1195 } : TV).arr) (ev' (.pointer (some ⟨b21, 0, none⟩)) rfl s1216) (ev' (({ T with d := s1195 } : TV).val) rfl rfl) h1227 (n := 4) rfl sz24 rfl (TV.oneCell _) rfl) ?_
                  rintro w1228 ⟨c1229, hB1230⟩
                  have R1231 := R1211.stN c1229 l28
                  refine W.val rfl rfl (X.assign (evc' (SV.nil.val))) ?_
                  refine W.val rfl rfl (X.assign (evc' (.bool true))) ?_
                  refine W.val rfl rfl (X.assign (evc' (.int .i64 0))) ?_
                  refine W.nil ?_
                  refine then_n ?_
                  refine W.fresh ?_
                  intro r1233 er1234
                  have s1235 : r1233 6 = .pointer (some ⟨b21, 0, none⟩) := (congrFun er1234 6).trans s1216
                  have s1236 : r1233 7 = SV.nil.val := (congrFun er1234 7).trans rfl
                  have s1237 : r1233 8 = .bool true := (congrFun er1234 8).trans rfl
                  have s1238 : r1233 9 = .int .i64 0 := (congrFun er1234 9).trans rfl
                  clear er1234
                  have h1239 := h1180.gr g1196
                  have h1240 := h1239.st c1209 (.head _)
                  have h1241 := h1240.st c1229 (.tail _ (.head _))
                  have h1242 := hs1197.st c1209 (.head _)
                  have h1243 := h1242.st c1229 (.tail _ (.head _))
                  have pe1244 : takeR t m id = (({ t with done := (t.done ++ [m]) } : Trade), [], true, 0) := (by exact take_6 k59 k87 k142 (ranswI ht.p.len k59 k87 hb960 hx962 k1000) k1037)
                  have hT1245 : Tr (b107 :: b21 :: b12 :: b4 :: bs) w1228 ({ T with d := s1195 } : TV) ({ t with done := (t.done ++ [m]) } : Trade) := ⟨h1241.next, h1241.p, h1241.r, h1243⟩
                  have hS1246 : Sl (b107 :: b21 :: b12 :: b4 :: bs) w1228 SV.nil ([]) := (Sl.none_ _ _)
                  refine W.ret (retCTTT rfl rfl (show _ = (.pointer (some ⟨b21, 0, none⟩) : Value) from s1235) (run_loadAt_row rt24 (row_blk_trade hB1230)) rfl (show _ = (SV.nil.val : Value) from s1236) rfl (show _ = (.bool true : Value) from s1237) rfl (show _ = (.int .i64 0 : Value) from s1238) ⟨({ T with d := s1195 } : TV), SV.nil, congrArg (fun (p : TakeT) => Value.tuple #[TV.val ({ T with d := s1195 } : TV), SV.val SV.nil, .bool p.2.2.1, .int .i64 p.2.2.2]) (Eq.symm pe1244), by rw [pe1244]; exact hT1245.tl.tl.tl.tl, by rw [pe1244]; exact hS1246.tl.tl.tl.tl, R1231⟩)
              · skip
                have h1247 := hl.new g5 hB6.lt
                have h1248 := h1247.new g13 hB14.lt
                have h1249 := h1248.new g22 hB23.lt
                have h1250 := h1249.gr g42
                have h1251 := h1250.gr g78
                have h1252 := h1251.new g108 hB109.lt
                have h1253 := h1252.gr c120
                have h1254 := h1253.gr g133
                have h1255 := h1254.gr g964
                have h1256 := h1255.gr g986
                have h1257 := h1256.gr g990
                have h1258 := h1257.gr g1028
                have h1259 := h1258.gr g1063
                refine E.eff (i := 5) rfl rfl rfl (Y.slice1 (bs := (b107 :: b21 :: b12 :: b4 :: bs)) (ev' (.agg m.arr) rfl rfl) h1259) ?_
                rintro _ w1260 ⟨s1261, rfl, g1262, hs1263⟩
                have R1264 := R1064.gr g1262
                have R1265 := R1065.gr g1262
                refine ⟨R1265, ?_⟩
                refine A.one (i := 0) (by kernel_rfl) ?_
                have R1267 : Grow w1260 w1260 := Chg.refl _
                have h1268 := h1259.gr g1262
                refine E.eff (i := 0) rfl rfl rfl (Y.own0c h1268) ?_
                rintro v1270 w1269 ⟨_, rfl, g1271, ho1272, hc1273⟩
                have R1274 := R1264.gr g1271
                have R1275 := R1265.gr g1271
                have R1276 := R1267.gr g1271
                refine ⟨R1275, ?_⟩
                refine A.one (i := 3) (by kernel_rfl) ?_
                have h1278 := h1026.gr g1028
                have h1279 := h1278.gr g1063
                have h1280 := h1279.gr g1262
                have h1281 := h1280.gr g1271
                have h1287 := h1268.gr g1271
                refine E.eff (i := 3) rfl rfl rfl (Y.append0 (ev' (v1270) rfl rfl) (ev' (T.d.val) rfl rfl) ho1272 hc1273 h1281.d (Nat.le_of_succ_le (done_len k59)) R1276 h1268 h1287) ?_
                rintro v1283 w1282 ⟨_, n1284, rfl, g1285, ho1286⟩
                have R1288 := R1274.gr g1285
                have R1289 := R1275.gr g1285
                have R1290 := R1276.gr g1285
                refine ⟨R1289, ?_⟩
                refine A.one (i := 6) (by kernel_rfl) ?_
                have h1292 := hs1263.gr g1271
                have h1293 := h1292.gr g1285
                refine E.eff (i := 6) rfl rfl rfl (Y.appendOwnS (ev' (v1283) rfl rfl) (ev' (s1261.val) rfl rfl) ho1286 h1293 (by simp) (done_len k59) R1290 h1268) ?_
                rintro _ w1294 ⟨s1295, rfl, g1296, hs1297⟩
                have R1298 := R1264.gr g1296
                have R1299 := R1265.gr g1296
                refine ⟨R1299, ?_⟩
                refine A.take (i := 7) rfl (by kernel_rfl) (by kernel_rfl) (by kernel_rfl) (fun _ _ _ h => h) R1299 rfl rfl (fun _ _ => (X.fieldAddr (ev' (.pointer (some ⟨b107, 0, none⟩)) rfl s1035) fo24_3 (b := ⟨b107, 3, none⟩) (Addr.add_lit _ _ _))) ?_
                refine A.one (i := 8) (by kernel_rfl) ?_
                have h1301 := hB121.gr g133
                have h1302 := h1301.gr g964
                have h1303 := h1302.gr g986
                have h1304 := h1303.gr g990
                have h1305 := h1304.gr g1028
                have h1306 := h1305.gr g1063
                have h1307 := h1306.gr g1262
                have h1308 := h1307.gr g1296
                refine E.eff0 (i := 8) rfl rfl rfl (Y.storeC (ds := ({ T with d := s1295 } : TV).arr) (ev' (.pointer (some ⟨b107, 3, none⟩)) rfl rfl) (ev' (s1295.val) rfl rfl) h1308 (show 3 < 4 from by decide) sz22 rfl rfl rfl) ?_
                rintro w1309 ⟨c1310, hB1311⟩
                have R1312 := R1298.stN c1310 l116
                have R1313 := R1299.stO c1310 (.head _)
                refine ⟨R1313, ?_⟩
                refine A.done (by kernel_rfl) ?_
                refine then_n ?_
                refine W.fresh ?_
                intro r1315 er1316
                have s1317 : r1315 6 = .pointer (some ⟨b21, 0, none⟩) := (congrFun er1316 6).trans s1034
                have s1318 : r1315 11 = .pointer (some ⟨b107, 0, none⟩) := (congrFun er1316 11).trans s1035
                clear er1316
                refine W.seq ?_
                refine W.reg ?_
                refine W.val rfl rfl (X.loadR (ev' (.pointer (some ⟨b107, 0, none⟩)) rfl s1318) rt24 (row_blk_trade hB1311) rfl) ?_
                have h1319 := h114.gr g108
                have h1320 := h1319.st c120 ne115
                have h1321 := h1320.gr g133
                have h1322 := h1321.gr g964
                have h1323 := h1322.gr g986
                have h1324 := h1323.gr g990
                have h1325 := h1324.gr g1028
                have h1326 := h1325.gr g1063
                have h1327 := h1326.gr g1262
                have h1328 := h1327.gr g1296
                have h1329 := h1328.st c1310 ne115
                refine W.eff0 rfl rfl (Y.storeW (ds := ({ T with d := s1295 } : TV).arr) (ev' (.pointer (some ⟨b21, 0, none⟩)) rfl s1317) (ev' (({ T with d := s1295 } : TV).val) rfl rfl) h1329 (n := 4) rfl sz24 rfl (TV.oneCell _) rfl) ?_
                rintro w1330 ⟨c1331, hB1332⟩
                have R1333 := R1312.stN c1331 l28
                refine W.val rfl rfl (X.assign (evc' (SV.nil.val))) ?_
                refine W.val rfl rfl (X.assign (evc' (.bool true))) ?_
                refine W.val rfl rfl (X.assign (evc' (.int .i64 0))) ?_
                refine W.nil ?_
                refine then_n ?_
                refine W.fresh ?_
                intro r1335 er1336
                have s1337 : r1335 6 = .pointer (some ⟨b21, 0, none⟩) := (congrFun er1336 6).trans s1317
                have s1338 : r1335 7 = SV.nil.val := (congrFun er1336 7).trans rfl
                have s1339 : r1335 8 = .bool true := (congrFun er1336 8).trans rfl
                have s1340 : r1335 9 = .int .i64 0 := (congrFun er1336 9).trans rfl
                clear er1336
                have h1341 := h1280.gr g1296
                have h1342 := h1341.st c1310 (.head _)
                have h1343 := h1342.st c1331 (.tail _ (.head _))
                have h1344 := hs1297.st c1310 (.head _)
                have h1345 := h1344.st c1331 (.tail _ (.head _))
                have pe1346 : takeR t m id = (({ t with done := (t.done ++ [m]) } : Trade), [], true, 0) := (by exact take_6 k59 k87 k142 (ranswI ht.p.len k59 k87 hb960 hx962 k1000) k1037)
                have hT1347 : Tr (b107 :: b21 :: b12 :: b4 :: bs) w1330 ({ T with d := s1295 } : TV) ({ t with done := (t.done ++ [m]) } : Trade) := ⟨h1343.next, h1343.p, h1343.r, h1345⟩
                have hS1348 : Sl (b107 :: b21 :: b12 :: b4 :: bs) w1330 SV.nil ([]) := (Sl.none_ _ _)
                refine W.ret (retCTTT rfl rfl (show _ = (.pointer (some ⟨b21, 0, none⟩) : Value) from s1337) (run_loadAt_row rt24 (row_blk_trade hB1332)) rfl (show _ = (SV.nil.val : Value) from s1338) rfl (show _ = (.bool true : Value) from s1339) rfl (show _ = (.int .i64 0 : Value) from s1340) ⟨({ T with d := s1295 } : TV), SV.nil, congrArg (fun (p : TakeT) => Value.tuple #[TV.val ({ T with d := s1295 } : TV), SV.val SV.nil, .bool p.2.2.1, .int .i64 p.2.2.2]) (Eq.symm pe1346), by rw [pe1346]; exact hT1347.tl.tl.tl.tl, by rw [pe1346]; exact hS1348.tl.tl.tl.tl, R1333⟩)
        · skip
          refine A.begin' (cs := []) rfl ?_
          intro w1349 g1350
          have R1351 := R134.gr g1350
          have R1352 : Chg [] w1349 w1349 := Chg.of_refl _ _
          refine A.take (i := 0) rfl (by kernel_rfl) (by kernel_rfl) (by kernel_rfl) (fun _ _ _ h => h) R1352 rfl rfl (fun _ _ => (X.fieldAddr (ev' (.pointer (some ⟨b12, 0, none⟩)) rfl s138) fo30_3 (b := ⟨b12, 3, none⟩) (Addr.add_lit _ _ _))) ?_
          have h1353 := h131.gr g133
          have h1354 := h1353.gr g1350
          refine A.take (i := 1) rfl (by kernel_rfl) (by kernel_rfl) (by kernel_rfl) (fun _ _ _ h => h) R1352 rfl rfl (fun _ hw => (X.load (ev' (.pointer (some ⟨b12, 3, none⟩)) rfl rfl) pt3 (Blk.lc (h1354.gr hw) (Msg.arr3 _)))) ?_
          refine A.take (i := 2) rfl (by kernel_rfl) (by kernel_rfl) (by kernel_rfl) (fun _ _ _ h => h) R1352 rfl rfl (fun _ _ => (X.fieldAddr (ev' (.pointer (some ⟨b4, 0, none⟩)) rfl s137) fo24_1 (b := ⟨b4, 1, none⟩) (Addr.add_lit _ _ _))) ?_
          have h1355 := h105.gr g108
          have h1356 := h1355.st c120 ne111
          have h1357 := h1356.gr g133
          have h1358 := h1357.gr g1350
          refine A.take (i := 3) rfl (by kernel_rfl) (by kernel_rfl) (by kernel_rfl) (fun _ _ _ h => h) R1352 rfl rfl (fun _ hw => (X.load (ev' (.pointer (some ⟨b4, 1, none⟩)) rfl rfl) pt22 (Blk.lc (h1358.gr hw) rfl))) ?_
          refine A.take (i := 4) rfl (by kernel_rfl) (by kernel_rfl) (by kernel_rfl) (fun _ _ _ h => h) R1352 rfl rfl (fun _ _ => (X.len (ev' (T.p.val) rfl rfl) st22)) ?_
          refine A.take (i := 5) rfl (by kernel_rfl) (by kernel_rfl) (by kernel_rfl) (fun _ _ _ h => h) R1352 rfl rfl (fun _ _ => (X.geq (ev' (.int .i64 m.no) rfl rfl) (ev' (.int .i64 (T.p.n : Int)) rfl rfl))) ?_
          refine A.take (i := 6) rfl (by kernel_rfl) (by kernel_rfl) (by kernel_rfl) (fun _ _ _ h => h) R1352 rfl rfl (fun _ _ => (X.move (ev' (.bool (decide (((T.p.n : Int) : Int) ≤ (m.no : Int)))) rfl rfl))) ?_
          refine A.takeGD (i := 7) rfl (by kernel_rfl) (by kernel_rfl) (by kernel_rfl) (fun _ _ _ _ h => h) R1352 rfl rfl rfl rfl rfl (deadR ht.p.len hb960) ?_
          refine A.takeGD (i := 8) rfl (by kernel_rfl) (by kernel_rfl) (by kernel_rfl) (fun _ _ _ _ h => h) R1352 rfl rfl rfl rfl rfl (deadR ht.p.len hb960) ?_
          refine A.takeGD (i := 9) rfl (by kernel_rfl) (by kernel_rfl) (by kernel_rfl) (fun _ _ _ _ h => h) R1352 rfl rfl rfl rfl rfl (deadR ht.p.len hb960) ?_
          refine A.takeGD (i := 10) rfl (by kernel_rfl) (by kernel_rfl) (by kernel_rfl) (fun _ _ _ _ h => h) R1352 rfl rfl rfl rfl rfl (deadR ht.p.len hb960) ?_
          refine A.takeGD (i := 11) rfl (by kernel_rfl) (by kernel_rfl) (by kernel_rfl) (fun _ _ _ _ h => h) R1352 rfl rfl rfl rfl rfl (deadR ht.p.len hb960) ?_
          refine A.takeGD (i := 12) rfl (by kernel_rfl) (by kernel_rfl) (by kernel_rfl) (fun _ _ _ _ h => h) R1352 rfl rfl rfl rfl rfl (deadR ht.p.len hb960) ?_
          refine A.takeGD (i := 13) rfl (by kernel_rfl) (by kernel_rfl) (by kernel_rfl) (fun _ _ _ _ h => h) R1352 rfl rfl rfl rfl rfl (deadR ht.p.len hb960) ?_
          refine A.takeGD (i := 14) rfl (by kernel_rfl) (by kernel_rfl) (by kernel_rfl) (fun _ _ _ _ h => h) R1352 rfl rfl rfl rfl rfl (deadR ht.p.len hb960) ?_
          refine A.takeGD (i := 15) rfl (by kernel_rfl) (by kernel_rfl) (by kernel_rfl) (fun _ _ _ _ h => h) R1352 rfl rfl rfl rfl rfl (deadR ht.p.len hb960) ?_
          refine A.takeGD (i := 16) rfl (by kernel_rfl) (by kernel_rfl) (by kernel_rfl) (fun _ _ _ _ h => h) R1352 rfl rfl rfl rfl rfl (deadR ht.p.len hb960) ?_
          refine A.take (i := 17) rfl (by kernel_rfl) (by kernel_rfl) (by kernel_rfl) (fun _ _ _ h => h) R1352 rfl rfl (fun _ _ => (X.or (ev' (.bool (decide (((T.p.n : Int) : Int) ≤ (m.no : Int)))) rfl rfl) (ev' (gv ((decide (((T.p.n : Int) : Int) ≤ (m.no : Int))) == false) (.bool false)) rfl rfl))) ?_
          refine A.done (by kernel_rfl) ?_
          refine then_n ?_
          refine W.fresh ?_
          intro r1359 er1360
          have s1361 : r1359 3 = .pointer (some ⟨b4, 0, none⟩) := (congrFun er1360 3).trans s137
          have s1362 : r1359 4 = .pointer (some ⟨b12, 0, none⟩) := (congrFun er1360 4).trans s138
          have s1363 : r1359 6 = .pointer (some ⟨b21, 0, none⟩) := (congrFun er1360 6).trans s139
          have s1364 : r1359 11 = .pointer (some ⟨b107, 0, none⟩) := (congrFun er1360 11).trans s140
          have s1365 : r1359 107 = .bool ((decide (((T.p.n : Int) : Int) ≤ (m.no : Int))) || false) := (congrFun er1360 107).trans rfl
          clear er1360
          refine W.cond rfl s1365 (fun k1366 => ?_) (fun k1366 => ?_)
          · skip
            refine W.seq ?_
            refine W.reg ?_
            refine W.val rfl rfl X.build24 ?_
            have h1367 := h114.gr g108
            have h1368 := h1367.st c120 ne115
            have h1369 := h1368.gr g133
            have h1370 := h1369.gr g1350
            refine W.eff0 rfl rfl (Y.storeW (ds := TV.zero.arr) (ev' (.pointer (some ⟨b21, 0, none⟩)) rfl s1363) (ev' (TV.zero.val) rfl rfl) h1370 (n := 4) rfl sz24 rfl (TV.oneCell _) rfl) ?_
            rintro w1371 ⟨c1372, hB1373⟩
            have R1374 := R1351.stN c1372 l28
            refine W.val rfl rfl (X.assign (evc' (SV.nil.val))) ?_
            refine W.val rfl rfl (X.assign (evc' (.bool false))) ?_
            refine W.val rfl rfl (X.assign (evc' (.int .i64 480))) ?_
            refine W.nil ?_
            refine then_n ?_
            refine W.fresh ?_
            intro r1376 er1377
            have s1378 : r1376 6 = .pointer (some ⟨b21, 0, none⟩) := (congrFun er1377 6).trans s1363
            have s1379 : r1376 7 = SV.nil.val := (congrFun er1377 7).trans rfl
            have s1380 : r1376 8 = .bool false := (congrFun er1377 8).trans rfl
            have s1381 : r1376 9 = .int .i64 480 := (congrFun er1377 9).trans rfl
            clear er1377
            have pe1382 : takeR t m id = (Trade.zero, [], false, 480) := (by exact take_4 k59 k87 k142 (ranswO k59 k87 hb960))
            have hT1383 : Tr (b107 :: b21 :: b12 :: b4 :: bs) w1371 TV.zero Trade.zero := (Tr.zero_ _ _)
            have hS1384 : Sl (b107 :: b21 :: b12 :: b4 :: bs) w1371 SV.nil ([]) := (Sl.none_ _ _)
            refine W.ret (then_r (retCTTT rfl rfl (show _ = (.pointer (some ⟨b21, 0, none⟩) : Value) from s1378) (run_loadAt_row rt24 (row_blk_trade hB1373)) rfl (show _ = (SV.nil.val : Value) from s1379) rfl (show _ = (.bool false : Value) from s1380) rfl (show _ = (.int .i64 480 : Value) from s1381) ⟨TV.zero, SV.nil, congrArg (fun (p : TakeT) => Value.tuple #[TV.val TV.zero, SV.val SV.nil, .bool p.2.2.1, .int .i64 p.2.2.2]) (Eq.symm pe1382), by rw [pe1382]; exact hT1383.tl.tl.tl.tl, by rw [pe1382]; exact hS1384.tl.tl.tl.tl, R1374⟩))
          · skip
            refine W.skip ?_
            refine then_n ?_
            refine W.seq ?_
            refine W.seq ?_
            refine W.reg ?_
            refine W.val rfl rfl (X.fieldAddr (ev' (.pointer (some ⟨b4, 0, none⟩)) rfl s1361) fo24_3 (b := ⟨b4, 3, none⟩) (Addr.add_lit _ _ _)) ?_
            refine W.val rfl rfl (X.load (ev' (.pointer (some ⟨b4, 3, none⟩)) rfl rfl) pt22 (Blk.lc h1358 rfl)) ?_
            refine W.val rfl rfl (X.fieldAddr (ev' (.pointer (some ⟨b12, 0, none⟩)) rfl s1362) fo30_3 (b := ⟨b12, 3, none⟩) (Addr.add_lit _ _ _)) ?_
            refine W.val rfl rfl (X.load (ev' (.pointer (some ⟨b12, 3, none⟩)) rfl rfl) pt3 (Blk.lc h1354 (Msg.arr3 _))) ?_
            have h1385 := h40.gr g42
            have h1386 := h1385.gr g78
            have h1387 := (h1386.ext lt110).gr g108
            have h1388 := h1387.st c120 (.head _)
            have h1389 := h1388.gr g133
            have h1390 := h1389.gr g1350
            refine W.call rfl rfl (X.callF go47 (args2 (ev' (T.d.val) rfl rfl) (ev' (.int .i64 m.no) rfl rfl))) (hasNo_c m.no _ h1390.d) ?_
            rintro _ w1391 ⟨rfl, g1392⟩
            have R1393 := R1351.gr g1392
            refine W.nil ?_
            refine then_n ?_
            refine W.fresh ?_
            intro r1394 er1395
            have s1396 : r1394 3 = .pointer (some ⟨b4, 0, none⟩) := (congrFun er1395 3).trans s1361
            have s1397 : r1394 4 = .pointer (some ⟨b12, 0, none⟩) := (congrFun er1395 4).trans s1362
            have s1398 : r1394 6 = .pointer (some ⟨b21, 0, none⟩) := (congrFun er1395 6).trans s1363
            have s1399 : r1394 11 = .pointer (some ⟨b107, 0, none⟩) := (congrFun er1395 11).trans s1364
            have s1400 : r1394 113 = .bool (hasNo m.no t.done) := (congrFun er1395 113).trans rfl
            clear er1395
            refine W.cond rfl s1400 (fun k1401 => ?_) (fun k1401 => ?_)
            · skip
              refine W.seq ?_
              refine W.reg ?_
              have h1402 := h1358.gr g1392
              refine W.val rfl rfl (X.loadR (ev' (.pointer (some ⟨b4, 0, none⟩)) rfl s1396) rt24 (row_blk_trade h1402) rfl) ?_
              have h1403 := h114.gr g108
              have h1404 := h1403.st c120 ne115
              have h1405 := h1404.gr g133
              have h1406 := h1405.gr g1350
              have h1407 := h1406.gr g1392
              refine W.eff0 rfl rfl (Y.storeW (ds := T.arr) (ev' (.pointer (some ⟨b21, 0, none⟩)) rfl s1398) (ev' (T.val) rfl rfl) h1407 (n := 4) rfl sz24 rfl (TV.oneCell _) rfl) ?_
              rintro w1408 ⟨c1409, hB1410⟩
              have R1411 := R1393.stN c1409 l28
              refine W.val rfl rfl (X.assign (evc' (SV.nil.val))) ?_
              refine W.val rfl rfl (X.assign (evc' (.bool false))) ?_
              refine W.val rfl rfl (X.assign (evc' (.int .i64 0))) ?_
              refine W.nil ?_
              refine then_n ?_
              refine W.fresh ?_
              intro r1413 er1414
              have s1415 : r1413 6 = .pointer (some ⟨b21, 0, none⟩) := (congrFun er1414 6).trans s1398
              have s1416 : r1413 7 = SV.nil.val := (congrFun er1414 7).trans rfl
              have s1417 : r1413 8 = .bool false := (congrFun er1414 8).trans rfl
              have s1418 : r1413 9 = .int .i64 0 := (congrFun er1414 9).trans rfl
              clear er1414
              have h1419 := h1390.gr g1392
              have h1420 := h1419.st c1409 (.tail _ (.head _))
              have pe1421 : takeR t m id = (t, [], false, 0) := (by exact take_5 k59 k87 k142 (deadK ht.p.len hb960 k1366).elim k1401)
              have hT1422 : Tr (b107 :: b21 :: b12 :: b4 :: bs) w1408 T t := h1420
              have hS1423 : Sl (b107 :: b21 :: b12 :: b4 :: bs) w1408 SV.nil ([]) := (Sl.none_ _ _)
              refine W.ret (then_r (retCTTT rfl rfl (show _ = (.pointer (some ⟨b21, 0, none⟩) : Value) from s1415) (run_loadAt_row rt24 (row_blk_trade hB1410)) rfl (show _ = (SV.nil.val : Value) from s1416) rfl (show _ = (.bool false : Value) from s1417) rfl (show _ = (.int .i64 0 : Value) from s1418) ⟨T, SV.nil, congrArg (fun (p : TakeT) => Value.tuple #[TV.val T, SV.val SV.nil, .bool p.2.2.1, .int .i64 p.2.2.2]) (Eq.symm pe1421), by rw [pe1421]; exact hT1422.tl.tl.tl.tl, by rw [pe1421]; exact hS1423.tl.tl.tl.tl, R1411⟩))
            · skip
              refine W.skip ?_
              refine then_n ?_
              refine W.seq ?_
              refine A.begin' (cs := [b107]) rfl ?_
              intro w1424 g1425
              have R1426 := R1393.gr g1425
              have R1427 : Chg [b107] w1424 w1424 := Chg.of_refl _ _
              refine A.take (i := 1) rfl (by kernel_rfl) (by kernel_rfl) (by kernel_rfl) (fun _ _ _ h => h) R1427 rfl rfl (fun _ _ => (X.fieldAddr (ev' (.pointer (some ⟨b4, 0, none⟩)) rfl s1396) fo24_3 (b := ⟨b4, 3, none⟩) (Addr.add_lit _ _ _))) ?_
              have h1428 := h1358.gr g1392
              have h1429 := h1428.gr g1425
              refine A.take (i := 2) rfl (by kernel_rfl) (by kernel_rfl) (by kernel_rfl) (fun _ _ _ h => h) R1427 rfl rfl (fun _ hw => (X.load (ev' (.pointer (some ⟨b4, 3, none⟩)) rfl rfl) pt22 (Blk.lc (h1429.chg hw (by simp [ne111])) rfl))) ?_
              have h1430 := h1354.gr g1392
              have h1431 := h1430.gr g1425
              refine A.take (i := 4) rfl (by kernel_rfl) (by kernel_rfl) (by kernel_rfl) (fun _ _ _ h => h) R1427 rfl rfl (fun _ hw => (X.loadR (ev' (.pointer (some ⟨b12, 0, none⟩)) rfl s1397) rt30 (row_blk_msg (h1431.chg hw (by simp [ne112]))) rfl)) ?_
              refine A.two (i := 0) (j := 5) (by kernel_rfl) ?_ ?_
              · skip
                have R1432 : Grow w1424 w1424 := Chg.refl _
                have h1433 := hl.new g5 hB6.lt
                have h1434 := h1433.new g13 hB14.lt
                have h1435 := h1434.new g22 hB23.lt
                have h1436 := h1435.gr g42
                have h1437 := h1436.gr g78
                have h1438 := h1437.new g108 hB109.lt
                have h1439 := h1438.gr c120
                have h1440 := h1439.gr g133
                have h1441 := h1440.gr g1350
                have h1442 := h1441.gr g1392
                have h1443 := h1442.gr g1425
                refine E.eff (i := 0) rfl rfl rfl (Y.own0c h1443) ?_
                rintro v1445 w1444 ⟨_, rfl, g1446, ho1447, hc1448⟩
                have R1449 := R1426.gr g1446
                have R1450 := R1427.gr g1446
                have R1451 := R1432.gr g1446
                refine ⟨R1450, ?_⟩
                refine A.two (i := 3) (j := 5) (by kernel_rfl) ?_ ?_
                · skip
                  have h1453 := h1390.gr g1392
                  have h1454 := h1453.gr g1425
                  have h1455 := h1454.gr g1446
                  have h1461 := h1443.gr g1446
                  refine E.eff (i := 3) rfl rfl rfl (Y.append0 (ev' (v1445) rfl rfl) (ev' (T.d.val) rfl rfl) ho1447 hc1448 h1455.d (Nat.le_of_succ_le (done_len k59)) R1451 h1443 h1461) ?_
                  rintro v1457 w1456 ⟨_, n1458, rfl, g1459, ho1460⟩
                  have R1462 := R1449.gr g1459
                  have R1463 := R1450.gr g1459
                  have R1464 := R1451.gr g1459
                  refine ⟨R1463, ?_⟩
                  refine A.one (i := 5) (by kernel_rfl) ?_
                  have h1466 := h1461.gr g1459
                  refine E.eff (i := 5) rfl rfl rfl (Y.slice1 (bs := (b107 :: b21 :: b12 :: b4 :: bs)) (ev' (.agg m.arr) rfl rfl) h1466) ?_
                  rintro _ w1467 ⟨s1468, rfl, g1469, hs1470⟩
                  have R1471 := R1462.gr g1469
                  have R1472 := R1463.gr g1469
                  have R1473 := R1464.gr g1469
                  refine ⟨R1472, ?_⟩
                  refine A.one (i := 6) (by kernel_rfl) ?_
                  have h1475 := ho1460.gr g1469
                  refine E.eff (i := 6) rfl rfl rfl (Y.appendOwnS (ev' (v1457) rfl rfl) (ev' (s1468.val) rfl rfl) h1475 hs1470 (by simp) (done_len k59) R1473 h1443) ?_
                  rintro _ w1476 ⟨s1477, rfl, g1478, hs1479⟩
                  have R1480 := R1426.gr g1478
                  have R1481 := R1427.gr g1478
                  refine ⟨R1481, ?_⟩
                  refine A.take (i := 7) rfl (by kernel_rfl) (by kernel_rfl) (by kernel_rfl) (fun _ _ _ h => h) R1481 rfl rfl (fun _ _ => (X.fieldAddr (ev' (.pointer (some ⟨b107, 0, none⟩)) rfl s1399) fo24_3 (b := ⟨b107, 3, none⟩) (Addr.add_lit _ _ _))) ?_
                  refine A.one (i := 8) (by kernel_rfl) ?_
                  have h1483 := hB121.gr g133
                  have h1484 := h1483.gr g1350
                  have h1485 := h1484.gr g1392
                  have h1486 := h1485.gr g1425
                  have h1487 := h1486.gr g1478
                  refine E.eff0 (i := 8) rfl rfl rfl (Y.storeC (ds := ({ T with d := s1477 } : TV).arr) (ev' (.pointer (some ⟨b107, 3, none⟩)) rfl rfl) (ev' (s1477.val) rfl rfl) h1487 (show 3 < 4 from by decide) sz22 rfl rfl rfl) ?_
                  rintro w1488 ⟨c1489, hB1490⟩
                  have R1491 := R1480.stN c1489 l116
                  have R1492 := R1481.stO c1489 (.head _)
                  refine ⟨R1492, ?_⟩
                  refine A.done (by kernel_rfl) ?_
                  refine then_n ?_
                  refine W.fresh ?_
                  intro r1494 er1495
                  have s1496 : r1494 6 = .pointer (some ⟨b21, 0, none⟩) := (congrFun er1495 6).trans s1398
                  have s1497 : r1494 11 = .pointer (some ⟨b107, 0, none⟩) := (congrFun er1495 11).trans s1399
                  clear er1495
                  refine W.seq ?_
                  refine W.reg ?_
                  refine W.val rfl rfl (X.loadR (ev' (.pointer (some ⟨b107, 0, none⟩)) rfl s1497) rt24 (row_blk_trade hB1490) rfl) ?_
                  have h1498 := h114.gr g108
                  have h1499 := h1498.st c120 ne115
                  have h1500 := h1499.gr g133
                  have h1501 := h1500.gr g1350
                  have h1502 := h1501.gr g1392
                  have h1503 := h1502.gr g1425
                  have h1504 := h1503.gr g1478
                  have h1505 := h1504.st c1489 ne115
                  refine W.eff0 rfl rfl (Y.storeW (ds := ({ T with d := s1477 } : TV).arr) (ev' (.pointer (some ⟨b21, 0, none⟩)) rfl s1496) (ev' (({ T with d := s1477 } : TV).val) rfl rfl) h1505 (n := 4) rfl sz24 rfl (TV.oneCell _) rfl) ?_
                  rintro w1506 ⟨c1507, hB1508⟩
                  have R1509 := R1491.stN c1507 l28
                  refine W.val rfl rfl (X.assign (evc' (SV.nil.val))) ?_
                  refine W.val rfl rfl (X.assign (evc' (.bool true))) ?_
                  refine W.val rfl rfl (X.assign (evc' (.int .i64 0))) ?_
                  refine W.nil ?_
                  refine then_n ?_
                  refine W.fresh ?_
                  intro r1511 er1512
                  have s1513 : r1511 6 = .pointer (some ⟨b21, 0, none⟩) := (congrFun er1512 6).trans s1496
                  have s1514 : r1511 7 = SV.nil.val := (congrFun er1512 7).trans rfl
                  have s1515 : r1511 8 = .bool true := (congrFun er1512 8).trans rfl
                  have s1516 : r1511 9 = .int .i64 0 := (congrFun er1512 9).trans rfl
                  clear er1512
                  have h1517 := h1454.gr g1478
                  have h1518 := h1517.st c1489 (.head _)
                  have h1519 := h1518.st c1507 (.tail _ (.head _))
                  have h1520 := hs1479.st c1489 (.head _)
                  have h1521 := h1520.st c1507 (.tail _ (.head _))
                  have pe1522 : takeR t m id = (({ t with done := (t.done ++ [m]) } : Trade), [], true, 0) := (by exact take_6 k59 k87 k142 (deadK ht.p.len hb960 k1366).elim k1401)
                  have hT1523 : Tr (b107 :: b21 :: b12 :: b4 :: bs) w1506 ({ T with d := s1477 } : TV) ({ t with done := (t.done ++ [m]) } : Trade) := ⟨h1519.next, h1519.p, h1519.r, h1521⟩
                  have hS1524 : Sl (b107 :: b21 :: b12 :: b4 :: bs) w1506 SV.nil ([]) := (Sl.none_ _ _)
                  refine W.ret (retCTTT rfl rfl (show _ = (.pointer (some ⟨b21, 0, none⟩) : Value) from s1513) (run_loadAt_row rt24 (row_blk_trade hB1508)) rfl (show _ = (SV.nil.val : Value) from s1514) rfl (show _ = (.bool true : Value) from s1515) rfl (show _ = (.int .i64 0 : Value) from s1516) ⟨({ T with d := s1477 } : TV), SV.nil, congrArg (fun (p : TakeT) => Value.tuple #[TV.val ({ T with d := s1477 } : TV), SV.val SV.nil, .bool p.2.2.1, .int .i64 p.2.2.2]) (Eq.symm pe1522), by rw [pe1522]; exact hT1523.tl.tl.tl.tl, by rw [pe1522]; exact hS1524.tl.tl.tl.tl, R1509⟩)
                · skip
                  have h1525 := h1443.gr g1446
                  refine E.eff (i := 5) rfl rfl rfl (Y.slice1 (bs := (b107 :: b21 :: b12 :: b4 :: bs)) (ev' (.agg m.arr) rfl rfl) h1525) ?_
                  rintro _ w1526 ⟨s1527, rfl, g1528, hs1529⟩
                  have R1530 := R1449.gr g1528
                  have R1531 := R1450.gr g1528
                  have R1532 := R1451.gr g1528
                  refine ⟨R1531, ?_⟩
                  refine A.one (i := 3) (by kernel_rfl) ?_
                  have h1534 := ho1447.gr g1528
                  have h1535 := h1390.gr g1392
                  have h1536 := h1535.gr g1425
                  have h1537 := h1536.gr g1446
                  have h1538 := h1537.gr g1528
                  have h1544 := h1525.gr g1528
                  refine E.eff (i := 3) rfl rfl rfl (Y.append0 (ev' (v1445) rfl rfl) (ev' (T.d.val) rfl rfl) h1534 hc1448 h1538.d (Nat.le_of_succ_le (done_len k59)) R1532 h1443 h1544) ?_
                  rintro v1540 w1539 ⟨_, n1541, rfl, g1542, ho1543⟩
                  have R1545 := R1530.gr g1542
                  have R1546 := R1531.gr g1542
                  have R1547 := R1532.gr g1542
                  refine ⟨R1546, ?_⟩
                  refine A.one (i := 6) (by kernel_rfl) ?_
                  have h1549 := hs1529.gr g1542
                  refine E.eff (i := 6) rfl rfl rfl (Y.appendOwnS (ev' (v1540) rfl rfl) (ev' (s1527.val) rfl rfl) ho1543 h1549 (by simp) (done_len k59) R1547 h1443) ?_
                  rintro _ w1550 ⟨s1551, rfl, g1552, hs1553⟩
                  have R1554 := R1426.gr g1552
                  have R1555 := R1427.gr g1552
                  refine ⟨R1555, ?_⟩
                  refine A.take (i := 7) rfl (by kernel_rfl) (by kernel_rfl) (by kernel_rfl) (fun _ _ _ h => h) R1555 rfl rfl (fun _ _ => (X.fieldAddr (ev' (.pointer (some ⟨b107, 0, none⟩)) rfl s1399) fo24_3 (b := ⟨b107, 3, none⟩) (Addr.add_lit _ _ _))) ?_
                  refine A.one (i := 8) (by kernel_rfl) ?_
                  have h1557 := hB121.gr g133
                  have h1558 := h1557.gr g1350
                  have h1559 := h1558.gr g1392
                  have h1560 := h1559.gr g1425
                  have h1561 := h1560.gr g1552
                  refine E.eff0 (i := 8) rfl rfl rfl (Y.storeC (ds := ({ T with d := s1551 } : TV).arr) (ev' (.pointer (some ⟨b107, 3, none⟩)) rfl rfl) (ev' (s1551.val) rfl rfl) h1561 (show 3 < 4 from by decide) sz22 rfl rfl rfl) ?_
                  rintro w1562 ⟨c1563, hB1564⟩
                  have R1565 := R1554.stN c1563 l116
                  have R1566 := R1555.stO c1563 (.head _)
                  refine ⟨R1566, ?_⟩
                  refine A.done (by kernel_rfl) ?_
                  refine then_n ?_
                  refine W.fresh ?_
                  intro r1568 er1569
                  have s1570 : r1568 6 = .pointer (some ⟨b21, 0, none⟩) := (congrFun er1569 6).trans s1398
                  have s1571 : r1568 11 = .pointer (some ⟨b107, 0, none⟩) := (congrFun er1569 11).trans s1399
                  clear er1569
                  refine W.seq ?_
                  refine W.reg ?_
                  refine W.val rfl rfl (X.loadR (ev' (.pointer (some ⟨b107, 0, none⟩)) rfl s1571) rt24 (row_blk_trade hB1564) rfl) ?_
                  have h1572 := h114.gr g108
                  have h1573 := h1572.st c120 ne115
                  have h1574 := h1573.gr g133
                  have h1575 := h1574.gr g1350
                  have h1576 := h1575.gr g1392
                  have h1577 := h1576.gr g1425
                  have h1578 := h1577.gr g1552
                  have h1579 := h1578.st c1563 ne115
                  refine W.eff0 rfl rfl (Y.storeW (ds := ({ T with d := s1551 } : TV).arr) (ev' (.pointer (some ⟨b21, 0, none⟩)) rfl s1570) (ev' (({ T with d := s1551 } : TV).val) rfl rfl) h1579 (n := 4) rfl sz24 rfl (TV.oneCell _) rfl) ?_
                  rintro w1580 ⟨c1581, hB1582⟩
                  have R1583 := R1565.stN c1581 l28
                  refine W.val rfl rfl (X.assign (evc' (SV.nil.val))) ?_
                  refine W.val rfl rfl (X.assign (evc' (.bool true))) ?_
                  refine W.val rfl rfl (X.assign (evc' (.int .i64 0))) ?_
                  refine W.nil ?_
                  refine then_n ?_
                  refine W.fresh ?_
                  intro r1585 er1586
                  have s1587 : r1585 6 = .pointer (some ⟨b21, 0, none⟩) := (congrFun er1586 6).trans s1570
                  have s1588 : r1585 7 = SV.nil.val := (congrFun er1586 7).trans rfl
                  have s1589 : r1585 8 = .bool true := (congrFun er1586 8).trans rfl
                  have s1590 : r1585 9 = .int .i64 0 := (congrFun er1586 9).trans rfl
                  clear er1586
                  have h1591 := h1536.gr g1552
                  have h1592 := h1591.st c1563 (.head _)
                  have h1593 := h1592.st c1581 (.tail _ (.head _))
                  have h1594 := hs1553.st c1563 (.head _)
                  have h1595 := h1594.st c1581 (.tail _ (.head _))
                  have pe1596 : takeR t m id = (({ t with done := (t.done ++ [m]) } : Trade), [], true, 0) := (by exact take_6 k59 k87 k142 (deadK ht.p.len hb960 k1366).elim k1401)
                  have hT1597 : Tr (b107 :: b21 :: b12 :: b4 :: bs) w1580 ({ T with d := s1551 } : TV) ({ t with done := (t.done ++ [m]) } : Trade) := ⟨h1593.next, h1593.p, h1593.r, h1595⟩
                  have hS1598 : Sl (b107 :: b21 :: b12 :: b4 :: bs) w1580 SV.nil ([]) := (Sl.none_ _ _)
                  refine W.ret (retCTTT rfl rfl (show _ = (.pointer (some ⟨b21, 0, none⟩) : Value) from s1587) (run_loadAt_row rt24 (row_blk_trade hB1582)) rfl (show _ = (SV.nil.val : Value) from s1588) rfl (show _ = (.bool true : Value) from s1589) rfl (show _ = (.int .i64 0 : Value) from s1590) ⟨({ T with d := s1551 } : TV), SV.nil, congrArg (fun (p : TakeT) => Value.tuple #[TV.val ({ T with d := s1551 } : TV), SV.val SV.nil, .bool p.2.2.1, .int .i64 p.2.2.2]) (Eq.symm pe1596), by rw [pe1596]; exact hT1597.tl.tl.tl.tl, by rw [pe1596]; exact hS1598.tl.tl.tl.tl, R1583⟩)
              · skip
                have h1599 := hl.new g5 hB6.lt
                have h1600 := h1599.new g13 hB14.lt
                have h1601 := h1600.new g22 hB23.lt
                have h1602 := h1601.gr g42
                have h1603 := h1602.gr g78
                have h1604 := h1603.new g108 hB109.lt
                have h1605 := h1604.gr c120
                have h1606 := h1605.gr g133
                have h1607 := h1606.gr g1350
                have h1608 := h1607.gr g1392
                have h1609 := h1608.gr g1425
                refine E.eff (i := 5) rfl rfl rfl (Y.slice1 (bs := (b107 :: b21 :: b12 :: b4 :: bs)) (ev' (.agg m.arr) rfl rfl) h1609) ?_
                rintro _ w1610 ⟨s1611, rfl, g1612, hs1613⟩
                have R1614 := R1426.gr g1612
                have R1615 := R1427.gr g1612
                refine ⟨R1615, ?_⟩
                refine A.one (i := 0) (by kernel_rfl) ?_
                have R1617 : Grow w1610 w1610 := Chg.refl _
                have h1618 := h1609.gr g1612
                refine E.eff (i := 0) rfl rfl rfl (Y.own0c h1618) ?_
                rintro v1620 w1619 ⟨_, rfl, g1621, ho1622, hc1623⟩
                have R1624 := R1614.gr g1621
                have R1625 := R1615.gr g1621
                have R1626 := R1617.gr g1621
                refine ⟨R1625, ?_⟩
                refine A.one (i := 3) (by kernel_rfl) ?_
                have h1628 := h1390.gr g1392
                have h1629 := h1628.gr g1425
                have h1630 := h1629.gr g1612
                have h1631 := h1630.gr g1621
                have h1637 := h1618.gr g1621
                refine E.eff (i := 3) rfl rfl rfl (Y.append0 (ev' (v1620) rfl rfl) (ev' (T.d.val) rfl rfl) ho1622 hc1623 h1631.d (Nat.le_of_succ_le (done_len k59)) R1626 h1618 h1637) ?_
                rintro v1633 w1632 ⟨_, n1634, rfl, g1635, ho1636⟩
                have R1638 := R1624.gr g1635
                have R1639 := R1625.gr g1635
                have R1640 := R1626.gr g1635
                refine ⟨R1639, ?_⟩
                refine A.one (i := 6) (by kernel_rfl) ?_
                have h1642 := hs1613.gr g1621
                have h1643 := h1642.gr g1635
                refine E.eff (i := 6) rfl rfl rfl (Y.appendOwnS (ev' (v1633) rfl rfl) (ev' (s1611.val) rfl rfl) ho1636 h1643 (by simp) (done_len k59) R1640 h1618) ?_
                rintro _ w1644 ⟨s1645, rfl, g1646, hs1647⟩
                have R1648 := R1614.gr g1646
                have R1649 := R1615.gr g1646
                refine ⟨R1649, ?_⟩
                refine A.take (i := 7) rfl (by kernel_rfl) (by kernel_rfl) (by kernel_rfl) (fun _ _ _ h => h) R1649 rfl rfl (fun _ _ => (X.fieldAddr (ev' (.pointer (some ⟨b107, 0, none⟩)) rfl s1399) fo24_3 (b := ⟨b107, 3, none⟩) (Addr.add_lit _ _ _))) ?_
                refine A.one (i := 8) (by kernel_rfl) ?_
                have h1651 := hB121.gr g133
                have h1652 := h1651.gr g1350
                have h1653 := h1652.gr g1392
                have h1654 := h1653.gr g1425
                have h1655 := h1654.gr g1612
                have h1656 := h1655.gr g1646
                refine E.eff0 (i := 8) rfl rfl rfl (Y.storeC (ds := ({ T with d := s1645 } : TV).arr) (ev' (.pointer (some ⟨b107, 3, none⟩)) rfl rfl) (ev' (s1645.val) rfl rfl) h1656 (show 3 < 4 from by decide) sz22 rfl rfl rfl) ?_
                rintro w1657 ⟨c1658, hB1659⟩
                have R1660 := R1648.stN c1658 l116
                have R1661 := R1649.stO c1658 (.head _)
                refine ⟨R1661, ?_⟩
                refine A.done (by kernel_rfl) ?_
                refine then_n ?_
                refine W.fresh ?_
                intro r1663 er1664
                have s1665 : r1663 6 = .pointer (some ⟨b21, 0, none⟩) := (congrFun er1664 6).trans s1398
                have s1666 : r1663 11 = .pointer (some ⟨b107, 0, none⟩) := (congrFun er1664 11).trans s1399
                clear er1664
                refine W.seq ?_
                refine W.reg ?_
                refine W.val rfl rfl (X.loadR (ev' (.pointer (some ⟨b107, 0, none⟩)) rfl s1666) rt24 (row_blk_trade hB1659) rfl) ?_
                have h1667 := h114.gr g108
                have h1668 := h1667.st c120 ne115
                have h1669 := h1668.gr g133
                have h1670 := h1669.gr g1350
                have h1671 := h1670.gr g1392
                have h1672 := h1671.gr g1425
                have h1673 := h1672.gr g1612
                have h1674 := h1673.gr g1646
                have h1675 := h1674.st c1658 ne115
                refine W.eff0 rfl rfl (Y.storeW (ds := ({ T with d := s1645 } : TV).arr) (ev' (.pointer (some ⟨b21, 0, none⟩)) rfl s1665) (ev' (({ T with d := s1645 } : TV).val) rfl rfl) h1675 (n := 4) rfl sz24 rfl (TV.oneCell _) rfl) ?_
                rintro w1676 ⟨c1677, hB1678⟩
                have R1679 := R1660.stN c1677 l28
                refine W.val rfl rfl (X.assign (evc' (SV.nil.val))) ?_
                refine W.val rfl rfl (X.assign (evc' (.bool true))) ?_
                refine W.val rfl rfl (X.assign (evc' (.int .i64 0))) ?_
                refine W.nil ?_
                refine then_n ?_
                refine W.fresh ?_
                intro r1681 er1682
                have s1683 : r1681 6 = .pointer (some ⟨b21, 0, none⟩) := (congrFun er1682 6).trans s1665
                have s1684 : r1681 7 = SV.nil.val := (congrFun er1682 7).trans rfl
                have s1685 : r1681 8 = .bool true := (congrFun er1682 8).trans rfl
                have s1686 : r1681 9 = .int .i64 0 := (congrFun er1682 9).trans rfl
                clear er1682
                have h1687 := h1630.gr g1646
                have h1688 := h1687.st c1658 (.head _)
                have h1689 := h1688.st c1677 (.tail _ (.head _))
                have h1690 := hs1647.st c1658 (.head _)
                have h1691 := h1690.st c1677 (.tail _ (.head _))
                have pe1692 : takeR t m id = (({ t with done := (t.done ++ [m]) } : Trade), [], true, 0) := (by exact take_6 k59 k87 k142 (deadK ht.p.len hb960 k1366).elim k1401)
                have hT1693 : Tr (b107 :: b21 :: b12 :: b4 :: bs) w1676 ({ T with d := s1645 } : TV) ({ t with done := (t.done ++ [m]) } : Trade) := ⟨h1689.next, h1689.p, h1689.r, h1691⟩
                have hS1694 : Sl (b107 :: b21 :: b12 :: b4 :: bs) w1676 SV.nil ([]) := (Sl.none_ _ _)
                refine W.ret (retCTTT rfl rfl (show _ = (.pointer (some ⟨b21, 0, none⟩) : Value) from s1683) (run_loadAt_row rt24 (row_blk_trade hB1678)) rfl (show _ = (SV.nil.val : Value) from s1684) rfl (show _ = (.bool true : Value) from s1685) rfl (show _ = (.int .i64 0 : Value) from s1686) ⟨({ T with d := s1645 } : TV), SV.nil, congrArg (fun (p : TakeT) => Value.tuple #[TV.val ({ T with d := s1645 } : TV), SV.val SV.nil, .bool p.2.2.1, .int .i64 p.2.2.2]) (Eq.symm pe1692), by rw [pe1692]; exact hT1693.tl.tl.tl.tl, by rw [pe1692]; exact hS1694.tl.tl.tl.tl, R1679⟩)

end Go.Proofs.Ytigimkmkbdnlpaa
