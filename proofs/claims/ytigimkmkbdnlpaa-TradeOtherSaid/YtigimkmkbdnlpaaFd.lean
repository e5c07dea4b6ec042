/- Waiting and its reference. Printed by gen.py. -/
import Derived.Test.YtigimkmkbdnlpaaFa
import Derived.Test.YtigimkmkbdnlpaaOwn
namespace Go.Proofs.Ytigimkmkbdnlpaa
open Go.RowKit

theorem twaiting_c {bs : List Nat} {T : TV} {t : Trade} (id : Int) (w : World) (ht : Tr bs w T t) (hl : LtAll bs w) (hlen : t.placed.length ≤ 5000) : Calls Try.prog 19 #[T.val, .int .i64 id] w (Ret fun v w' => ∃ s : SV, v = s.val ∧ Sl bs w' s (waitL t id) ∧ Grow w w') := by
  refine enter (N := 46) Try.func19 rfl Try.ntmps19 rfl ?_
  intro ρ hρ
  have a0 : ρ 0 = T.val := hρ 0 _ rfl
  have a1 : ρ 1 = .int .i64 id := hρ 1 _ rfl
  clear hρ
  have R0 : Grow w w := Chg.refl w
  refine W.seq ?_
  refine W.reg ?_
  refine W.eff rfl rfl (Y.box (cs := T.arr) (ev' (T.val) rfl a0) rfl) ?_
  rintro _ w3 ⟨b4, rfl, g5, hB6, lt7⟩
  have l8 := Nat.le_trans R0.size lt7
  have R9 := R0.gr g5
  refine W.val rfl rfl (X.assign (evc' (SV.nil.val))) ?_
  refine W.nil ?_
  refine then_n ?_
  refine W.fresh ?_
  intro r11 er12
  have s13 : r11 1 = .int .i64 id := (congrFun er12 1).trans a1
  have s14 : r11 2 = .pointer (some ⟨b4, 0, none⟩) := (congrFun er12 2).trans rfl
  have s15 : r11 4 = SV.nil.val := (congrFun er12 4).trans rfl
  clear er12
  refine W.seq ?_
  refine W.reg ?_
  refine W.eff rfl rfl (Y.makeMap kI) ?_
  rintro _ w16 ⟨r17, rfl, g18, hm19, lt20⟩
  have ne21 := hB6.ne lt20
  have l22 := Nat.le_trans R9.size lt20
  have R23 := R9.gr g18
  refine W.val rfl rfl (X.assign (ev' (.map (some r17)) rfl rfl)) ?_
  refine W.nil ?_
  refine then_n ?_
  refine W.fresh ?_
  intro r25 er26
  have s27 : r25 1 = .int .i64 id := (congrFun er26 1).trans s13
  have s28 : r25 2 = .pointer (some ⟨b4, 0, none⟩) := (congrFun er26 2).trans s14
  have s29 : r25 4 = SV.nil.val := (congrFun er26 4).trans s15
  have s30 : r25 5 = .map (some r17) := (congrFun er26 5).trans rfl
  clear er26
  refine W.seq ?_
  refine W.seq ?_
  refine W.reg ?_
  refine W.val rfl rfl (X.fieldAddr (ev' (.pointer (some ⟨b4, 0, none⟩)) rfl s28) fo24_3 (b := ⟨b4, 3, none⟩) (Addr.add_lit _ _ _)) ?_
  have h31 := hB6.gr g18
  refine W.val rfl rfl (X.load (ev' (.pointer (some ⟨b4, 3, none⟩)) rfl rfl) pt22 (Blk.lc h31 rfl)) ?_
  refine W.val rfl rfl (X.len (ev' (T.d.val) rfl rfl) st22) ?_
  refine W.val rfl rfl (X.move (evc' (.int .i64 0))) ?_
  refine W.nil ?_
  refine then_n ?_
  refine W.fresh ?_
  intro r32 er33
  have s34 : r32 1 = .int .i64 id := (congrFun er33 1).trans s27
  have s35 : r32 2 = .pointer (some ⟨b4, 0, none⟩) := (congrFun er33 2).trans s28
  have s36 : r32 4 = SV.nil.val := (congrFun er33 4).trans s29
  have s37 : r32 5 = .map (some r17) := (congrFun er33 5).trans s30
  have s38 : r32 12 = T.d.val := (congrFun er33 12).trans rfl
  have s39 : r32 13 = .int .i64 (T.d.n : Int) := (congrFun er33 13).trans rfl
  have s40 : r32 14 = .int .i64 0 := (congrFun er33 14).trans rfl
  clear er33
  refine W.block ?_
  refine W.fresh ?_
  intro r41 er42
  have s43 : r41 1 = .int .i64 id := (congrFun er42 1).trans s34
  have s44 : r41 2 = .pointer (some ⟨b4, 0, none⟩) := (congrFun er42 2).trans s35
  have s45 : r41 4 = SV.nil.val := (congrFun er42 4).trans s36
  have s46 : r41 5 = .map (some r17) := (congrFun er42 5).trans s37
  have s47 : r41 12 = T.d.val := (congrFun er42 12).trans s38
  have s48 : r41 13 = .int .i64 (T.d.n : Int) := (congrFun er42 13).trans s39
  have s49 : r41 14 = .int .i64 0 := (congrFun er42 14).trans s40
  clear er42
  refine W.count 14 T.d.n (fun I ρ W => I ≤ T.d.n ∧ ρ 14 = .int .i64 ((I : Nat) : Int) ∧ Chg [r17] w16 W ∧ ρ 1 = .int .i64 id ∧ ρ 2 = .pointer (some ⟨b4, 0, none⟩) ∧ ρ 4 = SV.nil.val ∧ ρ 5 = .map (some r17) ∧ ρ 12 = T.d.val ∧ ρ 13 = .int .i64 (T.d.n : Int) ∧ Mp kI W r17 (nosOf (t.done.take I))) 0 rfl
    ⟨Nat.zero_le _, s49, Chg.of_refl _ _, s43, s44, s45, s46, s47, s48, hm19⟩ (fun I ρ W hJ => ⟨hJ.2.1, hJ.1⟩) ?_
  rintro i50 r51 w52 ⟨le53, s54, R55, s56, s57, s58, s59, s60, s61, x62⟩
  have R68 := R23.stN R55 l22
  refine W.seq ?_
  refine W.reg ?_
  refine W.val rfl rfl (X.lss (ev' (.int .i64 ((i50 : Nat) : Int)) rfl s54) (ev' (.int .i64 (T.d.n : Int)) rfl s61)) ?_
  refine W.nil ?_
  refine then_n ?_
  refine W.fresh ?_
  intro r70 er71
  have s72 : r70 1 = .int .i64 id := (congrFun er71 1).trans s56
  have s73 : r70 2 = .pointer (some ⟨b4, 0, none⟩) := (congrFun er71 2).trans s57
  have s74 : r70 4 = SV.nil.val := (congrFun er71 4).trans s58
  have s75 : r70 5 = .map (some r17) := (congrFun er71 5).trans s59
  have s76 : r70 12 = T.d.val := (congrFun er71 12).trans s60
  have s77 : r70 13 = .int .i64 (T.d.n : Int) := (congrFun er71 13).trans s61
  have s78 : r70 14 = .int .i64 ((i50 : Nat) : Int) := (congrFun er71 14).trans s54
  have s79 : r70 15 = .bool (decide ((((i50 : Nat) : Int) : Int) < ((T.d.n : Int) : Int))) := (congrFun er71 15).trans rfl
  clear er71
  refine W.seq ?_
  refine W.cond rfl s79 (fun k80 => ?_) (fun k80 => ?_)
  · skip
    have lt67 : i50 < T.d.n := Int.ofNat_lt.1 (of_decide_eq_true k80)
    refine W.skip ?_
    refine then_n ?_
    refine W.seq ?_
    refine W.block ?_
    refine W.seq ?_
    refine W.reg ?_
    have h83 := (ht.ext lt7).gr g5
    have h84 := (h83.ext lt20).gr g18
    have h85 := h84.st R55 (.head _)
    obtain ⟨m81, hm82⟩ := some_of_lt (h85.d.len ▸ lt67)
    obtain ⟨eb86, eo87, ha88, lt89, hr90⟩ := Sl.rowAt h85.d hm82
    refine W.val rfl rfl (X.idx (b := ⟨eb86, eo87 + i50 * 43, none⟩) (evs ha88 (ev' (T.d.val) rfl s76)) (ev' (.int .i64 ((i50 : Nat) : Int)) rfl s78) (Int.natCast_nonneg _) (Int.ofNat_lt.2 lt89) st22 sz30 (Addr.add_lit _ _ _)) ?_
    refine W.val rfl rfl (X.loadR (ev' (.pointer (some ⟨eb86, eo87 + i50 * 43, none⟩)) rfl rfl) rt30 hr90.r rfl) ?_
    refine W.eff rfl rfl (Y.alloc (cs := Msg.zero.arr) zero30 rfl) ?_
    rintro _ w92 ⟨b93, rfl, g94, hB95, lt96⟩
    have h97 := h31.st R55 ne21
    have ne98 := h97.ne lt96
    have ne99 := x62.ne lt96
    have l100 := Nat.le_trans R68.size lt96
    have l101 := Nat.le_trans R55.size lt96
    have R102 := R68.gr g94
    have R103 := R55.gr g94
    refine W.eff0 rfl rfl (Y.storeW (ds := m81.arr) (ev' (.pointer (some ⟨b93, 0, none⟩)) rfl rfl) (ev' (.agg m81.arr) rfl rfl) hB95 (Msg.size_arr _) sz30 (Msg.size_arr _) (Msg.oneCellA _) rfl) ?_
    rintro w105 ⟨c106, hB107⟩
    have R108 := R102.stN c106 l100
    have R109 := R103.stN c106 l101
    refine W.nil ?_
    refine then_n ?_
    refine W.fresh ?_
    intro r111 er112
    have s113 : r111 1 = .int .i64 id := (congrFun er112 1).trans s72
    have s114 : r111 2 = .pointer (some ⟨b4, 0, none⟩) := (congrFun er112 2).trans s73
    have s115 : r111 4 = SV.nil.val := (congrFun er112 4).trans s74
    have s116 : r111 5 = .map (some r17) := (congrFun er112 5).trans s75
    have s117 : r111 7 = .pointer (some ⟨b93, 0, none⟩) := (congrFun er112 7).trans rfl
    have s118 : r111 12 = T.d.val := (congrFun er112 12).trans s76
    have s119 : r111 13 = .int .i64 (T.d.n : Int) := (congrFun er112 13).trans s77
    have s120 : r111 14 = .int .i64 ((i50 : Nat) : Int) := (congrFun er112 14).trans s78
    clear er112
    refine W.reg ?_
    refine W.val rfl rfl (X.move (ev' (.map (some r17)) rfl s116)) ?_
    refine W.val rfl rfl (X.fieldAddr (ev' (.pointer (some ⟨b93, 0, none⟩)) rfl s117) fo30_3 (b := ⟨b93, 3, none⟩) (Addr.add_lit _ _ _)) ?_
    refine W.val rfl rfl (X.load (ev' (.pointer (some ⟨b93, 3, none⟩)) rfl rfl) pt3 (Blk.lc hB107 (Msg.arr3 _))) ?_
    have h121 := x62.gr g94
    have h122 := h121.st c106 ne99
    refine W.eff0 rfl rfl (Y.updateB findsI Try.underlying84 (ev' (.map (some r17)) rfl rfl) (ev' (.int .i64 m81.no) rfl rfl) (evc' (.bool true)) h122) ?_
    rintro w123 ⟨c124, hm125⟩
    have R126 := R108.stN c124 l22
    have R127 := R109.stO c124 (.head _)
    refine W.nil ?_
    refine inb_n ?_
    refine then_n ?_
    refine W.fresh ?_
    intro r129 er130
    have s131 : r129 1 = .int .i64 id := (congrFun er130 1).trans s113
    have s132 : r129 2 = .pointer (some ⟨b4, 0, none⟩) := (congrFun er130 2).trans s114
    have s133 : r129 4 = SV.nil.val := (congrFun er130 4).trans s115
    have s134 : r129 5 = .map (some r17) := (congrFun er130 5).trans s116
    have s135 : r129 12 = T.d.val := (congrFun er130 12).trans s118
    have s136 : r129 13 = .int .i64 (T.d.n : Int) := (congrFun er130 13).trans s119
    have s137 : r129 14 = .int .i64 ((i50 : Nat) : Int) := (congrFun er130 14).trans s120
    clear er130
    refine W.reg ?_
    refine W.val rfl rfl (X.inc (ev' (.int .i64 ((i50 : Nat) : Int)) rfl s137) (evc' (.int .i64 1)) lt67 ht.d.bnd) ?_
    refine W.val rfl rfl (X.move (ev' (.int .i64 ((i50 + 1 : Nat) : Int)) rfl rfl)) ?_
    refine W.nil ?_
    refine then_n ?_
    exact ⟨_, rfl, lt67, rfl, R127, s131, s132, s133, s134, s135, s136, (nosOf_step hm82 ▸ hm125)⟩
  · skip
    have ei138 : i50 = T.d.n := Nat.le_antisymm le53 (Nat.le_of_not_lt fun h => of_decide_eq_false k80 (Int.ofNat_lt.2 h))
    refine W.exit (then_x (then_x (inb_x ?_)))
    refine then_n ?_
    refine W.seq ?_
    refine W.seq ?_
    refine W.reg ?_
    refine W.val rfl rfl (X.fieldAddr (ev' (.pointer (some ⟨b4, 0, none⟩)) rfl s73) fo24_1 (b := ⟨b4, 1, none⟩) (Addr.add_lit _ _ _)) ?_
    have h139 := h31.st R55 ne21
    refine W.val rfl rfl (X.load (ev' (.pointer (some ⟨b4, 1, none⟩)) rfl rfl) pt22 (Blk.lc h139 rfl)) ?_
    refine W.val rfl rfl (X.len (ev' (T.p.val) rfl rfl) st22) ?_
    refine W.val rfl rfl (X.move (evc' (.int .i64 0))) ?_
    refine W.nil ?_
    refine then_n ?_
    refine W.fresh ?_
    intro r140 er141
    have s142 : r140 1 = .int .i64 id := (congrFun er141 1).trans s72
    have s143 : r140 4 = SV.nil.val := (congrFun er141 4).trans s74
    have s144 : r140 5 = .map (some r17) := (congrFun er141 5).trans s75
    have s145 : r140 23 = T.p.val := (congrFun er141 23).trans rfl
    have s146 : r140 24 = .int .i64 (T.p.n : Int) := (congrFun er141 24).trans rfl
    have s147 : r140 25 = .int .i64 0 := (congrFun er141 25).trans rfl
    clear er141
    refine W.block ?_
    refine W.fresh ?_
    intro r148 er149
    have s150 : r148 1 = .int .i64 id := (congrFun er149 1).trans s142
    have s151 : r148 4 = SV.nil.val := (congrFun er149 4).trans s143
    have s152 : r148 5 = .map (some r17) := (congrFun er149 5).trans s144
    have s153 : r148 23 = T.p.val := (congrFun er149 23).trans s145
    have s154 : r148 24 = .int .i64 (T.p.n : Int) := (congrFun er149 24).trans s146
    have s155 : r148 25 = .int .i64 0 := (congrFun er149 25).trans s147
    clear er149
    have R157 : Grow w52 w52 := Chg.refl _
    refine W.count 25 T.p.n (fun I ρ W => I ≤ T.p.n ∧ ρ 25 = .int .i64 ((I : Nat) : Int) ∧ Chg [] w52 W ∧ ρ 1 = .int .i64 id ∧ ρ 5 = .map (some r17) ∧ ρ 23 = T.p.val ∧ ρ 24 = .int .i64 (T.p.n : Int) ∧ (∃ v n, ρ 4 = v ∧ Own (r17 :: b4 :: bs) w52 W v n ((t.placed.take I).filter (waits t id)))) 0 rfl
      ⟨Nat.zero_le _, s155, R157, s150, s152, s153, s154, ⟨_, _, s151, (filt0 t.placed (waits t id) ▸ (Own.none_ (r17 :: b4 :: bs) w52 w52))⟩⟩ (fun I ρ W hJ => ⟨hJ.2.1, hJ.1⟩) ?_
    rintro i156 r159 w160 ⟨le161, s162, R163, s164, s165, s166, s167, ⟨v168, n169, s170, ho171⟩⟩
    have R173 := R68.gr R163
    have R174 := R55.gr R163
    refine W.seq ?_
    refine W.reg ?_
    refine W.val rfl rfl (X.lss (ev' (.int .i64 ((i156 : Nat) : Int)) rfl s162) (ev' (.int .i64 (T.p.n : Int)) rfl s167)) ?_
    refine W.nil ?_
    refine then_n ?_
    refine W.fresh ?_
    intro r176 er177
    have s178 : r176 1 = .int .i64 id := (congrFun er177 1).trans s164
    have s179 : r176 4 = v168 := (congrFun er177 4).trans s170
    have s180 : r176 5 = .map (some r17) := (congrFun er177 5).trans s165
    have s181 : r176 23 = T.p.val := (congrFun er177 23).trans s166
    have s182 : r176 24 = .int .i64 (T.p.n : Int) := (congrFun er177 24).trans s167
    have s183 : r176 25 = .int .i64 ((i156 : Nat) : Int) := (congrFun er177 25).trans s162
    have s184 : r176 26 = .bool (decide ((((i156 : Nat) : Int) : Int) < ((T.p.n : Int) : Int))) := (congrFun er177 26).trans rfl
    clear er177
    refine W.seq ?_
    refine W.cond rfl s184 (fun k185 => ?_) (fun k185 => ?_)
    · skip
      have lt172 : i156 < T.p.n := Int.ofNat_lt.1 (of_decide_eq_true k185)
      refine W.skip ?_
      refine then_n ?_
      refine W.seq ?_
      refine W.block ?_
      refine W.seq ?_
      refine W.reg ?_
      have h188 := (ht.ext lt7).gr g5
      have h189 := (h188.ext lt20).gr g18
      have h190 := h189.st R55 (.head _)
      have h191 := h190.gr R163
      obtain ⟨m186, hm187⟩ := some_of_lt (h191.p.len ▸ lt172)
      obtain ⟨eb192, eo193, ha194, lt195, hr196⟩ := Sl.rowAt h191.p hm187
      refine W.val rfl rfl (X.idx (b := ⟨eb192, eo193 + i156 * 43, none⟩) (evs ha194 (ev' (T.p.val) rfl s181)) (ev' (.int .i64 ((i156 : Nat) : Int)) rfl s183) (Int.natCast_nonneg _) (Int.ofNat_lt.2 lt195) st22 sz30 (Addr.add_lit _ _ _)) ?_
      refine W.val rfl rfl (X.loadR (ev' (.pointer (some ⟨eb192, eo193 + i156 * 43, none⟩)) rfl rfl) rt30 hr196.r rfl) ?_
      refine W.eff rfl rfl (Y.alloc (cs := Msg.zero.arr) zero30 rfl) ?_
      rintro _ w198 ⟨b199, rfl, g200, hB201, lt202⟩
      have h203 := h139.gr R163
      have ne204 := h203.ne lt202
      have h205 := x62.gr R163
      have ne206 := h205.ne lt202
      have l207 := Nat.le_trans R173.size lt202
      have l208 := Nat.le_trans R174.size lt202
      have l209 := Nat.le_trans R163.size lt202
      have R210 := R173.gr g200
      have R211 := R174.gr g200
      have R212 := R163.gr g200
      refine W.eff0 rfl rfl (Y.storeW (ds := m186.arr) (ev' (.pointer (some ⟨b199, 0, none⟩)) rfl rfl) (ev' (.agg m186.arr) rfl rfl) hB201 (Msg.size_arr _) sz30 (Msg.size_arr _) (Msg.oneCellA _) rfl) ?_
      rintro w214 ⟨c215, hB216⟩
      have R217 := R210.stN c215 l207
      have R218 := R211.stN c215 l208
      have R219 := R212.stN c215 l209
      refine W.nil ?_
      refine then_n ?_
      refine W.fresh ?_
      intro r221 er222
      have s223 : r221 1 = .int .i64 id := (congrFun er222 1).trans s178
      have s224 : r221 4 = v168 := (congrFun er222 4).trans s179
      have s225 : r221 5 = .map (some r17) := (congrFun er222 5).trans s180
      have s226 : r221 9 = .pointer (some ⟨b199, 0, none⟩) := (congrFun er222 9).trans rfl
      have s227 : r221 23 = T.p.val := (congrFun er222 23).trans s181
      have s228 : r221 24 = .int .i64 (T.p.n : Int) := (congrFun er222 24).trans s182
      have s229 : r221 25 = .int .i64 ((i156 : Nat) : Int) := (congrFun er222 25).trans s183
      clear er222
      refine W.seq ?_
      refine W.reg ?_
      refine W.val rfl rfl (X.fieldAddr (ev' (.pointer (some ⟨b199, 0, none⟩)) rfl s226) fo30_1 (b := ⟨b199, 1, none⟩) (Addr.add_lit _ _ _)) ?_
      refine W.val rfl rfl (X.load (ev' (.pointer (some ⟨b199, 1, none⟩)) rfl rfl) pt3 (Blk.lc hB216 (Msg.arr1 _))) ?_
      refine W.val rfl rfl (X.move (ev' (.int .i64 id) rfl s223)) ?_
      refine W.val rfl rfl (X.eql (ev' (.int .i64 m186.frm) rfl rfl) (ev' (.int .i64 id) rfl rfl)) ?_
      refine W.val rfl rfl (X.move (ev' (.bool ((m186.frm : Int) == (id : Int))) rfl rfl)) ?_
      refine W.gq rfl rfl rfl rfl rfl (fun _ => (X.move (ev' (.map (some r17)) rfl s225))) ?_
      refine W.gq rfl rfl rfl rfl rfl (fun _ => (X.fieldAddr (ev' (.pointer (some ⟨b199, 0, none⟩)) rfl s226) fo30_3 (b := ⟨b199, 3, none⟩) (Addr.add_lit _ _ _))) ?_
      refine W.gq rfl rfl rfl rfl rfl (fun hc => (X.load (ev' (.pointer (some ⟨b199, 3, none⟩)) rfl (gvt hc rfl)) pt3 (Blk.lc hB216 (Msg.arr3 _)))) ?_
      have h230 := h205.gr g200
      have h231 := h230.st c215 ne206
      refine W.gq rfl rfl rfl rfl rfl (fun hc => (X.lookupB findsI Try.underlying84 (ev' (.map (some r17)) rfl (gvt hc rfl)) (ev' (.int .i64 m186.no) rfl (gvt hc rfl)) h231)) ?_
      refine W.gq rfl rfl rfl rfl rfl (fun hc => (X.not (ev' (.bool (isIn m186.no (nosOf (t.done.take i50)))) rfl (gvt hc rfl)))) ?_
      refine W.valN rfl rfl (X.and (ev' (.bool ((m186.frm : Int) == (id : Int))) rfl rfl) (ev' (gv (((m186.frm : Int) == (id : Int)) == true) (.bool (!(isIn m186.no (nosOf (t.done.take i50)))))) rfl rfl)) ?_
      intro q232 eq232
      refine W.nil ?_
      refine then_n ?_
      refine W.fresh ?_
      intro r233 er234
      have s235 : r233 1 = .int .i64 id := (congrFun er234 1).trans s223
      have s236 : r233 4 = v168 := (congrFun er234 4).trans s224
      have s237 : r233 5 = .map (some r17) := (congrFun er234 5).trans s225
      have s238 : r233 9 = .pointer (some ⟨b199, 0, none⟩) := (congrFun er234 9).trans s226
      have s239 : r233 23 = T.p.val := (congrFun er234 23).trans s227
      have s240 : r233 24 = .int .i64 (T.p.n : Int) := (congrFun er234 24).trans s228
      have s241 : r233 25 = .int .i64 ((i156 : Nat) : Int) := (congrFun er234 25).trans s229
      have s242 : r233 39 = .bool q232 := (congrFun er234 39).trans rfl
      clear er234
      refine W.cond rfl s242 (fun k243 => ?_) (fun k243 => ?_)
      · skip
        refine W.reg ?_
        refine W.val rfl rfl (X.move (ev' (v168) rfl s236)) ?_
        refine W.val rfl rfl (X.loadR (ev' (.pointer (some ⟨b199, 0, none⟩)) rfl s238) rt30 (row_blk_msg hB216) rfl) ?_
        have h244 := hl.new g5 hB6.lt
        have h245 := h244.new g18 hm19.lt
        have h246 := h245.gr R55
        have h247 := h246.gr R163
        have h248 := h247.new g200 hB201.lt
        have h249 := h248.gr c215
        refine W.eff rfl rfl (Y.slice1 (bs := (b199 :: r17 :: b4 :: bs)) (ev' (.agg m186.arr) rfl rfl) h249) ?_
        rintro _ w250 ⟨s251, rfl, g252, hs253⟩
        have R254 := R217.gr g252
        have R255 := R218.gr g252
        have R256 := R219.gr g252
        have h258 := (ho171.ext lt202).gr g200
        have h259 := h258.st c215 (.head _)
        have h260 := h259.gr g252
        refine W.eff rfl rfl (Y.appendOwn (ev' (v168) rfl rfl) (ev' (s251.val) rfl rfl) h260 hs253 (by simp) (filt_len hlen) R256 h246) ?_
        rintro v262 w261 ⟨_, n263, rfl, g264, ho265⟩
        have R266 := R68.gr g264
        have R267 := R55.gr g264
        refine W.val rfl rfl (X.assign (ev' (v262) rfl rfl)) ?_
        refine W.nil ?_
        refine inb_n ?_
        refine then_n ?_
        refine W.fresh ?_
        intro r269 er270
        have s271 : r269 1 = .int .i64 id := (congrFun er270 1).trans s235
        have s272 : r269 4 = v262 := (congrFun er270 4).trans rfl
        have s273 : r269 5 = .map (some r17) := (congrFun er270 5).trans s237
        have s274 : r269 23 = T.p.val := (congrFun er270 23).trans s239
        have s275 : r269 24 = .int .i64 (T.p.n : Int) := (congrFun er270 24).trans s240
        have s276 : r269 25 = .int .i64 ((i156 : Nat) : Int) := (congrFun er270 25).trans s241
        clear er270
        refine W.reg ?_
        refine W.val rfl rfl (X.inc (ev' (.int .i64 ((i156 : Nat) : Int)) rfl s276) (evc' (.int .i64 1)) lt172 ht.p.bnd) ?_
        refine W.val rfl rfl (X.move (ev' (.int .i64 ((i156 + 1 : Nat) : Int)) rfl rfl)) ?_
        refine W.nil ?_
        refine then_n ?_
        exact ⟨_, rfl, lt172, rfl, g264, s271, s273, s274, s275, ⟨_, _, s272, (filt_yes hm187 (by subst eq232; exact (waits_map (take_full ht.d.len ei138)).symm.trans k243) ▸ ho265)⟩⟩
      · skip
        refine W.skip ?_
        refine inb_n ?_
        refine then_n ?_
        refine W.reg ?_
        refine W.val rfl rfl (X.inc (ev' (.int .i64 ((i156 : Nat) : Int)) rfl s241) (evc' (.int .i64 1)) lt172 ht.p.bnd) ?_
        refine W.val rfl rfl (X.move (ev' (.int .i64 ((i156 + 1 : Nat) : Int)) rfl rfl)) ?_
        refine W.nil ?_
        refine then_n ?_
        have h277 := (ho171.ext lt202).gr g200
        have h278 := h277.st c215 (.head _)
        exact ⟨_, rfl, lt172, rfl, R219, s235, s237, s239, s240, ⟨_, _, s236, (filt_no hm187 (by subst eq232; exact (waits_map (take_full ht.d.len ei138)).symm.trans k243) ▸ h278.tl)⟩⟩
    · skip
      have ei279 : i156 = T.p.n := Nat.le_antisymm le161 (Nat.le_of_not_lt fun h => of_decide_eq_false k185 (Int.ofNat_lt.2 h))
      refine W.exit (then_x (then_x (inb_x ?_)))
      refine then_n ?_
      refine W.seq ?_
      refine W.reg ?_
      refine W.val rfl rfl (X.move (ev' (v168) rfl s179)) ?_
      refine W.val rfl rfl (X.assign (ev' (v168) rfl rfl)) ?_
      refine W.nil ?_
      refine then_n ?_
      refine W.fresh ?_
      intro r280 er281
      have s282 : r280 4 = v168 := (congrFun er281 4).trans rfl
      clear er281
      have h283 := hl.new g5 hB6.lt
      have h284 := h283.new g18 hm19.lt
      have h285 := h284.gr R55
      obtain ⟨sv, hv, hsl⟩ := Own.sl ho171 h285
      refine W.ret (retT rfl rfl (show _ = (v168 : Value) from s282) ⟨sv, hv, waitL_of ht.p.len ei279 ▸ hsl.tl.tl, R173⟩)

theorem rwaiting_c {bs : List Nat} {T : TV} {t : Trade} (id : Int) (w : World) (ht : Tr bs w T t) (hl : LtAll bs w) (hlen : t.placed.length ≤ 5000) : Calls Try.prog 20 #[T.val, .int .i64 id] w (Ret fun v w' => ∃ s : SV, v = s.val ∧ Sl bs w' s (waitL t id) ∧ Grow w w') := by
  refine enter (N := 44) Try.func20 rfl Try.ntmps20 rfl ?_
  intro ρ hρ
  have a0 : ρ 0 = T.val := hρ 0 _ rfl
  have a1 : ρ 1 = .int .i64 id := hρ 1 _ rfl
  clear hρ
  have R0 : Grow w w := Chg.refl w
  refine W.seq ?_
  refine W.reg ?_
  refine W.eff rfl rfl (Y.box (cs := T.arr) (ev' (T.val) rfl a0) rfl) ?_
  rintro _ w3 ⟨b4, rfl, g5, hB6, lt7⟩
  have l8 := Nat.le_trans R0.size lt7
  have R9 := R0.gr g5
  refine W.val rfl rfl (X.assign (evc' (SV.nil.val))) ?_
  refine W.nil ?_
  refine then_n ?_
  refine W.fresh ?_
  intro r11 er12
  have s13 : r11 1 = .int .i64 id := (congrFun er12 1).trans a1
  have s14 : r11 2 = .pointer (some ⟨b4, 0, none⟩) := (congrFun er12 2).trans rfl
  clear er12
  refine W.seq ?_
  refine W.reg ?_
  have R15 : Grow w3 w3 := Chg.refl _
  have h16 := hl.new g5 hB6.lt
  refine W.eff rfl rfl (Y.own0 h16) ?_
  rintro v18 w17 ⟨_, rfl, g19, ho20⟩
  have R21 := R9.gr g19
  have R22 := R15.gr g19
  refine W.val rfl rfl (X.assign (ev' (v18) rfl rfl)) ?_
  refine W.nil ?_
  refine then_n ?_
  refine W.fresh ?_
  intro r24 er25
  have s26 : r24 1 = .int .i64 id := (congrFun er25 1).trans s13
  have s27 : r24 2 = .pointer (some ⟨b4, 0, none⟩) := (congrFun er25 2).trans s14
  have s28 : r24 5 = v18 := (congrFun er25 5).trans rfl
  clear er25
  refine W.seq ?_
  refine W.seq ?_
  refine W.reg ?_
  refine W.val rfl rfl (X.assign (evc' (.int .i64 0))) ?_
  refine W.nil ?_
  refine then_n ?_
  refine W.fresh ?_
  intro r29 er30
  have s31 : r29 1 = .int .i64 id := (congrFun er30 1).trans s26
  have s32 : r29 2 = .pointer (some ⟨b4, 0, none⟩) := (congrFun er30 2).trans s27
  have s33 : r29 5 = v18 := (congrFun er30 5).trans s28
  have s34 : r29 6 = .int .i64 0 := (congrFun er30 6).trans rfl
  clear er30
  refine W.block ?_
  refine W.fresh ?_
  intro r35 er36
  have s37 : r35 1 = .int .i64 id := (congrFun er36 1).trans s31
  have s38 : r35 2 = .pointer (some ⟨b4, 0, none⟩) := (congrFun er36 2).trans s32
  have s39 : r35 5 = v18 := (congrFun er36 5).trans s33
  have s40 : r35 6 = .int .i64 0 := (congrFun er36 6).trans s34
  clear er36
  refine W.count 6 T.p.n (fun I ρ W => I ≤ T.p.n ∧ ρ 6 = .int .i64 ((I : Nat) : Int) ∧ Chg [] w3 W ∧ ρ 1 = .int .i64 id ∧ ρ 2 = .pointer (some ⟨b4, 0, none⟩) ∧ (∃ v n, ρ 5 = v ∧ Own (b4 :: bs) w3 W v n ((t.placed.take I).filter (waits t id)))) 0 rfl
    ⟨Nat.zero_le _, s40, R22, s37, s38, ⟨_, _, s39, (filt0 t.placed (waits t id) ▸ ho20)⟩⟩ (fun I ρ W hJ => ⟨hJ.2.1, hJ.1⟩) ?_
  rintro i41 r42 w43 ⟨le44, s45, R46, s47, s48, ⟨v49, n50, s51, ho52⟩⟩
  have R54 := R9.gr R46
  refine W.seq ?_
  refine W.seq ?_
  refine W.reg ?_
  refine W.val rfl rfl (X.move (ev' (.int .i64 ((i41 : Nat) : Int)) rfl s45)) ?_
  refine W.val rfl rfl (X.fieldAddr (ev' (.pointer (some ⟨b4, 0, none⟩)) rfl s48) fo24_1 (b := ⟨b4, 1, none⟩) (Addr.add_lit _ _ _)) ?_
  have h56 := hB6.gr R46
  refine W.val rfl rfl (X.load (ev' (.pointer (some ⟨b4, 1, none⟩)) rfl rfl) pt22 (Blk.lc h56 rfl)) ?_
  refine W.val rfl rfl (X.len (ev' (T.p.val) rfl rfl) st22) ?_
  refine W.val rfl rfl (X.lss (ev' (.int .i64 ((i41 : Nat) : Int)) rfl rfl) (ev' (.int .i64 (T.p.n : Int)) rfl rfl)) ?_
  refine W.nil ?_
  refine then_n ?_
  refine W.fresh ?_
  intro r57 er58
  have s59 : r57 1 = .int .i64 id := (congrFun er58 1).trans s47
  have s60 : r57 2 = .pointer (some ⟨b4, 0, none⟩) := (congrFun er58 2).trans s48
  have s61 : r57 5 = v49 := (congrFun er58 5).trans s51
  have s62 : r57 6 = .int .i64 ((i41 : Nat) : Int) := (congrFun er58 6).trans s45
  have s63 : r57 12 = .bool (decide ((((i41 : Nat) : Int) : Int) < ((T.p.n : Int) : Int))) := (congrFun er58 12).trans rfl
  clear er58
  refine W.cond rfl s63 (fun k64 => ?_) (fun k64 => ?_)
  · skip
    have lt53 : i41 < T.p.n := Int.ofNat_lt.1 (of_decide_eq_true k64)
    refine W.skip ?_
    refine then_n ?_
    refine W.seq ?_
    refine W.block ?_
    refine W.seq ?_
    refine A.begin' (cs := []) rfl ?_
    intro w65 g66
    have R67 := R54.gr g66
    have R68 := R46.gr g66
    have R69 : Chg [] w65 w65 := Chg.of_refl _ _
    refine A.take (i := 0) rfl (by kernel_rfl) (by kernel_rfl) (by kernel_rfl) (fun _ _ _ h => h) R69 rfl rfl (fun _ _ => (X.fieldAddr (ev' (.pointer (some ⟨b4, 0, none⟩)) rfl s60) fo24_1 (b := ⟨b4, 1, none⟩) (Addr.add_lit _ _ _))) ?_
    have h70 := h56.gr g66
    refine A.take (i := 1) rfl (by kernel_rfl) (by kernel_rfl) (by kernel_rfl) (fun _ _ _ h => h) R69 rfl rfl (fun _ hw => (X.load (ev' (.pointer (some ⟨b4, 1, none⟩)) rfl rfl) pt22 (Blk.lc (h70.gr hw) rfl))) ?_
    refine A.take (i := 2) rfl (by kernel_rfl) (by kernel_rfl) (by kernel_rfl) (fun _ _ _ h => h) R69 rfl rfl (fun _ _ => (X.move (ev' (.int .i64 ((i41 : Nat) : Int)) rfl s62))) ?_
    have h73 := (ht.ext lt7).gr g5
    have h74 := h73.gr R46
    have h75 := h74.gr g66
    obtain ⟨m71, hm72⟩ := some_of_lt (h75.p.len ▸ lt53)
    obtain ⟨eb76, eo77, ha78, lt79, hr80⟩ := Sl.rowAt h75.p hm72
    refine A.take (i := 3) rfl (by kernel_rfl) (by kernel_rfl) (by kernel_rfl) (fun _ _ _ h => h) R69 rfl rfl (fun _ _ => (X.idx (b := ⟨eb76, eo77 + i41 * 43, none⟩) (evs ha78 (ev' (T.p.val) rfl rfl)) (ev' (.int .i64 ((i41 : Nat) : Int)) rfl rfl) (Int.natCast_nonneg _) (Int.ofNat_lt.2 lt79) st22 sz30 (Addr.add_lit _ _ _))) ?_
    refine A.take (i := 4) rfl (by kernel_rfl) (by kernel_rfl) (by kernel_rfl) (fun _ _ _ h => h) R69 rfl rfl (fun _ _ => (X.fieldAddr (ev' (.pointer (some ⟨eb76, eo77 + i41 * 43, none⟩)) rfl rfl) fo30_1 (b := ⟨eb76, eo77 + i41 * 43 + 1, none⟩) (Addr.add_lit _ _ _))) ?_
    refine A.take (i := 5) rfl (by kernel_rfl) (by kernel_rfl) (by kernel_rfl) (fun _ _ _ h => h) R69 rfl rfl (fun _ hw => (X.load (ev' (.pointer (some ⟨eb76, eo77 + i41 * 43 + 1, none⟩)) rfl rfl) pt3 (cell_of_rowM (k := 1) (hr80.gr hw).r (Msg.arr1 _)))) ?_
    refine A.take (i := 6) rfl (by kernel_rfl) (by kernel_rfl) (by kernel_rfl) (fun _ _ _ h => h) R69 rfl rfl (fun _ _ => (X.move (ev' (.int .i64 id) rfl s59))) ?_
    refine A.take (i := 7) rfl (by kernel_rfl) (by kernel_rfl) (by kernel_rfl) (fun _ _ _ h => h) R69 rfl rfl (fun _ _ => (X.eql (ev' (.int .i64 m71.frm) rfl rfl) (ev' (.int .i64 id) rfl rfl))) ?_
    refine A.take (i := 8) rfl (by kernel_rfl) (by kernel_rfl) (by kernel_rfl) (fun _ _ _ h => h) R69 rfl rfl (fun _ _ => (X.move (ev' (.bool ((m71.frm : Int) == (id : Int))) rfl rfl))) ?_
    refine A.takeG (i := 9) rfl (by kernel_rfl) (by kernel_rfl) (by kernel_rfl) (fun _ _ _ _ h => h) R69 rfl rfl rfl rfl rfl (fun _ _ _ => (X.fieldAddr (ev' (.pointer (some ⟨b4, 0, none⟩)) rfl s60) fo24_3 (b := ⟨b4, 3, none⟩) (Addr.add_lit _ _ _))) ?_
    refine A.takeG (i := 10) rfl (by kernel_rfl) (by kernel_rfl) (by kernel_rfl) (fun _ _ _ _ h => h) R69 rfl rfl rfl rfl rfl (fun hc _ hw => (X.load (ev' (.pointer (some ⟨b4, 3, none⟩)) rfl (gvt hc rfl)) pt22 (Blk.lc (h70.gr hw) rfl))) ?_
    refine A.takeG (i := 11) rfl (by kernel_rfl) (by kernel_rfl) (by kernel_rfl) (fun _ _ _ _ h => h) R69 rfl rfl rfl rfl rfl (fun _ _ _ => (X.fieldAddr (ev' (.pointer (some ⟨b4, 0, none⟩)) rfl s60) fo24_1 (b := ⟨b4, 1, none⟩) (Addr.add_lit _ _ _))) ?_
    refine A.takeG (i := 12) rfl (by kernel_rfl) (by kernel_rfl) (by kernel_rfl) (fun _ _ _ _ h => h) R69 rfl rfl rfl rfl rfl (fun hc _ hw => (X.load (ev' (.pointer (some ⟨b4, 1, none⟩)) rfl (gvt hc rfl)) pt22 (Blk.lc (h70.gr hw) rfl))) ?_
    refine A.takeG (i := 13) rfl (by kernel_rfl) (by kernel_rfl) (by kernel_rfl) (fun _ _ _ _ h => h) R69 rfl rfl rfl rfl rfl (fun _ _ _ => (X.move (ev' (.int .i64 ((i41 : Nat) : Int)) rfl s62))) ?_
    obtain ⟨eb82, eo83, ha84, lt85, hr86⟩ := Sl.rowAt h75.p hm72
    refine A.takeG (i := 14) rfl (by kernel_rfl) (by kernel_rfl) (by kernel_rfl) (fun _ _ _ _ h => h) R69 rfl rfl rfl rfl rfl (fun hc _ _ => (X.idx (b := ⟨eb82, eo83 + i41 * 43, none⟩) (evs ha84 (ev' (T.p.val) rfl (gvt hc rfl))) (ev' (.int .i64 ((i41 : Nat) : Int)) rfl (gvt hc rfl)) (Int.natCast_nonneg _) (Int.ofNat_lt.2 lt85) st22 sz30 (Addr.add_lit _ _ _))) ?_
    refine A.takeG (i := 15) rfl (by kernel_rfl) (by kernel_rfl) (by kernel_rfl) (fun _ _ _ _ h => h) R69 rfl rfl rfl rfl rfl (fun hc _ _ => (X.fieldAddr (ev' (.pointer (some ⟨eb82, eo83 + i41 * 43, none⟩)) rfl (gvt hc rfl)) fo30_3 (b := ⟨eb82, eo83 + i41 * 43 + 3, none⟩) (Addr.add_lit _ _ _))) ?_
    refine A.takeG (i := 16) rfl (by kernel_rfl) (by kernel_rfl) (by kernel_rfl) (fun _ _ _ _ h => h) R69 rfl rfl rfl rfl rfl (fun hc _ hw => (X.load (ev' (.pointer (some ⟨eb82, eo83 + i41 * 43 + 3, none⟩)) rfl (gvt hc rfl)) pt3 (cell_of_rowM (k := 3) (hr86.gr hw).r (Msg.arr3 _)))) ?_
    refine A.one (i := 17) (by kernel_rfl) ?_
    refine E.gcallS (i := 17) rfl rfl rfl rfl rfl rfl (fun hc => X.callF go47 (args2 (ev' (T.d.val) rfl (gvt hc rfl)) (ev' (.int .i64 m71.no) rfl (gvt hc rfl)))) (fun _ => (hasNo_c m71.no _ h75.d)) ?_
    intro w88 g89
    have R90 := R67.gr g89
    have R91 := R68.gr g89
    have R92 := R69.gr g89
    refine ⟨R92, ?_⟩
    refine A.takeG (i := 18) rfl (by kernel_rfl) (by kernel_rfl) (by kernel_rfl) (fun _ _ _ _ h => h) R92 rfl rfl rfl rfl rfl (fun hc _ _ => (X.not (ev' (.bool (hasNo m71.no t.done)) rfl (gvt hc rfl)))) ?_
    refine A.take (i := 19) rfl (by kernel_rfl) (by kernel_rfl) (by kernel_rfl) (fun _ _ _ h => h) R92 rfl rfl (fun _ _ => (X.and (ev' (.bool ((m71.frm : Int) == (id : Int))) rfl rfl) (ev' (gv (((m71.frm : Int) == (id : Int)) == true) (.bool (!(hasNo m71.no t.done)))) rfl rfl))) ?_
    refine A.done (by kernel_rfl) ?_
    refine then_n ?_
    refine W.fresh ?_
    intro r93 er94
    have s95 : r93 1 = .int .i64 id := (congrFun er94 1).trans s59
    have s96 : r93 2 = .pointer (some ⟨b4, 0, none⟩) := (congrFun er94 2).trans s60
    have s97 : r93 5 = v49 := (congrFun er94 5).trans s61
    have s98 : r93 6 = .int .i64 ((i41 : Nat) : Int) := (congrFun er94 6).trans s62
    have s99 : r93 34 = .bool (((m71.frm : Int) == (id : Int)) && (!(hasNo m71.no t.done))) := (congrFun er94 34).trans rfl
    clear er94
    refine W.cond rfl s99 (fun k100 => ?_) (fun k100 => ?_)
    · skip
      refine W.reg ?_
      refine W.val rfl rfl (X.move (ev' (v49) rfl s97)) ?_
      refine W.val rfl rfl (X.fieldAddr (ev' (.pointer (some ⟨b4, 0, none⟩)) rfl s96) fo24_1 (b := ⟨b4, 1, none⟩) (Addr.add_lit _ _ _)) ?_
      have h101 := h70.gr g89
      refine W.val rfl rfl (X.load (ev' (.pointer (some ⟨b4, 1, none⟩)) rfl rfl) pt22 (Blk.lc h101 rfl)) ?_
      refine W.val rfl rfl (X.move (ev' (.int .i64 ((i41 : Nat) : Int)) rfl s98)) ?_
      have h102 := h75.gr g89
      obtain ⟨eb103, eo104, ha105, lt106, hr107⟩ := Sl.rowAt h102.p hm72
      refine W.val rfl rfl (X.idx (b := ⟨eb103, eo104 + i41 * 43, none⟩) (evs ha105 (ev' (T.p.val) rfl rfl)) (ev' (.int .i64 ((i41 : Nat) : Int)) rfl rfl) (Int.natCast_nonneg _) (Int.ofNat_lt.2 lt106) st22 sz30 (Addr.add_lit _ _ _)) ?_
      refine W.val rfl rfl (X.loadR (ev' (.pointer (some ⟨eb103, eo104 + i41 * 43, none⟩)) rfl rfl) rt30 hr107.r rfl) ?_
      have h109 := h16.gr R46
      have h110 := h109.gr g66
      have h111 := h110.gr g89
      refine W.eff rfl rfl (Y.slice1 (bs := (b4 :: bs)) (ev' (.agg m71.arr) rfl rfl) h111) ?_
      rintro _ w112 ⟨s113, rfl, g114, hs115⟩
      have R116 := R90.gr g114
      have R117 := R91.gr g114
      have h119 := ho52.gr g66
      have h120 := h119.gr g89
      have h121 := h120.gr g114
      refine W.eff rfl rfl (Y.appendOwn (ev' (v49) rfl rfl) (ev' (s113.val) rfl rfl) h121 hs115 (by simp) (filt_len hlen) R117 h16) ?_
      rintro v123 w122 ⟨_, n124, rfl, g125, ho126⟩
      have R127 := R9.gr g125
      refine W.val rfl rfl (X.assign (ev' (v123) rfl rfl)) ?_
      refine W.nil ?_
      refine inb_n ?_
      refine then_n ?_
      refine W.fresh ?_
      intro r129 er130
      have s131 : r129 1 = .int .i64 id := (congrFun er130 1).trans s95
      have s132 : r129 2 = .pointer (some ⟨b4, 0, none⟩) := (congrFun er130 2).trans s96
      have s133 : r129 5 = v123 := (congrFun er130 5).trans rfl
      have s134 : r129 6 = .int .i64 ((i41 : Nat) : Int) := (congrFun er130 6).trans s98
      clear er130
      refine W.reg ?_
      refine W.val rfl rfl (X.move (ev' (.int .i64 ((i41 : Nat) : Int)) rfl s134)) ?_
      refine W.val rfl rfl (X.inc (ev' (.int .i64 ((i41 : Nat) : Int)) rfl rfl) (evc' (.int .i64 1)) lt53 ht.p.bnd) ?_
      refine W.val rfl rfl (X.assign (ev' (.int .i64 ((i41 + 1 : Nat) : Int)) rfl rfl)) ?_
      refine W.nil ?_
      refine then_n ?_
      exact ⟨_, rfl, lt53, rfl, g125, s131, s132, ⟨_, _, s133, (filt_yes hm72 (by exact (show waits t id m71 = true from k100)) ▸ ho126)⟩⟩
    · skip
      refine W.skip ?_
      refine inb_n ?_
      refine then_n ?_
      refine W.reg ?_
      refine W.val rfl rfl (X.move (ev' (.int .i64 ((i41 : Nat) : Int)) rfl s98)) ?_
      refine W.val rfl rfl (X.inc (ev' (.int .i64 ((i41 : Nat) : Int)) rfl rfl) (evc' (.int .i64 1)) lt53 ht.p.bnd) ?_
      refine W.val rfl rfl (X.assign (ev' (.int .i64 ((i41 + 1 : Nat) : Int)) rfl rfl)) ?_
      refine W.nil ?_
      refine then_n ?_
      have h135 := ho52.gr g66
      have h136 := h135.gr g89
      exact ⟨_, rfl, lt53, rfl, R91, s95, s96, ⟨_, _, s97, (filt_no hm72 (by exact (show waits t id m71 = false from k100)) ▸ h136)⟩⟩
  · skip
    have ei137 : i41 = T.p.n := Nat.le_antisymm le44 (Nat.le_of_not_lt fun h => of_decide_eq_false k64 (Int.ofNat_lt.2 h))
    refine W.exit (then_x (then_x (inb_x ?_)))
    refine then_n ?_
    refine W.seq ?_
    refine W.reg ?_
    refine W.val rfl rfl (X.move (ev' (v49) rfl s61)) ?_
    refine W.val rfl rfl (X.assign (ev' (v49) rfl rfl)) ?_
    refine W.nil ?_
    refine then_n ?_
    refine W.fresh ?_
    intro r138 er139
    have s140 : r138 4 = v49 := (congrFun er139 4).trans rfl
    clear er139
    obtain ⟨sv, hv, hsl⟩ := Own.sl ho52 h16
    refine W.ret (retT rfl rfl (show _ = (v49 : Value) from s140) ⟨sv, hv, waitL_of ht.p.len ei137 ▸ hsl.tl, R54⟩)

end Go.Proofs.Ytigimkmkbdnlpaa
