/- trade.Check and its reference. Printed by gen.py. -/
import Derived.Test.YtigimkmkbdnlpaaFa
import Derived.Test.YtigimkmkbdnlpaaChk
namespace Go.Proofs.Ytigimkmkbdnlpaa
open Go.RowKit

theorem tcheck_c {bs : List Nat} {T : TV} {t : Trade} (id : Int) (w : World) (ht : Tr bs w T t) : Calls Try.prog 16 #[T.val, .int .i64 id] w (Ret fun v w' => v = .int .i64 (chk t id) ∧ Grow w w') := by
  refine enter (N := 129) Try.func16 rfl Try.ntmps16 rfl ?_
  intro ρ hρ
  have a0 : ρ 0 = T.val := hρ 0 _ rfl
  have a1 : ρ 1 = .int .i64 id := hρ 1 _ rfl
  clear hρ
  have R0 : Grow w w := Chg.refl w
  refine W.seq ?_
  refine W.reg ?_
  refine W.eff rfl rfl (Y.box (cs := T.arr) (ev' (T.val) rfl a0) rfl) ?_
  rintro _ w2 ⟨b3, rfl, g4, hB5, lt6⟩
  have l7 := Nat.le_trans R0.size lt6
  have R8 := R0.gr g4
  refine W.val rfl rfl (X.assign (evc' (.int .i64 0))) ?_
  refine W.nil ?_
  refine then_n ?_
  refine W.fresh ?_
  intro r10 er11
  have s12 : r10 1 = .int .i64 id := (congrFun er11 1).trans a1
  have s13 : r10 2 = .pointer (some ⟨b3, 0, none⟩) := (congrFun er11 2).trans rfl
  clear er11
  refine W.seq ?_
  refine W.seq ?_
  refine W.reg ?_
  refine W.val rfl rfl (X.move (ev' (.int .i64 id) rfl s12)) ?_
  refine W.call rfl rfl (X.callF go41 (args3 (ev' (.int .i64 id) rfl rfl) (evc' (.int .i64 0)) (evc' (.int .i64 11)))) (between_c id 0 11 _) ?_
  rintro _ w14 ⟨rfl, g15⟩
  have R16 := R8.gr g15
  refine W.val rfl rfl (X.not (ev' (.bool (decide (0 ≤ id ∧ id ≤ 11))) rfl rfl)) ?_
  refine W.val rfl rfl (X.move (ev' (.bool (!(decide (0 ≤ id ∧ id ≤ 11)))) rfl rfl)) ?_
  refine W.gq rfl rfl rfl rfl rfl (fun _ => (X.fieldAddr (ev' (.pointer (some ⟨b3, 0, none⟩)) rfl s13) fo24_0 (b := ⟨b3, 0, none⟩) (Addr.add_lit _ _ _))) ?_
  have h17 := hB5.gr g15
  refine W.gq rfl rfl rfl rfl rfl (fun hc => (X.load (ev' (.pointer (some ⟨b3, 0, none⟩)) rfl (gvt hc rfl)) pt3 (Blk.lc h17 rfl))) ?_
  refine W.gq rfl rfl rfl rfl rfl (fun _ => (X.fieldAddr (ev' (.pointer (some ⟨b3, 0, none⟩)) rfl s13) fo24_1 (b := ⟨b3, 1, none⟩) (Addr.add_lit _ _ _))) ?_
  refine W.gq rfl rfl rfl rfl rfl (fun hc => (X.load (ev' (.pointer (some ⟨b3, 1, none⟩)) rfl (gvt hc rfl)) pt22 (Blk.lc h17 rfl))) ?_
  refine W.gq rfl rfl rfl rfl rfl (fun hc => (X.len (ev' (T.p.val) rfl (gvt hc rfl)) st22)) ?_
  refine W.gq rfl rfl rfl rfl rfl (fun hc => (X.neq (ev' (.int .i64 T.next) rfl (gvt hc rfl)) (ev' (.int .i64 (T.p.n : Int)) rfl (gvt hc rfl)))) ?_
  refine W.valN rfl rfl (X.or (ev' (.bool (!(decide (0 ≤ id ∧ id ≤ 11)))) rfl rfl) (ev' (gv ((!(decide (0 ≤ id ∧ id ≤ 11))) == false) (.bool ((T.next : Int) != ((T.p.n : Int) : Int)))) rfl rfl)) ?_
  intro q18 eq18
  refine W.nil ?_
  refine then_n ?_
  refine W.fresh ?_
  intro r19 er20
  have s21 : r19 1 = .int .i64 id := (congrFun er20 1).trans s12
  have s22 : r19 2 = .pointer (some ⟨b3, 0, none⟩) := (congrFun er20 2).trans s13
  have s23 : r19 25 = .bool q18 := (congrFun er20 25).trans rfl
  clear er20
  refine W.cond rfl s23 (fun k24 => ?_) (fun k24 => ?_)
  · skip
    refine W.seq ?_
    refine W.reg ?_
    refine W.val rfl rfl (X.assign (evc' (.int .i64 480))) ?_
    refine W.nil ?_
    refine then_n ?_
    refine W.fresh ?_
    intro r25 er26
    have s27 : r25 4 = .int .i64 480 := (congrFun er26 4).trans rfl
    clear er26
    refine W.ret (then_r (retT rfl rfl (show _ = (.int .i64 480 : Value) from s27) ⟨?_, R16⟩))
    subst eq18
    exact congrArg (Value.int .i64) (chk_no fun h => ff (first_no h ht.next ht.p.len) k24)
  · skip
    refine W.skip ?_
    refine then_n ?_
    refine W.seq ?_
    refine W.seq ?_
    refine W.reg ?_
    refine W.val rfl rfl (X.fieldAddr (ev' (.pointer (some ⟨b3, 0, none⟩)) rfl s22) fo24_1 (b := ⟨b3, 1, none⟩) (Addr.add_lit _ _ _)) ?_
    refine W.val rfl rfl (X.load (ev' (.pointer (some ⟨b3, 1, none⟩)) rfl rfl) pt22 (Blk.lc h17 rfl)) ?_
    refine W.val rfl rfl (X.fieldAddr (ev' (.pointer (some ⟨b3, 0, none⟩)) rfl s22) fo24_2 (b := ⟨b3, 2, none⟩) (Addr.add_lit _ _ _)) ?_
    refine W.val rfl rfl (X.load (ev' (.pointer (some ⟨b3, 2, none⟩)) rfl rfl) pt22 (Blk.lc h17 rfl)) ?_
    refine W.val rfl rfl (X.fieldAddr (ev' (.pointer (some ⟨b3, 0, none⟩)) rfl s22) fo24_3 (b := ⟨b3, 3, none⟩) (Addr.add_lit _ _ _)) ?_
    refine W.val rfl rfl (X.load (ev' (.pointer (some ⟨b3, 3, none⟩)) rfl rfl) pt22 (Blk.lc h17 rfl)) ?_
    refine W.eff rfl rfl (Y.slice3 (ev' (T.p.val) rfl rfl) (ev' (T.r.val) rfl rfl) (ev' (T.d.val) rfl rfl)) ?_
    rintro _ w28 ⟨b29, rfl, g30, hB31, lt32⟩
    have ne33 := h17.ne lt32
    have l34 := Nat.le_trans R16.size lt32
    have R35 := R16.gr g30
    refine W.val rfl rfl (X.len (ev' (.slice (some ⟨b29, 0, none⟩) 3 3) rfl rfl) st80) ?_
    refine W.val rfl rfl (X.move (evc' (.int .i64 0))) ?_
    refine W.nil ?_
    refine then_n ?_
    refine W.fresh ?_
    intro r37 er38
    have s39 : r37 1 = .int .i64 id := (congrFun er38 1).trans s21
    have s40 : r37 2 = .pointer (some ⟨b3, 0, none⟩) := (congrFun er38 2).trans s22
    have s41 : r37 32 = .slice (some ⟨b29, 0, none⟩) 3 3 := (congrFun er38 32).trans rfl
    have s42 : r37 33 = .int .i64 ((3 : Nat) : Int) := (congrFun er38 33).trans rfl
    have s43 : r37 34 = .int .i64 0 := (congrFun er38 34).trans rfl
    clear er38
    refine W.block ?_
    refine W.fresh ?_
    intro r44 er45
    have s46 : r44 1 = .int .i64 id := (congrFun er45 1).trans s39
    have s47 : r44 2 = .pointer (some ⟨b3, 0, none⟩) := (congrFun er45 2).trans s40
    have s48 : r44 32 = .slice (some ⟨b29, 0, none⟩) 3 3 := (congrFun er45 32).trans s41
    have s49 : r44 33 = .int .i64 ((3 : Nat) : Int) := (congrFun er45 33).trans s42
    have s50 : r44 34 = .int .i64 0 := (congrFun er45 34).trans s43
    clear er45
    refine W.count 34 3 (fun I ρ W => I ≤ 3 ∧ ρ 34 = .int .i64 ((I : Nat) : Int) ∧ Chg [] w28 W ∧ ρ 1 = .int .i64 id ∧ ρ 2 = .pointer (some ⟨b3, 0, none⟩) ∧ ρ 32 = .slice (some ⟨b29, 0, none⟩) 3 3 ∧ ρ 33 = .int .i64 ((3 : Nat) : Int) ∧ UpF t I) 0 rfl
      ⟨Nat.zero_le _, s50, Chg.of_refl _ _, s46, s47, s48, s49, (UpF.zero _)⟩ (fun I ρ W hJ => ⟨hJ.2.1, hJ.1⟩) ?_
    rintro i51 r52 w53 ⟨le54, s55, R56, s57, s58, s59, s60, x61⟩
    have R63 := R35.gr R56
    refine W.seq ?_
    refine W.reg ?_
    refine W.val rfl rfl (X.lss (ev' (.int .i64 ((i51 : Nat) : Int)) rfl s55) (ev' (.int .i64 ((3 : Nat) : Int)) rfl s60)) ?_
    refine W.nil ?_
    refine then_n ?_
    refine W.fresh ?_
    intro r64 er65
    have s66 : r64 1 = .int .i64 id := (congrFun er65 1).trans s57
    have s67 : r64 2 = .pointer (some ⟨b3, 0, none⟩) := (congrFun er65 2).trans s58
    have s68 : r64 32 = .slice (some ⟨b29, 0, none⟩) 3 3 := (congrFun er65 32).trans s59
    have s69 : r64 33 = .int .i64 ((3 : Nat) : Int) := (congrFun er65 33).trans s60
    have s70 : r64 34 = .int .i64 ((i51 : Nat) : Int) := (congrFun er65 34).trans s55
    have s71 : r64 35 = .bool (decide ((((i51 : Nat) : Int) : Int) < (((3 : Nat) : Int) : Int))) := (congrFun er65 35).trans rfl
    clear er65
    refine W.seq ?_
    refine W.cond rfl s71 (fun k72 => ?_) (fun k72 => ?_)
    · skip
      have lt62 : i51 < 3 := Int.ofNat_lt.1 (of_decide_eq_true k72)
      refine W.skip ?_
      refine then_n ?_
      refine W.seq ?_
      refine W.block ?_
      refine W.seq ?_
      refine W.reg ?_
      refine W.val rfl rfl (X.idx (b := ⟨b29, 0 + i51 * 1, none⟩) (ev' (.slice (some ⟨b29, 0, none⟩) 3 3) rfl s68) (ev' (.int .i64 ((i51 : Nat) : Int)) rfl s70) (Int.natCast_nonneg _) (Int.ofNat_lt.2 lt62) st80 sz22 (Addr.add_lit _ _ _)) ?_
      have h73 := hB31.gr R56
      refine W.val rfl rfl (X.load (ev' (.pointer (some ⟨b29, 0 + i51 * 1, none⟩)) rfl rfl) pt22 (lc3 h73 lt62)) ?_
      refine W.val rfl rfl (X.assign (ev' ((sv3 T i51).val) rfl rfl)) ?_
      refine W.nil ?_
      refine then_n ?_
      refine W.fresh ?_
      intro r74 er75
      have s76 : r74 1 = .int .i64 id := (congrFun er75 1).trans s66
      have s77 : r74 2 = .pointer (some ⟨b3, 0, none⟩) := (congrFun er75 2).trans s67
      have s78 : r74 6 = (sv3 T i51).val := (congrFun er75 6).trans rfl
      have s79 : r74 32 = .slice (some ⟨b29, 0, none⟩) 3 3 := (congrFun er75 32).trans s68
      have s80 : r74 33 = .int .i64 ((3 : Nat) : Int) := (congrFun er75 33).trans s69
      have s81 : r74 34 = .int .i64 ((i51 : Nat) : Int) := (congrFun er75 34).trans s70
      clear er75
      refine W.seq ?_
      refine W.reg ?_
      refine W.val rfl rfl (X.move (ev' ((sv3 T i51).val) rfl s78)) ?_
      refine W.val rfl rfl (X.len (ev' ((sv3 T i51).val) rfl rfl) st22) ?_
      refine W.val rfl rfl (X.gtr (ev' (.int .i64 ((sv3 T i51).n : Int)) rfl rfl) (evc' (.int .i64 4096))) ?_
      refine W.val rfl rfl (X.move (ev' (.bool (decide ((4096 : Int) < (((sv3 T i51).n : Int) : Int)))) rfl rfl)) ?_
      refine W.gq rfl rfl rfl rfl rfl (fun _ => (X.move (ev' ((sv3 T i51).val) rfl s78))) ?_
      have h82 := (ht.ext lt6).gr g4
      have h83 := h82.gr g15
      have h84 := (h83.ext lt32).gr g30
      have h85 := h84.gr R56
      refine W.gcallS rfl rfl rfl rfl rfl (fun hc => X.callF go42 (args2 (ev' ((sv3 T i51).val) rfl (gvt hc rfl)) (evf 43))) (fun _ => (find_c (cap := #[]) (p := (fun x => !ok x)) _ go43 (h85.at3 i51) (fun m w' _ => notok_c m w'))) ?_
      intro w86 g87
      have R88 := R63.gr g87
      have R89 := R56.gr g87
      refine W.gq rfl rfl rfl rfl rfl (fun hc => (X.geq (ev' (.int .i64 (fnd (fun x => !ok x) (l3 t i51))) rfl (gvt hc rfl)) (evc' (.int .i64 0)))) ?_
      refine W.valN rfl rfl (X.or (ev' (.bool (decide ((4096 : Int) < (((sv3 T i51).n : Int) : Int)))) rfl rfl) (ev' (gv ((decide ((4096 : Int) < (((sv3 T i51).n : Int) : Int))) == false) (.bool (decide ((0 : Int) ≤ (fnd (fun x => !ok x) (l3 t i51) : Int))))) rfl rfl)) ?_
      intro q90 eq90
      refine W.nil ?_
      refine then_n ?_
      refine W.fresh ?_
      intro r91 er92
      have s93 : r91 1 = .int .i64 id := (congrFun er92 1).trans s76
      have s94 : r91 2 = .pointer (some ⟨b3, 0, none⟩) := (congrFun er92 2).trans s77
      have s95 : r91 32 = .slice (some ⟨b29, 0, none⟩) 3 3 := (congrFun er92 32).trans s79
      have s96 : r91 33 = .int .i64 ((3 : Nat) : Int) := (congrFun er92 33).trans s80
      have s97 : r91 34 = .int .i64 ((i51 : Nat) : Int) := (congrFun er92 34).trans s81
      have s98 : r91 45 = .bool q90 := (congrFun er92 45).trans rfl
      clear er92
      refine W.cond rfl s98 (fun k99 => ?_) (fun k99 => ?_)
      · skip
        refine W.seq ?_
        refine W.reg ?_
        refine W.val rfl rfl (X.assign (evc' (.int .i64 480))) ?_
        refine W.nil ?_
        refine then_n ?_
        refine W.fresh ?_
        intro r100 er101
        have s102 : r100 4 = .int .i64 480 := (congrFun er101 4).trans rfl
        clear er101
        refine W.ret (inb_r (then_r (then_r (inb_r (then_r (retT rfl rfl (show _ = (.int .i64 480 : Value) from s102) ⟨?_, R88⟩))))))
        subst eq90
        subst eq18
        exact congrArg (Value.int .i64) (chk_no fun h => ff (notFine (ht.at3 _).len (h.fine _ lt62)) k99)
      · skip
        refine W.skip ?_
        refine inb_n ?_
        refine then_n ?_
        refine W.reg ?_
        refine W.val rfl rfl (X.inc (ev' (.int .i64 ((i51 : Nat) : Int)) rfl s97) (evc' (.int .i64 1)) lt62 (by decide)) ?_
        refine W.val rfl rfl (X.move (ev' (.int .i64 ((i51 + 1 : Nat) : Int)) rfl rfl)) ?_
        refine W.nil ?_
        refine then_n ?_
        exact ⟨_, rfl, lt62, rfl, R89, s93, s94, s95, s96, (UpF.step x61 (by subst eq90; subst eq18; exact isFine (ht.at3 _).len k99))⟩
    · skip
      have ei103 : i51 = 3 := Nat.le_antisymm le54 (Nat.le_of_not_lt fun h => of_decide_eq_false k72 (Int.ofNat_lt.2 h))
      refine W.exit (then_x (then_x (inb_x ?_)))
      refine then_n ?_
      refine W.seq ?_
      refine W.seq ?_
      refine W.reg ?_
      refine W.val rfl rfl (X.fieldAddr (ev' (.pointer (some ⟨b3, 0, none⟩)) rfl s67) fo24_1 (b := ⟨b3, 1, none⟩) (Addr.add_lit _ _ _)) ?_
      have h104 := h17.gr g30
      have h105 := h104.gr R56
      refine W.val rfl rfl (X.load (ev' (.pointer (some ⟨b3, 1, none⟩)) rfl rfl) pt22 (Blk.lc h105 rfl)) ?_
      refine W.val rfl rfl (X.len (ev' (T.p.val) rfl rfl) st22) ?_
      refine W.val rfl rfl (X.move (evc' (.int .i64 0))) ?_
      refine W.nil ?_
      refine then_n ?_
      refine W.fresh ?_
      intro r106 er107
      have s108 : r106 1 = .int .i64 id := (congrFun er107 1).trans s66
      have s109 : r106 2 = .pointer (some ⟨b3, 0, none⟩) := (congrFun er107 2).trans s67
      have s110 : r106 48 = T.p.val := (congrFun er107 48).trans rfl
      have s111 : r106 49 = .int .i64 (T.p.n : Int) := (congrFun er107 49).trans rfl
      have s112 : r106 50 = .int .i64 0 := (congrFun er107 50).trans rfl
      clear er107
      refine W.block ?_
      refine W.fresh ?_
      intro r113 er114
      have s115 : r113 1 = .int .i64 id := (congrFun er114 1).trans s108
      have s116 : r113 2 = .pointer (some ⟨b3, 0, none⟩) := (congrFun er114 2).trans s109
      have s117 : r113 48 = T.p.val := (congrFun er114 48).trans s110
      have s118 : r113 49 = .int .i64 (T.p.n : Int) := (congrFun er114 49).trans s111
      have s119 : r113 50 = .int .i64 0 := (congrFun er114 50).trans s112
      clear er114
      refine W.count 50 T.p.n (fun I ρ W => I ≤ T.p.n ∧ ρ 50 = .int .i64 ((I : Nat) : Int) ∧ Chg [] w53 W ∧ ρ 1 = .int .i64 id ∧ ρ 2 = .pointer (some ⟨b3, 0, none⟩) ∧ ρ 48 = T.p.val ∧ ρ 49 = .int .i64 (T.p.n : Int) ∧ Upto (fun i m => begins m = true ∧ m.frm = id ∧ m.no = (i : Int)) t.placed I) 0 rfl
        ⟨Nat.zero_le _, s119, Chg.of_refl _ _, s115, s116, s117, s118, (Upto.zero _ _)⟩ (fun I ρ W hJ => ⟨hJ.2.1, hJ.1⟩) ?_
      rintro i120 r121 w122 ⟨le123, s124, R125, s126, s127, s128, s129, x130⟩
      have R132 := R63.gr R125
      have R133 := R56.gr R125
      refine W.seq ?_
      refine W.reg ?_
      refine W.val rfl rfl (X.lss (ev' (.int .i64 ((i120 : Nat) : Int)) rfl s124) (ev' (.int .i64 (T.p.n : Int)) rfl s129)) ?_
      refine W.nil ?_
      refine then_n ?_
      refine W.fresh ?_
      intro r134 er135
      have s136 : r134 1 = .int .i64 id := (congrFun er135 1).trans s126
      have s137 : r134 2 = .pointer (some ⟨b3, 0, none⟩) := (congrFun er135 2).trans s127
      have s138 : r134 48 = T.p.val := (congrFun er135 48).trans s128
      have s139 : r134 49 = .int .i64 (T.p.n : Int) := (congrFun er135 49).trans s129
      have s140 : r134 50 = .int .i64 ((i120 : Nat) : Int) := (congrFun er135 50).trans s124
      have s141 : r134 51 = .bool (decide ((((i120 : Nat) : Int) : Int) < ((T.p.n : Int) : Int))) := (congrFun er135 51).trans rfl
      clear er135
      refine W.seq ?_
      refine W.cond rfl s141 (fun k142 => ?_) (fun k142 => ?_)
      · skip
        have lt131 : i120 < T.p.n := Int.ofNat_lt.1 (of_decide_eq_true k142)
        refine W.skip ?_
        refine then_n ?_
        refine W.seq ?_
        refine W.block ?_
        refine W.seq ?_
        refine W.reg ?_
        refine W.val rfl rfl (X.move (ev' (.int .i64 ((i120 : Nat) : Int)) rfl s140)) ?_
        have h145 := (ht.ext lt6).gr g4
        have h146 := h145.gr g15
        have h147 := (h146.ext lt32).gr g30
        have h148 := h147.gr R56
        have h149 := h148.gr R125
        obtain ⟨m143, hm144⟩ := some_of_lt (h149.p.len ▸ lt131)
        obtain ⟨eb150, eo151, ha152, lt153, hr154⟩ := Sl.rowAt h149.p hm144
        refine W.val rfl rfl (X.idx (b := ⟨eb150, eo151 + i120 * 43, none⟩) (evs ha152 (ev' (T.p.val) rfl s138)) (ev' (.int .i64 ((i120 : Nat) : Int)) rfl s140) (Int.natCast_nonneg _) (Int.ofNat_lt.2 lt153) st22 sz30 (Addr.add_lit _ _ _)) ?_
        refine W.val rfl rfl (X.loadR (ev' (.pointer (some ⟨eb150, eo151 + i120 * 43, none⟩)) rfl rfl) rt30 hr154.r rfl) ?_
        refine W.eff rfl rfl (Y.alloc (cs := Msg.zero.arr) zero30 rfl) ?_
        rintro _ w156 ⟨b157, rfl, g158, hB159, lt160⟩
        have h161 := h105.gr R125
        have ne162 := h161.ne lt160
        have h163 := hB31.gr R56
        have h164 := h163.gr R125
        have ne165 := h164.ne lt160
        have l166 := Nat.le_trans R132.size lt160
        have l167 := Nat.le_trans R133.size lt160
        have l168 := Nat.le_trans R125.size lt160
        have R169 := R132.gr g158
        have R170 := R133.gr g158
        have R171 := R125.gr g158
        refine W.val rfl rfl (X.assign (ev' (.int .i64 ((i120 : Nat) : Int)) rfl rfl)) ?_
        refine W.eff0 rfl rfl (Y.storeW (ds := m143.arr) (ev' (.pointer (some ⟨b157, 0, none⟩)) rfl rfl) (ev' (.agg m143.arr) rfl rfl) hB159 (Msg.size_arr _) sz30 (Msg.size_arr _) (Msg.oneCellA _) rfl) ?_
        rintro w173 ⟨c174, hB175⟩
        have R176 := R169.stN c174 l166
        have R177 := R170.stN c174 l167
        have R178 := R171.stN c174 l168
        refine W.nil ?_
        refine then_n ?_
        refine W.fresh ?_
        intro r180 er181
        have s182 : r180 1 = .int .i64 id := (congrFun er181 1).trans s136
        have s183 : r180 2 = .pointer (some ⟨b3, 0, none⟩) := (congrFun er181 2).trans s137
        have s184 : r180 7 = .int .i64 ((i120 : Nat) : Int) := (congrFun er181 7).trans rfl
        have s185 : r180 8 = .pointer (some ⟨b157, 0, none⟩) := (congrFun er181 8).trans rfl
        have s186 : r180 48 = T.p.val := (congrFun er181 48).trans s138
        have s187 : r180 49 = .int .i64 (T.p.n : Int) := (congrFun er181 49).trans s139
        have s188 : r180 50 = .int .i64 ((i120 : Nat) : Int) := (congrFun er181 50).trans s140
        clear er181
        refine W.seq ?_
        refine W.reg ?_
        refine W.val rfl rfl (X.fieldAddr (ev' (.pointer (some ⟨b157, 0, none⟩)) rfl s185) fo30_0 (b := ⟨b157, 0, none⟩) (Addr.add_lit _ _ _)) ?_
        refine W.val rfl rfl (X.load (ev' (.pointer (some ⟨b157, 0, none⟩)) rfl rfl) pt3 (Blk.lc hB175 (Msg.arr0 _))) ?_
        refine W.call rfl rfl (X.callF go37 (args1 (ev' (.int .i64 m143.kind) rfl rfl))) (placed_c m143.kind _) ?_
        rintro _ w189 ⟨rfl, g190⟩
        have R191 := R176.gr g190
        have R192 := R177.gr g190
        have R193 := R178.gr g190
        refine W.val rfl rfl (X.not (ev' (.bool (m143.kind == 1 || m143.kind == 3)) rfl rfl)) ?_
        refine W.val rfl rfl (X.move (ev' (.bool (!(m143.kind == 1 || m143.kind == 3))) rfl rfl)) ?_
        refine W.gq rfl rfl rfl rfl rfl (fun _ => (X.fieldAddr (ev' (.pointer (some ⟨b157, 0, none⟩)) rfl s185) fo30_1 (b := ⟨b157, 1, none⟩) (Addr.add_lit _ _ _))) ?_
        have h194 := hB175.gr g190
        refine W.gq rfl rfl rfl rfl rfl (fun hc => (X.load (ev' (.pointer (some ⟨b157, 1, none⟩)) rfl (gvt hc rfl)) pt3 (Blk.lc h194 (Msg.arr1 _)))) ?_
        refine W.gq rfl rfl rfl rfl rfl (fun _ => (X.move (ev' (.int .i64 id) rfl s182))) ?_
        refine W.gq rfl rfl rfl rfl rfl (fun hc => (X.neq (ev' (.int .i64 m143.frm) rfl (gvt hc rfl)) (ev' (.int .i64 id) rfl (gvt hc rfl)))) ?_
        refine W.valN rfl rfl (X.or (ev' (.bool (!(m143.kind == 1 || m143.kind == 3))) rfl rfl) (ev' (gv ((!(m143.kind == 1 || m143.kind == 3)) == false) (.bool ((m143.frm : Int) != (id : Int)))) rfl rfl)) ?_
        intro q195 eq195
        refine W.val rfl rfl (X.move (ev' (.bool q195) rfl rfl)) ?_
        refine W.gq rfl rfl rfl rfl rfl (fun _ => (X.fieldAddr (ev' (.pointer (some ⟨b157, 0, none⟩)) rfl s185) fo30_3 (b := ⟨b157, 3, none⟩) (Addr.add_lit _ _ _))) ?_
        refine W.gq rfl rfl rfl rfl rfl (fun hc => (X.load (ev' (.pointer (some ⟨b157, 3, none⟩)) rfl (gvt hc rfl)) pt3 (Blk.lc h194 (Msg.arr3 _)))) ?_
        refine W.gq rfl rfl rfl rfl rfl (fun _ => (X.move (ev' (.int .i64 ((i120 : Nat) : Int)) rfl s184))) ?_
        refine W.gq rfl rfl rfl rfl rfl (fun hc => (X.neq (ev' (.int .i64 m143.no) rfl (gvt hc rfl)) (ev' (.int .i64 ((i120 : Nat) : Int)) rfl (gvt hc rfl)))) ?_
        refine W.val rfl rfl (X.or (ev' (.bool q195) rfl rfl) (ev' (gv (q195 == false) (.bool ((m143.no : Int) != (((i120 : Nat) : Int) : Int)))) rfl rfl)) ?_
        refine W.nil ?_
        refine then_n ?_
        refine W.fresh ?_
        intro r196 er197
        have s198 : r196 1 = .int .i64 id := (congrFun er197 1).trans s182
        have s199 : r196 2 = .pointer (some ⟨b3, 0, none⟩) := (congrFun er197 2).trans s183
        have s200 : r196 48 = T.p.val := (congrFun er197 48).trans s186
        have s201 : r196 49 = .int .i64 (T.p.n : Int) := (congrFun er197 49).trans s187
        have s202 : r196 50 = .int .i64 ((i120 : Nat) : Int) := (congrFun er197 50).trans s188
        have s203 : r196 70 = .bool (q195 || ((m143.no : Int) != (((i120 : Nat) : Int) : Int))) := (congrFun er197 70).trans rfl
        clear er197
        refine W.cond rfl s203 (fun k204 => ?_) (fun k204 => ?_)
        · skip
          refine W.seq ?_
          refine W.reg ?_
          refine W.val rfl rfl (X.assign (evc' (.int .i64 480))) ?_
          refine W.nil ?_
          refine then_n ?_
          refine W.fresh ?_
          intro r205 er206
          have s207 : r205 4 = .int .i64 480 := (congrFun er206 4).trans rfl
          clear er206
          refine W.ret (inb_r (then_r (then_r (inb_r (then_r (retT rfl rfl (show _ = (.int .i64 480 : Value) from s207) ⟨?_, R191⟩))))))
          subst eq195
          subst eq18
          exact congrArg (Value.int .i64) (chk_no fun h => ff (pl_iff.2 (h.pl _ _ hm144)) k204)
        · skip
          refine W.skip ?_
          refine inb_n ?_
          refine then_n ?_
          refine W.reg ?_
          refine W.val rfl rfl (X.inc (ev' (.int .i64 ((i120 : Nat) : Int)) rfl s202) (evc' (.int .i64 1)) lt131 ht.p.bnd) ?_
          refine W.val rfl rfl (X.move (ev' (.int .i64 ((i120 + 1 : Nat) : Int)) rfl rfl)) ?_
          refine W.nil ?_
          refine then_n ?_
          exact ⟨_, rfl, lt131, rfl, R193, s198, s199, s200, s201, (Upto.step x130 hm144 (by subst eq195; subst eq18; exact pl_iff.1 k204))⟩
      · skip
        have ei208 : i120 = T.p.n := Nat.le_antisymm le123 (Nat.le_of_not_lt fun h => of_decide_eq_false k142 (Int.ofNat_lt.2 h))
        refine W.exit (then_x (then_x (inb_x ?_)))
        refine then_n ?_
        refine W.seq ?_
        refine W.reg ?_
        refine W.eff rfl rfl (Y.makeMap kP) ?_
        rintro _ w209 ⟨r210, rfl, g211, hm212, lt213⟩
        have h214 := h105.gr R125
        have ne215 := h214.ne lt213
        have h216 := hB31.gr R56
        have h217 := h216.gr R125
        have ne218 := h217.ne lt213
        have l219 := Nat.le_trans R132.size lt213
        have l220 := Nat.le_trans R133.size lt213
        have l221 := Nat.le_trans R125.size lt213
        have R222 := R132.gr g211
        have R223 := R133.gr g211
        have R224 := R125.gr g211
        refine W.val rfl rfl (X.assign (ev' (.map (some r210)) rfl rfl)) ?_
        refine W.nil ?_
        refine then_n ?_
        refine W.fresh ?_
        intro r226 er227
        have s228 : r226 1 = .int .i64 id := (congrFun er227 1).trans s136
        have s229 : r226 2 = .pointer (some ⟨b3, 0, none⟩) := (congrFun er227 2).trans s137
        have s230 : r226 9 = .map (some r210) := (congrFun er227 9).trans rfl
        clear er227
        refine W.seq ?_
        refine W.seq ?_
        refine W.reg ?_
        refine W.val rfl rfl (X.fieldAddr (ev' (.pointer (some ⟨b3, 0, none⟩)) rfl s229) fo24_2 (b := ⟨b3, 2, none⟩) (Addr.add_lit _ _ _)) ?_
        have h231 := h214.gr g211
        refine W.val rfl rfl (X.load (ev' (.pointer (some ⟨b3, 2, none⟩)) rfl rfl) pt22 (Blk.lc h231 rfl)) ?_
        refine W.val rfl rfl (X.len (ev' (T.r.val) rfl rfl) st22) ?_
        refine W.val rfl rfl (X.move (evc' (.int .i64 0))) ?_
        refine W.nil ?_
        refine then_n ?_
        refine W.fresh ?_
        intro r232 er233
        have s234 : r232 1 = .int .i64 id := (congrFun er233 1).trans s228
        have s235 : r232 2 = .pointer (some ⟨b3, 0, none⟩) := (congrFun er233 2).trans s229
        have s236 : r232 9 = .map (some r210) := (congrFun er233 9).trans s230
        have s237 : r232 74 = T.r.val := (congrFun er233 74).trans rfl
        have s238 : r232 75 = .int .i64 (T.r.n : Int) := (congrFun er233 75).trans rfl
        have s239 : r232 76 = .int .i64 0 := (congrFun er233 76).trans rfl
        clear er233
        refine W.block ?_
        refine W.fresh ?_
        intro r240 er241
        have s242 : r240 1 = .int .i64 id := (congrFun er241 1).trans s234
        have s243 : r240 2 = .pointer (some ⟨b3, 0, none⟩) := (congrFun er241 2).trans s235
        have s244 : r240 9 = .map (some r210) := (congrFun er241 9).trans s236
        have s245 : r240 74 = T.r.val := (congrFun er241 74).trans s237
        have s246 : r240 75 = .int .i64 (T.r.n : Int) := (congrFun er241 75).trans s238
        have s247 : r240 76 = .int .i64 0 := (congrFun er241 76).trans s239
        clear er241
        refine W.count 76 T.r.n (fun I ρ W => I ≤ T.r.n ∧ ρ 76 = .int .i64 ((I : Nat) : Int) ∧ Chg [r210] w209 W ∧ ρ 1 = .int .i64 id ∧ ρ 2 = .pointer (some ⟨b3, 0, none⟩) ∧ ρ 9 = .map (some r210) ∧ ρ 74 = T.r.val ∧ ρ 75 = .int .i64 (T.r.n : Int) ∧ (∀ x ∈ t.received.take I, begins x = true ∧ x.to = id) ∧ ((t.received.take I).map key).Nodup ∧ Mp kP W r210 ((t.received.take I).map key)) 0 rfl
          ⟨Nat.zero_le _, s247, Chg.of_refl _ _, s242, s243, s244, s245, s246, (take_zero _ _), (by simp), hm212⟩ (fun I ρ W hJ => ⟨hJ.2.1, hJ.1⟩) ?_
        rintro i248 r249 w250 ⟨le251, s252, R253, s254, s255, s256, s257, s258, x259, x260, x261⟩
        have R263 := R222.stN R253 l219
        have R264 := R223.stN R253 l220
        have R265 := R224.stN R253 l221
        refine W.seq ?_
        refine W.reg ?_
        refine W.val rfl rfl (X.lss (ev' (.int .i64 ((i248 : Nat) : Int)) rfl s252) (ev' (.int .i64 (T.r.n : Int)) rfl s258)) ?_
        refine W.nil ?_
        refine then_n ?_
        refine W.fresh ?_
        intro r267 er268
        have s269 : r267 1 = .int .i64 id := (congrFun er268 1).trans s254
        have s270 : r267 2 = .pointer (some ⟨b3, 0, none⟩) := (congrFun er268 2).trans s255
        have s271 : r267 9 = .map (some r210) := (congrFun er268 9).trans s256
        have s272 : r267 74 = T.r.val := (congrFun er268 74).trans s257
        have s273 : r267 75 = .int .i64 (T.r.n : Int) := (congrFun er268 75).trans s258
        have s274 : r267 76 = .int .i64 ((i248 : Nat) : Int) := (congrFun er268 76).trans s252
        have s275 : r267 77 = .bool (decide ((((i248 : Nat) : Int) : Int) < ((T.r.n : Int) : Int))) := (congrFun er268 77).trans rfl
        clear er268
        refine W.seq ?_
        refine W.cond rfl s275 (fun k276 => ?_) (fun k276 => ?_)
        · skip
          have lt262 : i248 < T.r.n := Int.ofNat_lt.1 (of_decide_eq_true k276)
          refine W.skip ?_
          refine then_n ?_
          refine W.seq ?_
          refine W.block ?_
          refine W.seq ?_
          refine W.reg ?_
          have h279 := (ht.ext lt6).gr g4
          have h280 := h279.gr g15
          have h281 := (h280.ext lt32).gr g30
          have h282 := h281.gr R56
          have h283 := h282.gr R125
          have h284 := (h283.ext lt213).gr g211
          have h285 := h284.st R253 (.head _)
          obtain ⟨m277, hm278⟩ := some_of_lt (h285.r.len ▸ lt262)
          obtain ⟨eb286, eo287, ha288, lt289, hr290⟩ := Sl.rowAt h285.r hm278
          refine W.val rfl rfl (X.idx (b := ⟨eb286, eo287 + i248 * 43, none⟩) (evs ha288 (ev' (T.r.val) rfl s272)) (ev' (.int .i64 ((i248 : Nat) : Int)) rfl s274) (Int.natCast_nonneg _) (Int.ofNat_lt.2 lt289) st22 sz30 (Addr.add_lit _ _ _)) ?_
          refine W.val rfl rfl (X.loadR (ev' (.pointer (some ⟨eb286, eo287 + i248 * 43, none⟩)) rfl rfl) rt30 hr290.r rfl) ?_
          refine W.eff rfl rfl (Y.alloc (cs := Msg.zero.arr) zero30 rfl) ?_
          rintro _ w292 ⟨b293, rfl, g294, hB295, lt296⟩
          have h297 := h231.st R253 ne215
          have ne298 := h297.ne lt296
          have h299 := h217.gr g211
          have h300 := h299.st R253 ne218
          have ne301 := h300.ne lt296
          have ne302 := x261.ne lt296
          have l303 := Nat.le_trans R263.size lt296
          have l304 := Nat.le_trans R264.size lt296
          have l305 := Nat.le_trans R265.size lt296
          have l306 := Nat.le_trans R253.size lt296
          have R307 := R263.gr g294
          have R308 := R264.gr g294
          have R309 := R265.gr g294
          have R310 := R253.gr g294
          refine W.eff0 rfl rfl (Y.storeW (ds := m277.arr) (ev' (.pointer (some ⟨b293, 0, none⟩)) rfl rfl) (ev' (.agg m277.arr) rfl rfl) hB295 (Msg.size_arr _) sz30 (Msg.size_arr _) (Msg.oneCellA _) rfl) ?_
          rintro w312 ⟨c313, hB314⟩
          have R315 := R307.stN c313 l303
          have R316 := R308.stN c313 l304
          have R317 := R309.stN c313 l305
          have R318 := R310.stN c313 l306
          refine W.nil ?_
          refine then_n ?_
          refine W.fresh ?_
          intro r320 er321
          have s322 : r320 1 = .int .i64 id := (congrFun er321 1).trans s269
          have s323 : r320 2 = .pointer (some ⟨b3, 0, none⟩) := (congrFun er321 2).trans s270
          have s324 : r320 9 = .map (some r210) := (congrFun er321 9).trans s271
          have s325 : r320 11 = .pointer (some ⟨b293, 0, none⟩) := (congrFun er321 11).trans rfl
          have s326 : r320 74 = T.r.val := (congrFun er321 74).trans s272
          have s327 : r320 75 = .int .i64 (T.r.n : Int) := (congrFun er321 75).trans s273
          have s328 : r320 76 = .int .i64 ((i248 : Nat) : Int) := (congrFun er321 76).trans s274
          clear er321
          refine W.seq ?_
          refine W.seq ?_
          refine W.reg ?_
          refine W.val rfl rfl (X.fieldAddr (ev' (.pointer (some ⟨b293, 0, none⟩)) rfl s325) fo30_0 (b := ⟨b293, 0, none⟩) (Addr.add_lit _ _ _)) ?_
          refine W.val rfl rfl (X.load (ev' (.pointer (some ⟨b293, 0, none⟩)) rfl rfl) pt3 (Blk.lc hB314 (Msg.arr0 _))) ?_
          refine W.call rfl rfl (X.callF go37 (args1 (ev' (.int .i64 m277.kind) rfl rfl))) (placed_c m277.kind _) ?_
          rintro _ w329 ⟨rfl, g330⟩
          have R331 := R315.gr g330
          have R332 := R316.gr g330
          have R333 := R317.gr g330
          have R334 := R318.gr g330
          refine W.val rfl rfl (X.not (ev' (.bool (m277.kind == 1 || m277.kind == 3)) rfl rfl)) ?_
          refine W.val rfl rfl (X.move (ev' (.bool (!(m277.kind == 1 || m277.kind == 3))) rfl rfl)) ?_
          refine W.gq rfl rfl rfl rfl rfl (fun _ => (X.fieldAddr (ev' (.pointer (some ⟨b293, 0, none⟩)) rfl s325) fo30_2 (b := ⟨b293, 2, none⟩) (Addr.add_lit _ _ _))) ?_
          have h335 := hB314.gr g330
          refine W.gq rfl rfl rfl rfl rfl (fun hc => (X.load (ev' (.pointer (some ⟨b293, 2, none⟩)) rfl (gvt hc rfl)) pt3 (Blk.lc h335 (Msg.arr2 _)))) ?_
          refine W.gq rfl rfl rfl rfl rfl (fun _ => (X.move (ev' (.int .i64 id) rfl s322))) ?_
          refine W.gq rfl rfl rfl rfl rfl (fun hc => (X.neq (ev' (.int .i64 m277.to) rfl (gvt hc rfl)) (ev' (.int .i64 id) rfl (gvt hc rfl)))) ?_
          refine W.valN rfl rfl (X.or (ev' (.bool (!(m277.kind == 1 || m277.kind == 3))) rfl rfl) (ev' (gv ((!(m277.kind == 1 || m277.kind == 3)) == false) (.bool ((m277.to : Int) != (id : Int)))) rfl rfl)) ?_
          intro q336 eq336
          refine W.val rfl rfl (X.move (ev' (.bool q336) rfl rfl)) ?_
          refine W.gq rfl rfl rfl rfl rfl (fun _ => (X.move (ev' (.map (some r210)) rfl s324))) ?_
          refine W.gq rfl rfl rfl rfl rfl (fun _ => (X.fieldAddr (ev' (.pointer (some ⟨b293, 0, none⟩)) rfl s325) fo30_1 (b := ⟨b293, 1, none⟩) (Addr.add_lit _ _ _))) ?_
          refine W.gq rfl rfl rfl rfl rfl (fun hc => (X.load (ev' (.pointer (some ⟨b293, 1, none⟩)) rfl (gvt hc rfl)) pt3 (Blk.lc h335 (Msg.arr1 _)))) ?_
          refine W.gq rfl rfl rfl rfl rfl (fun _ => (X.fieldAddr (ev' (.pointer (some ⟨b293, 0, none⟩)) rfl s325) fo30_3 (b := ⟨b293, 3, none⟩) (Addr.add_lit _ _ _))) ?_
          refine W.gq rfl rfl rfl rfl rfl (fun hc => (X.load (ev' (.pointer (some ⟨b293, 3, none⟩)) rfl (gvt hc rfl)) pt3 (Blk.lc h335 (Msg.arr3 _)))) ?_
          refine W.gq rfl rfl rfl rfl rfl (fun hc => (X.build83 (ev' (.int .i64 m277.frm) rfl (gvt hc rfl)) (ev' (.int .i64 m277.no) rfl (gvt hc rfl)))) ?_
          have h337 := x261.gr g294
          have h338 := h337.st c313 ne302
          have h339 := h338.gr g330
          refine W.gq rfl rfl rfl rfl rfl (fun hc => (X.lookupB findsP Try.underlying82 (ev' (.map (some r210)) rfl (gvt hc rfl)) (ev' (kP (m277.frm, m277.no)) rfl (gvt hc rfl)) h339)) ?_
          refine W.valN rfl rfl (X.or (ev' (.bool q336) rfl rfl) (ev' (gv (q336 == false) (.bool (isIn (m277.frm, m277.no) ((t.received.take i248).map key)))) rfl rfl)) ?_
          intro q340 eq340
          refine W.nil ?_
          refine then_n ?_
          refine W.fresh ?_
          intro r341 er342
          have s343 : r341 1 = .int .i64 id := (congrFun er342 1).trans s322
          have s344 : r341 2 = .pointer (some ⟨b3, 0, none⟩) := (congrFun er342 2).trans s323
          have s345 : r341 9 = .map (some r210) := (congrFun er342 9).trans s324
          have s346 : r341 11 = .pointer (some ⟨b293, 0, none⟩) := (congrFun er342 11).trans s325
          have s347 : r341 74 = T.r.val := (congrFun er342 74).trans s326
          have s348 : r341 75 = .int .i64 (T.r.n : Int) := (congrFun er342 75).trans s327
          have s349 : r341 76 = .int .i64 ((i248 : Nat) : Int) := (congrFun er342 76).trans s328
          have s350 : r341 98 = .bool q340 := (congrFun er342 98).trans rfl
          clear er342
          refine W.cond rfl s350 (fun k351 => ?_) (fun k351 => ?_)
          · skip
            refine W.seq ?_
            refine W.reg ?_
            refine W.val rfl rfl (X.assign (evc' (.int .i64 480))) ?_
            refine W.nil ?_
            refine then_n ?_
            refine W.fresh ?_
            intro r352 er353
            have s354 : r352 4 = .int .i64 480 := (congrFun er353 4).trans rfl
            clear er353
            refine W.ret (then_r (inb_r (then_r (then_r (inb_r (then_r (retT rfl rfl (show _ = (.int .i64 480 : Value) from s354) ⟨?_, R331⟩)))))))
            subst eq340
            subst eq336
            subst eq18
            exact congrArg (Value.int .i64) (chk_no fun h => ff (rc_iff.2 ⟨h.rc _ (mem_of hm278), nodup_no h.rn hm278⟩) k351)
          · skip
            refine W.skip ?_
            refine then_n ?_
            refine W.reg ?_
            refine W.val rfl rfl (X.move (ev' (.map (some r210)) rfl s345)) ?_
            refine W.val rfl rfl (X.fieldAddr (ev' (.pointer (some ⟨b293, 0, none⟩)) rfl s346) fo30_1 (b := ⟨b293, 1, none⟩) (Addr.add_lit _ _ _)) ?_
            refine W.val rfl rfl (X.load (ev' (.pointer (some ⟨b293, 1, none⟩)) rfl rfl) pt3 (Blk.lc h335 (Msg.arr1 _))) ?_
            refine W.val rfl rfl (X.fieldAddr (ev' (.pointer (some ⟨b293, 0, none⟩)) rfl s346) fo30_3 (b := ⟨b293, 3, none⟩) (Addr.add_lit _ _ _)) ?_
            refine W.val rfl rfl (X.load (ev' (.pointer (some ⟨b293, 3, none⟩)) rfl rfl) pt3 (Blk.lc h335 (Msg.arr3 _))) ?_
            refine W.val rfl rfl (X.build83 (ev' (.int .i64 m277.frm) rfl rfl) (ev' (.int .i64 m277.no) rfl rfl)) ?_
            refine W.eff0 rfl rfl (Y.updateB findsP Try.underlying82 (ev' (.map (some r210)) rfl rfl) (ev' (kP (m277.frm, m277.no)) rfl rfl) (evc' (.bool true)) h339) ?_
            rintro w355 ⟨c356, hm357⟩
            have R358 := R331.stN c356 l219
            have R359 := R332.stN c356 l220
            have R360 := R333.stN c356 l221
            have R361 := R334.stO c356 (.head _)
            refine W.nil ?_
            refine inb_n ?_
            refine then_n ?_
            refine W.fresh ?_
            intro r363 er364
            have s365 : r363 1 = .int .i64 id := (congrFun er364 1).trans s343
            have s366 : r363 2 = .pointer (some ⟨b3, 0, none⟩) := (congrFun er364 2).trans s344
            have s367 : r363 9 = .map (some r210) := (congrFun er364 9).trans s345
            have s368 : r363 74 = T.r.val := (congrFun er364 74).trans s347
            have s369 : r363 75 = .int .i64 (T.r.n : Int) := (congrFun er364 75).trans s348
            have s370 : r363 76 = .int .i64 ((i248 : Nat) : Int) := (congrFun er364 76).trans s349
            clear er364
            refine W.reg ?_
            refine W.val rfl rfl (X.inc (ev' (.int .i64 ((i248 : Nat) : Int)) rfl s370) (evc' (.int .i64 1)) lt262 ht.r.bnd) ?_
            refine W.val rfl rfl (X.move (ev' (.int .i64 ((i248 + 1 : Nat) : Int)) rfl rfl)) ?_
            refine W.nil ?_
            refine then_n ?_
            exact ⟨_, rfl, lt262, rfl, R361, s365, s366, s367, s368, s369, (take_step hm278 x259 (by subst eq340; subst eq336; subst eq18; exact (rc_iff.1 k351).1)), (nodup_step x260 hm278 (by subst eq340; subst eq336; subst eq18; exact (rc_iff.1 k351).2)), (map_step hm278 (by subst eq340; subst eq336; subst eq18; exact (rc_iff.1 k351).2) ▸ hm357)⟩
        · skip
          have ei371 : i248 = T.r.n := Nat.le_antisymm le251 (Nat.le_of_not_lt fun h => of_decide_eq_false k276 (Int.ofNat_lt.2 h))
          refine W.exit (then_x (then_x (inb_x ?_)))
          refine then_n ?_
          refine W.seq ?_
          refine W.reg ?_
          refine W.eff rfl rfl (Y.makeMap kI) ?_
          rintro _ w372 ⟨r373, rfl, g374, hm375, lt376⟩
          have h377 := h231.st R253 ne215
          have ne378 := h377.ne lt376
          have h379 := h217.gr g211
          have h380 := h379.st R253 ne218
          have ne381 := h380.ne lt376
          have ne382 := x261.ne lt376
          have l383 := Nat.le_trans R263.size lt376
          have l384 := Nat.le_trans R264.size lt376
          have l385 := Nat.le_trans R265.size lt376
          have l386 := Nat.le_trans R253.size lt376
          have R387 := R263.gr g374
          have R388 := R264.gr g374
          have R389 := R265.gr g374
          have R390 := R253.gr g374
          refine W.val rfl rfl (X.assign (ev' (.map (some r373)) rfl rfl)) ?_
          refine W.nil ?_
          refine then_n ?_
          refine W.fresh ?_
          intro r392 er393
          have s394 : r392 2 = .pointer (some ⟨b3, 0, none⟩) := (congrFun er393 2).trans s270
          have s395 : r392 12 = .map (some r373) := (congrFun er393 12).trans rfl
          clear er393
          refine W.seq ?_
          refine W.seq ?_
          refine W.reg ?_
          refine W.val rfl rfl (X.fieldAddr (ev' (.pointer (some ⟨b3, 0, none⟩)) rfl s394) fo24_3 (b := ⟨b3, 3, none⟩) (Addr.add_lit _ _ _)) ?_
          have h396 := h377.gr g374
          refine W.val rfl rfl (X.load (ev' (.pointer (some ⟨b3, 3, none⟩)) rfl rfl) pt22 (Blk.lc h396 rfl)) ?_
          refine W.val rfl rfl (X.len (ev' (T.d.val) rfl rfl) st22) ?_
          refine W.val rfl rfl (X.move (evc' (.int .i64 0))) ?_
          refine W.nil ?_
          refine then_n ?_
          refine W.fresh ?_
          intro r397 er398
          have s399 : r397 2 = .pointer (some ⟨b3, 0, none⟩) := (congrFun er398 2).trans s394
          have s400 : r397 12 = .map (some r373) := (congrFun er398 12).trans s395
          have s401 : r397 108 = T.d.val := (congrFun er398 108).trans rfl
          have s402 : r397 109 = .int .i64 (T.d.n : Int) := (congrFun er398 109).trans rfl
          have s403 : r397 110 = .int .i64 0 := (congrFun er398 110).trans rfl
          clear er398
          refine W.block ?_
          refine W.fresh ?_
          intro r404 er405
          have s406 : r404 2 = .pointer (some ⟨b3, 0, none⟩) := (congrFun er405 2).trans s399
          have s407 : r404 12 = .map (some r373) := (congrFun er405 12).trans s400
          have s408 : r404 108 = T.d.val := (congrFun er405 108).trans s401
          have s409 : r404 109 = .int .i64 (T.d.n : Int) := (congrFun er405 109).trans s402
          have s410 : r404 110 = .int .i64 0 := (congrFun er405 110).trans s403
          clear er405
          refine W.count 110 T.d.n (fun I ρ W => I ≤ T.d.n ∧ ρ 110 = .int .i64 ((I : Nat) : Int) ∧ Chg [r373] w372 W ∧ ρ 2 = .pointer (some ⟨b3, 0, none⟩) ∧ ρ 12 = .map (some r373) ∧ ρ 108 = T.d.val ∧ ρ 109 = .int .i64 (T.d.n : Int) ∧ (∀ x ∈ t.done.take I, answ x t.placed = true) ∧ ((t.done.take I).map Msg.no).Nodup ∧ Mp kI W r373 ((t.done.take I).map Msg.no)) 0 rfl
            ⟨Nat.zero_le _, s410, Chg.of_refl _ _, s406, s407, s408, s409, (take_zero _ _), (by simp), hm375⟩ (fun I ρ W hJ => ⟨hJ.2.1, hJ.1⟩) ?_
          rintro i411 r412 w413 ⟨le414, s415, R416, s417, s418, s419, s420, x421, x422, x423⟩
          have R425 := R387.stN R416 l383
          have R426 := R388.stN R416 l384
          have R427 := R389.stN R416 l385
          have R428 := R390.stN R416 l386
          refine W.seq ?_
          refine W.reg ?_
          refine W.val rfl rfl (X.lss (ev' (.int .i64 ((i411 : Nat) : Int)) rfl s415) (ev' (.int .i64 (T.d.n : Int)) rfl s420)) ?_
          refine W.nil ?_
          refine then_n ?_
          refine W.fresh ?_
          intro r430 er431
          have s432 : r430 2 = .pointer (some ⟨b3, 0, none⟩) := (congrFun er431 2).trans s417
          have s433 : r430 12 = .map (some r373) := (congrFun er431 12).trans s418
          have s434 : r430 108 = T.d.val := (congrFun er431 108).trans s419
          have s435 : r430 109 = .int .i64 (T.d.n : Int) := (congrFun er431 109).trans s420
          have s436 : r430 110 = .int .i64 ((i411 : Nat) : Int) := (congrFun er431 110).trans s415
          have s437 : r430 111 = .bool (decide ((((i411 : Nat) : Int) : Int) < ((T.d.n : Int) : Int))) := (congrFun er431 111).trans rfl
          clear er431
          refine W.seq ?_
          refine W.cond rfl s437 (fun k438 => ?_) (fun k438 => ?_)
          · skip
            have lt424 : i411 < T.d.n := Int.ofNat_lt.1 (of_decide_eq_true k438)
            refine W.skip ?_
            refine then_n ?_
            refine W.seq ?_
            refine W.block ?_
            refine W.seq ?_
            refine W.reg ?_
            have h441 := (ht.ext lt6).gr g4
            have h442 := h441.gr g15
            have h443 := (h442.ext lt32).gr g30
            have h444 := h443.gr R56
            have h445 := h444.gr R125
            have h446 := (h445.ext lt213).gr g211
            have h447 := h446.st R253 (.head _)
            have h448 := (h447.ext lt376).gr g374
            have h449 := h448.st R416 (.head _)
            obtain ⟨m439, hm440⟩ := some_of_lt (h449.d.len ▸ lt424)
            obtain ⟨eb450, eo451, ha452, lt453, hr454⟩ := Sl.rowAt h449.d hm440
            refine W.val rfl rfl (X.idx (b := ⟨eb450, eo451 + i411 * 43, none⟩) (evs ha452 (ev' (T.d.val) rfl s434)) (ev' (.int .i64 ((i411 : Nat) : Int)) rfl s436) (Int.natCast_nonneg _) (Int.ofNat_lt.2 lt453) st22 sz30 (Addr.add_lit _ _ _)) ?_
            refine W.val rfl rfl (X.loadR (ev' (.pointer (some ⟨eb450, eo451 + i411 * 43, none⟩)) rfl rfl) rt30 hr454.r rfl) ?_
            refine W.eff rfl rfl (Y.alloc (cs := Msg.zero.arr) zero30 rfl) ?_
            rintro _ w456 ⟨b457, rfl, g458, hB459, lt460⟩
            have h461 := h396.st R416 ne378
            have ne462 := h461.ne lt460
            have h463 := h380.gr g374
            have h464 := h463.st R416 ne381
            have ne465 := h464.ne lt460
            have h466 := x261.gr g374
            have h467 := h466.st R416 ne382
            have ne468 := h467.ne lt460
            have ne469 := x423.ne lt460
            have l470 := Nat.le_trans R425.size lt460
            have l471 := Nat.le_trans R426.size lt460
            have l472 := Nat.le_trans R427.size lt460
            have l473 := Nat.le_trans R428.size lt460
            have l474 := Nat.le_trans R416.size lt460
            have R475 := R425.gr g458
            have R476 := R426.gr g458
            have R477 := R427.gr g458
            have R478 := R428.gr g458
            have R479 := R416.gr g458
            refine W.eff0 rfl rfl (Y.storeW (ds := m439.arr) (ev' (.pointer (some ⟨b457, 0, none⟩)) rfl rfl) (ev' (.agg m439.arr) rfl rfl) hB459 (Msg.size_arr _) sz30 (Msg.size_arr _) (Msg.oneCellA _) rfl) ?_
            rintro w481 ⟨c482, hB483⟩
            have R484 := R475.stN c482 l470
            have R485 := R476.stN c482 l471
            have R486 := R477.stN c482 l472
            have R487 := R478.stN c482 l473
            have R488 := R479.stN c482 l474
            refine W.nil ?_
            refine then_n ?_
            refine W.fresh ?_
            intro r490 er491
            have s492 : r490 2 = .pointer (some ⟨b3, 0, none⟩) := (congrFun er491 2).trans s432
            have s493 : r490 12 = .map (some r373) := (congrFun er491 12).trans s433
            have s494 : r490 14 = .pointer (some ⟨b457, 0, none⟩) := (congrFun er491 14).trans rfl
            have s495 : r490 108 = T.d.val := (congrFun er491 108).trans s434
            have s496 : r490 109 = .int .i64 (T.d.n : Int) := (congrFun er491 109).trans s435
            have s497 : r490 110 = .int .i64 ((i411 : Nat) : Int) := (congrFun er491 110).trans s436
            clear er491
            refine W.seq ?_
            refine W.seq ?_
            refine W.reg ?_
            refine W.val rfl rfl (X.loadR (ev' (.pointer (some ⟨b457, 0, none⟩)) rfl s494) rt30 (row_blk_msg hB483) rfl) ?_
            refine W.val rfl rfl (X.fieldAddr (ev' (.pointer (some ⟨b3, 0, none⟩)) rfl s492) fo24_1 (b := ⟨b3, 1, none⟩) (Addr.add_lit _ _ _)) ?_
            have h498 := h461.gr g458
            have h499 := h498.st c482 ne462
            refine W.val rfl rfl (X.load (ev' (.pointer (some ⟨b3, 1, none⟩)) rfl rfl) pt22 (Blk.lc h499 rfl)) ?_
            have h500 := (h449.ext lt460).gr g458
            have h501 := h500.st c482 (.head _)
            refine W.call rfl rfl (X.callF go44 (args2 (ev' (.agg m439.arr) rfl rfl) (ev' (T.p.val) rfl rfl))) (answ_c m439 _ h501.p) ?_
            rintro _ w502 ⟨rfl, g503⟩
            have R504 := R484.gr g503
            have R505 := R485.gr g503
            have R506 := R486.gr g503
            have R507 := R487.gr g503
            have R508 := R488.gr g503
            refine W.val rfl rfl (X.not (ev' (.bool (answ m439 t.placed)) rfl rfl)) ?_
            refine W.val rfl rfl (X.move (ev' (.bool (!(answ m439 t.placed))) rfl rfl)) ?_
            refine W.gq rfl rfl rfl rfl rfl (fun _ => (X.move (ev' (.map (some r373)) rfl s493))) ?_
            refine W.gq rfl rfl rfl rfl rfl (fun _ => (X.fieldAddr (ev' (.pointer (some ⟨b457, 0, none⟩)) rfl s494) fo30_3 (b := ⟨b457, 3, none⟩) (Addr.add_lit _ _ _))) ?_
            have h509 := hB483.gr g503
            refine W.gq rfl rfl rfl rfl rfl (fun hc => (X.load (ev' (.pointer (some ⟨b457, 3, none⟩)) rfl (gvt hc rfl)) pt3 (Blk.lc h509 (Msg.arr3 _)))) ?_
            have h510 := x423.gr g458
            have h511 := h510.st c482 ne469
            have h512 := h511.gr g503
            refine W.gq rfl rfl rfl rfl rfl (fun hc => (X.lookupB findsI Try.underlying84 (ev' (.map (some r373)) rfl (gvt hc rfl)) (ev' (.int .i64 m439.no) rfl (gvt hc rfl)) h512)) ?_
            refine W.valN rfl rfl (X.or (ev' (.bool (!(answ m439 t.placed))) rfl rfl) (ev' (gv ((!(answ m439 t.placed)) == false) (.bool (isIn m439.no ((t.done.take i411).map Msg.no)))) rfl rfl)) ?_
            intro q513 eq513
            refine W.nil ?_
            refine then_n ?_
            refine W.fresh ?_
            intro r514 er515
            have s516 : r514 2 = .pointer (some ⟨b3, 0, none⟩) := (congrFun er515 2).trans s492
            have s517 : r514 12 = .map (some r373) := (congrFun er515 12).trans s493
            have s518 : r514 14 = .pointer (some ⟨b457, 0, none⟩) := (congrFun er515 14).trans s494
            have s519 : r514 108 = T.d.val := (congrFun er515 108).trans s495
            have s520 : r514 109 = .int .i64 (T.d.n : Int) := (congrFun er515 109).trans s496
            have s521 : r514 110 = .int .i64 ((i411 : Nat) : Int) := (congrFun er515 110).trans s497
            have s522 : r514 124 = .bool q513 := (congrFun er515 124).trans rfl
            clear er515
            refine W.cond rfl s522 (fun k523 => ?_) (fun k523 => ?_)
            · skip
              refine W.seq ?_
              refine W.reg ?_
              refine W.val rfl rfl (X.assign (evc' (.int .i64 480))) ?_
              refine W.nil ?_
              refine then_n ?_
              refine W.fresh ?_
              intro r524 er525
              have s526 : r524 4 = .int .i64 480 := (congrFun er525 4).trans rfl
              clear er525
              refine W.ret (then_r (inb_r (then_r (then_r (inb_r (then_r (retT rfl rfl (show _ = (.int .i64 480 : Value) from s526) ⟨?_, R504⟩)))))))
              subst eq513
              subst eq18
              exact congrArg (Value.int .i64) (chk_no fun h => ff (dn_iff.2 ⟨h.dn _ (mem_of hm440), nodup_no h.dd hm440⟩) k523)
            · skip
              refine W.skip ?_
              refine then_n ?_
              refine W.reg ?_
              refine W.val rfl rfl (X.move (ev' (.map (some r373)) rfl s517)) ?_
              refine W.val rfl rfl (X.fieldAddr (ev' (.pointer (some ⟨b457, 0, none⟩)) rfl s518) fo30_3 (b := ⟨b457, 3, none⟩) (Addr.add_lit _ _ _)) ?_
              refine W.val rfl rfl (X.load (ev' (.pointer (some ⟨b457, 3, none⟩)) rfl rfl) pt3 (Blk.lc h509 (Msg.arr3 _))) ?_
              refine W.eff0 rfl rfl (Y.updateB findsI Try.underlying84 (ev' (.map (some r373)) rfl rfl) (ev' (.int .i64 m439.no) rfl rfl) (evc' (.bool true)) h512) ?_
              rintro w527 ⟨c528, hm529⟩
              have R530 := R504.stN c528 l383
              have R531 := R505.stN c528 l384
              have R532 := R506.stN c528 l385
              have R533 := R507.stN c528 l386
              have R534 := R508.stO c528 (.head _)
              refine W.nil ?_
              refine inb_n ?_
              refine then_n ?_
              refine W.fresh ?_
              intro r536 er537
              have s538 : r536 2 = .pointer (some ⟨b3, 0, none⟩) := (congrFun er537 2).trans s516
              have s539 : r536 12 = .map (some r373) := (congrFun er537 12).trans s517
              have s540 : r536 108 = T.d.val := (congrFun er537 108).trans s519
              have s541 : r536 109 = .int .i64 (T.d.n : Int) := (congrFun er537 109).trans s520
              have s542 : r536 110 = .int .i64 ((i411 : Nat) : Int) := (congrFun er537 110).trans s521
              clear er537
              refine W.reg ?_
              refine W.val rfl rfl (X.inc (ev' (.int .i64 ((i411 : Nat) : Int)) rfl s542) (evc' (.int .i64 1)) lt424 ht.d.bnd) ?_
              refine W.val rfl rfl (X.move (ev' (.int .i64 ((i411 + 1 : Nat) : Int)) rfl rfl)) ?_
              refine W.nil ?_
              refine then_n ?_
              exact ⟨_, rfl, lt424, rfl, R534, s538, s539, s540, s541, (take_step hm440 x421 (by subst eq513; subst eq18; exact (dn_iff.1 k523).1)), (nodup_step x422 hm440 (by subst eq513; subst eq18; exact (dn_iff.1 k523).2)), (map_step hm440 (by subst eq513; subst eq18; exact (dn_iff.1 k523).2) ▸ hm529)⟩
          · skip
            have ei543 : i411 = T.d.n := Nat.le_antisymm le414 (Nat.le_of_not_lt fun h => of_decide_eq_false k438 (Int.ofNat_lt.2 h))
            refine W.exit (then_x (then_x (inb_x ?_)))
            refine then_n ?_
            refine W.seq ?_
            refine W.reg ?_
            refine W.val rfl rfl (X.assign (evc' (.int .i64 0))) ?_
            refine W.nil ?_
            refine then_n ?_
            refine W.fresh ?_
            intro r544 er545
            have s546 : r544 4 = .int .i64 0 := (congrFun er545 4).trans rfl
            clear er545
            refine W.ret (retT rfl rfl (show _ = (.int .i64 0 : Value) from s546) ⟨?_, R425⟩)
            subst eq18
            obtain ⟨f1, f2⟩ := first_yes ht.next ht.p.len k24
            exact congrArg (Value.int .i64) (chk_yes ⟨f1, f2, fun j hj => x61 j (ei103 ▸ hj), Upto.all x130 (ei208.trans ht.p.len), take_all (ei371.trans ht.r.len) x259, all_take ht.r.len ei371 x260, take_all (ei543.trans ht.d.len) x421, all_take ht.d.len ei543 x422⟩)

end Go.Proofs.Ytigimkmkbdnlpaa
