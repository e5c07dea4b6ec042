/- The reference Check. Printed by gen.py. -/
import Derived.Test.YtigimkmkbdnlpaaFa
import Derived.Test.YtigimkmkbdnlpaaChk
namespace Go.Proofs.Ytigimkmkbdnlpaa
open Go.RowKit

theorem rcheck_c {bs : List Nat} {T : TV} {t : Trade} (id : Int) (w : World) (ht : Tr bs w T t) : Calls Try.prog 17 #[T.val, .int .i64 id] w (Ret fun v w' => v = .int .i64 (chk t id) ∧ Grow w w') := by
  refine enter (N := 168) Try.func17 rfl Try.ntmps17 rfl ?_
  intro ρ hρ
  have a0 : ρ 0 = T.val := hρ 0 _ rfl
  have a1 : ρ 1 = .int .i64 id := hρ 1 _ rfl
  clear hρ
  have R0 : Grow w w := Chg.refl w
  refine W.seq ?_
  refine W.reg ?_
  refine W.eff rfl rfl (Y.box (cs := T.arr) (ev' (T.val) rfl a0) rfl) ?_
  rintro _ w2 ⟨b3, rfl, g4, hB5, lt6⟩
  have l7 := Nat.le_trans R0.size lt6
  have R8 := R0.gr g4
  refine W.val rfl rfl (X.assign (evc' (.int .i64 0))) ?_
  refine W.nil ?_
  refine then_n ?_
  refine W.fresh ?_
  intro r10 er11
  have s12 : r10 1 = .int .i64 id := (congrFun er11 1).trans a1
  have s13 : r10 2 = .pointer (some ⟨b3, 0, none⟩) := (congrFun er11 2).trans rfl
  clear er11
  refine W.seq ?_
  refine W.seq ?_
  refine W.reg ?_
  refine W.val rfl rfl (X.move (ev' (.int .i64 id) rfl s12)) ?_
  refine W.call rfl rfl (X.callF go45 (args1 (ev' (.int .i64 id) rfl rfl))) (firm_c id _) ?_
  rintro _ w14 ⟨rfl, g15⟩
  have R16 := R8.gr g15
  refine W.val rfl rfl (X.not (ev' (.bool (decide (0 ≤ id ∧ id ≤ 11))) rfl rfl)) ?_
  refine W.val rfl rfl (X.move (ev' (.bool (!(decide (0 ≤ id ∧ id ≤ 11)))) rfl rfl)) ?_
  refine W.gq rfl rfl rfl rfl rfl (fun _ => (X.fieldAddr (ev' (.pointer (some ⟨b3, 0, none⟩)) rfl s13) fo24_0 (b := ⟨b3, 0, none⟩) (Addr.add_lit _ _ _))) ?_
  have h17 := hB5.gr g15
  refine W.gq rfl rfl rfl rfl rfl (fun hc => (X.load (ev' (.pointer (some ⟨b3, 0, none⟩)) rfl (gvt hc rfl)) pt3 (Blk.lc h17 rfl))) ?_
  refine W.gq rfl rfl rfl rfl rfl (fun _ => (X.fieldAddr (ev' (.pointer (some ⟨b3, 0, none⟩)) rfl s13) fo24_1 (b := ⟨b3, 1, none⟩) (Addr.add_lit _ _ _))) ?_
  refine W.gq rfl rfl rfl rfl rfl (fun hc => (X.load (ev' (.pointer (some ⟨b3, 1, none⟩)) rfl (gvt hc rfl)) pt22 (Blk.lc h17 rfl))) ?_
  refine W.gq rfl rfl rfl rfl rfl (fun hc => (X.len (ev' (T.p.val) rfl (gvt hc rfl)) st22)) ?_
  refine W.gq rfl rfl rfl rfl rfl (fun hc => (X.neq (ev' (.int .i64 T.next) rfl (gvt hc rfl)) (ev' (.int .i64 (T.p.n : Int)) rfl (gvt hc rfl)))) ?_
  refine W.valN rfl rfl (X.or (ev' (.bool (!(decide (0 ≤ id ∧ id ≤ 11)))) rfl rfl) (ev' (gv ((!(decide (0 ≤ id ∧ id ≤ 11))) == false) (.bool ((T.next : Int) != ((T.p.n : Int) : Int)))) rfl rfl)) ?_
  intro q18 eq18
  refine W.val rfl rfl (X.move (ev' (.bool q18) rfl rfl)) ?_
  refine W.gq rfl rfl rfl rfl rfl (fun _ => (X.fieldAddr (ev' (.pointer (some ⟨b3, 0, none⟩)) rfl s13) fo24_1 (b := ⟨b3, 1, none⟩) (Addr.add_lit _ _ _))) ?_
  refine W.gq rfl rfl rfl rfl rfl (fun hc => (X.load (ev' (.pointer (some ⟨b3, 1, none⟩)) rfl (gvt hc rfl)) pt22 (Blk.lc h17 rfl))) ?_
  refine W.gq rfl rfl rfl rfl rfl (fun hc => (X.len (ev' (T.p.val) rfl (gvt hc rfl)) st22)) ?_
  refine W.gq rfl rfl rfl rfl rfl (fun hc => (X.gtr (ev' (.int .i64 (T.p.n : Int)) rfl (gvt hc rfl)) (evc' (.int .i64 4096)))) ?_
  refine W.val rfl rfl (X.or (ev' (.bool q18) rfl rfl) (ev' (gv (q18 == false) (.bool (decide ((4096 : Int) < ((T.p.n : Int) : Int))))) rfl rfl)) ?_
  refine W.val rfl rfl (X.move (ev' (.bool (q18 || (decide ((4096 : Int) < ((T.p.n : Int) : Int))))) rfl rfl)) ?_
  refine W.gq rfl rfl rfl rfl rfl (fun _ => (X.fieldAddr (ev' (.pointer (some ⟨b3, 0, none⟩)) rfl s13) fo24_2 (b := ⟨b3, 2, none⟩) (Addr.add_lit _ _ _))) ?_
  refine W.gq rfl rfl rfl rfl rfl (fun hc => (X.load (ev' (.pointer (some ⟨b3, 2, none⟩)) rfl (gvt hc rfl)) pt22 (Blk.lc h17 rfl))) ?_
  refine W.gq rfl rfl rfl rfl rfl (fun hc => (X.len (ev' (T.r.val) rfl (gvt hc rfl)) st22)) ?_
  refine W.gq rfl rfl rfl rfl rfl (fun hc => (X.gtr (ev' (.int .i64 (T.r.n : Int)) rfl (gvt hc rfl)) (evc' (.int .i64 4096)))) ?_
  refine W.valN rfl rfl (X.or (ev' (.bool (q18 || (decide ((4096 : Int) < ((T.p.n : Int) : Int))))) rfl rfl) (ev' (gv ((q18 || (decide ((4096 : Int) < ((T.p.n : Int) : Int)))) == false) (.bool (decide ((4096 : Int) < ((T.r.n : Int) : Int))))) rfl rfl)) ?_
  intro q19 eq19
  refine W.val rfl rfl (X.move (ev' (.bool q19) rfl rfl)) ?_
  refine W.gq rfl rfl rfl rfl rfl (fun _ => (X.fieldAddr (ev' (.pointer (some ⟨b3, 0, none⟩)) rfl s13) fo24_3 (b := ⟨b3, 3, none⟩) (Addr.add_lit _ _ _))) ?_
  refine W.gq rfl rfl rfl rfl rfl (fun hc => (X.load (ev' (.pointer (some ⟨b3, 3, none⟩)) rfl (gvt hc rfl)) pt22 (Blk.lc h17 rfl))) ?_
  refine W.gq rfl rfl rfl rfl rfl (fun hc => (X.len (ev' (T.d.val) rfl (gvt hc rfl)) st22)) ?_
  refine W.gq rfl rfl rfl rfl rfl (fun hc => (X.gtr (ev' (.int .i64 (T.d.n : Int)) rfl (gvt hc rfl)) (evc' (.int .i64 4096)))) ?_
  refine W.val rfl rfl (X.or (ev' (.bool q19) rfl rfl) (ev' (gv (q19 == false) (.bool (decide ((4096 : Int) < ((T.d.n : Int) : Int))))) rfl rfl)) ?_
  refine W.nil ?_
  refine then_n ?_
  refine W.fresh ?_
  intro r20 er21
  have s22 : r20 1 = .int .i64 id := (congrFun er21 1).trans s12
  have s23 : r20 2 = .pointer (some ⟨b3, 0, none⟩) := (congrFun er21 2).trans s13
  have s24 : r20 40 = .bool (q19 || (decide ((4096 : Int) < ((T.d.n : Int) : Int)))) := (congrFun er21 40).trans rfl
  clear er21
  refine W.cond rfl s24 (fun k25 => ?_) (fun k25 => ?_)
  · skip
    refine W.seq ?_
    refine W.reg ?_
    refine W.val rfl rfl (X.assign (evc' (.int .i64 480))) ?_
    refine W.nil ?_
    refine then_n ?_
    refine W.fresh ?_
    intro r26 er27
    have s28 : r26 4 = .int .i64 480 := (congrFun er27 4).trans rfl
    clear er27
    refine W.ret (then_r (retT rfl rfl (show _ = (.int .i64 480 : Value) from s28) ⟨?_, R16⟩))
    subst eq19
    subst eq18
    exact congrArg (Value.int .i64) (chk_no fun h => ff (first17_no h ht.next ht.p.len ht.r.len ht.d.len) k25)
  · skip
    refine W.skip ?_
    refine then_n ?_
    refine W.seq ?_
    refine W.seq ?_
    refine W.reg ?_
    refine W.val rfl rfl (X.assign (evc' (.int .i64 0))) ?_
    refine W.nil ?_
    refine then_n ?_
    refine W.fresh ?_
    intro r29 er30
    have s31 : r29 1 = .int .i64 id := (congrFun er30 1).trans s22
    have s32 : r29 2 = .pointer (some ⟨b3, 0, none⟩) := (congrFun er30 2).trans s23
    have s33 : r29 5 = .int .i64 0 := (congrFun er30 5).trans rfl
    clear er30
    refine W.block ?_
    refine W.fresh ?_
    intro r34 er35
    have s36 : r34 1 = .int .i64 id := (congrFun er35 1).trans s31
    have s37 : r34 2 = .pointer (some ⟨b3, 0, none⟩) := (congrFun er35 2).trans s32
    have s38 : r34 5 = .int .i64 0 := (congrFun er35 5).trans s33
    clear er35
    refine W.count 5 T.p.n (fun I ρ W => I ≤ T.p.n ∧ ρ 5 = .int .i64 ((I : Nat) : Int) ∧ Chg [] w14 W ∧ ρ 1 = .int .i64 id ∧ ρ 2 = .pointer (some ⟨b3, 0, none⟩) ∧ Upto (P17 id) t.placed I) 0 rfl
      ⟨Nat.zero_le _, s38, Chg.of_refl _ _, s36, s37, (Upto.zero _ _)⟩ (fun I ρ W hJ => ⟨hJ.2.1, hJ.1⟩) ?_
    rintro i39 r40 w41 ⟨le42, s43, R44, s45, s46, x47⟩
    have R49 := R16.gr R44
    refine W.seq ?_
    refine W.seq ?_
    refine W.reg ?_
    refine W.val rfl rfl (X.move (ev' (.int .i64 ((i39 : Nat) : Int)) rfl s43)) ?_
    refine W.val rfl rfl (X.fieldAddr (ev' (.pointer (some ⟨b3, 0, none⟩)) rfl s46) fo24_1 (b := ⟨b3, 1, none⟩) (Addr.add_lit _ _ _)) ?_
    have h50 := h17.gr R44
    refine W.val rfl rfl (X.load (ev' (.pointer (some ⟨b3, 1, none⟩)) rfl rfl) pt22 (Blk.lc h50 rfl)) ?_
    refine W.val rfl rfl (X.len (ev' (T.p.val) rfl rfl) st22) ?_
    refine W.val rfl rfl (X.lss (ev' (.int .i64 ((i39 : Nat) : Int)) rfl rfl) (ev' (.int .i64 (T.p.n : Int)) rfl rfl)) ?_
    refine W.nil ?_
    refine then_n ?_
    refine W.fresh ?_
    intro r51 er52
    have s53 : r51 1 = .int .i64 id := (congrFun er52 1).trans s45
    have s54 : r51 2 = .pointer (some ⟨b3, 0, none⟩) := (congrFun er52 2).trans s46
    have s55 : r51 5 = .int .i64 ((i39 : Nat) : Int) := (congrFun er52 5).trans s43
    have s56 : r51 45 = .bool (decide ((((i39 : Nat) : Int) : Int) < ((T.p.n : Int) : Int))) := (congrFun er52 45).trans rfl
    clear er52
    refine W.cond rfl s56 (fun k57 => ?_) (fun k57 => ?_)
    · skip
      have lt48 : i39 < T.p.n := Int.ofNat_lt.1 (of_decide_eq_true k57)
      refine W.skip ?_
      refine then_n ?_
      refine W.seq ?_
      refine W.block ?_
      refine W.seq ?_
      refine W.reg ?_
      refine W.val rfl rfl (X.fieldAddr (ev' (.pointer (some ⟨b3, 0, none⟩)) rfl s54) fo24_1 (b := ⟨b3, 1, none⟩) (Addr.add_lit _ _ _)) ?_
      refine W.val rfl rfl (X.load (ev' (.pointer (some ⟨b3, 1, none⟩)) rfl rfl) pt22 (Blk.lc h50 rfl)) ?_
      refine W.val rfl rfl (X.move (ev' (.int .i64 ((i39 : Nat) : Int)) rfl s55)) ?_
      have h60 := (ht.ext lt6).gr g4
      have h61 := h60.gr g15
      have h62 := h61.gr R44
      obtain ⟨m58, hm59⟩ := some_of_lt (h62.p.len ▸ lt48)
      obtain ⟨eb63, eo64, ha65, lt66, hr67⟩ := Sl.rowAt h62.p hm59
      refine W.val rfl rfl (X.idx (b := ⟨eb63, eo64 + i39 * 43, none⟩) (evs ha65 (ev' (T.p.val) rfl rfl)) (ev' (.int .i64 ((i39 : Nat) : Int)) rfl rfl) (Int.natCast_nonneg _) (Int.ofNat_lt.2 lt66) st22 sz30 (Addr.add_lit _ _ _)) ?_
      refine W.val rfl rfl (X.loadR (ev' (.pointer (some ⟨eb63, eo64 + i39 * 43, none⟩)) rfl rfl) rt30 hr67.r rfl) ?_
      refine W.eff rfl rfl (Y.alloc (cs := Msg.zero.arr) zero30 rfl) ?_
      rintro _ w69 ⟨b70, rfl, g71, hB72, lt73⟩
      have ne74 := h50.ne lt73
      have l75 := Nat.le_trans R49.size lt73
      have l76 := Nat.le_trans R44.size lt73
      have R77 := R49.gr g71
      have R78 := R44.gr g71
      refine W.eff0 rfl rfl (Y.storeW (ds := m58.arr) (ev' (.pointer (some ⟨b70, 0, none⟩)) rfl rfl) (ev' (.agg m58.arr) rfl rfl) hB72 (Msg.size_arr _) sz30 (Msg.size_arr _) (Msg.oneCellA _) rfl) ?_
      rintro w80 ⟨c81, hB82⟩
      have R83 := R77.stN c81 l75
      have R84 := R78.stN c81 l76
      refine W.nil ?_
      refine then_n ?_
      refine W.fresh ?_
      intro r86 er87
      have s88 : r86 1 = .int .i64 id := (congrFun er87 1).trans s53
      have s89 : r86 2 = .pointer (some ⟨b3, 0, none⟩) := (congrFun er87 2).trans s54
      have s90 : r86 5 = .int .i64 ((i39 : Nat) : Int) := (congrFun er87 5).trans s55
      have s91 : r86 6 = .pointer (some ⟨b70, 0, none⟩) := (congrFun er87 6).trans rfl
      clear er87
      refine W.seq ?_
      refine W.reg ?_
      refine W.val rfl rfl (X.loadR (ev' (.pointer (some ⟨b70, 0, none⟩)) rfl s91) rt30 (row_blk_msg hB82) rfl) ?_
      refine W.call rfl rfl (X.callF go39 (args1 (ev' (.agg m58.arr) rfl rfl))) (of_c m58 _) ?_
      rintro _ w92 ⟨rfl, g93⟩
      have R94 := R83.gr g93
      have R95 := R84.gr g93
      refine W.val rfl rfl (X.not (ev' (.bool (ok m58)) rfl rfl)) ?_
      refine W.val rfl rfl (X.move (ev' (.bool (!(ok m58))) rfl rfl)) ?_
      have h96 := hB82.gr g93
      refine W.gq rfl rfl rfl rfl rfl (fun _ => (X.loadR (ev' (.pointer (some ⟨b70, 0, none⟩)) rfl s91) rt30 (row_blk_msg h96) rfl)) ?_
      refine W.gcallS rfl rfl rfl rfl rfl (fun hc => X.callF go40 (args1 (ev' (.agg m58.arr) rfl (gvt hc rfl)))) (fun _ => (begins_c m58 _)) ?_
      intro w97 g98
      have R99 := R94.gr g98
      have R100 := R95.gr g98
      refine W.gq rfl rfl rfl rfl rfl (fun hc => (X.not (ev' (.bool (begins m58)) rfl (gvt hc rfl)))) ?_
      refine W.val rfl rfl (X.or (ev' (.bool (!(ok m58))) rfl rfl) (ev' (gv ((!(ok m58)) == false) (.bool (!(begins m58)))) rfl rfl)) ?_
      refine W.val rfl rfl (X.move (ev' (.bool ((!(ok m58)) || (!(begins m58)))) rfl rfl)) ?_
      refine W.gq rfl rfl rfl rfl rfl (fun _ => (X.fieldAddr (ev' (.pointer (some ⟨b70, 0, none⟩)) rfl s91) fo30_1 (b := ⟨b70, 1, none⟩) (Addr.add_lit _ _ _))) ?_
      have h101 := h96.gr g98
      refine W.gq rfl rfl rfl rfl rfl (fun hc => (X.load (ev' (.pointer (some ⟨b70, 1, none⟩)) rfl (gvt hc rfl)) pt3 (Blk.lc h101 (Msg.arr1 _)))) ?_
      refine W.gq rfl rfl rfl rfl rfl (fun _ => (X.move (ev' (.int .i64 id) rfl s88))) ?_
      refine W.gq rfl rfl rfl rfl rfl (fun hc => (X.neq (ev' (.int .i64 m58.frm) rfl (gvt hc rfl)) (ev' (.int .i64 id) rfl (gvt hc rfl)))) ?_
      refine W.valN rfl rfl (X.or (ev' (.bool ((!(ok m58)) || (!(begins m58)))) rfl rfl) (ev' (gv (((!(ok m58)) || (!(begins m58))) == false) (.bool ((m58.frm : Int) != (id : Int)))) rfl rfl)) ?_
      intro q102 eq102
      refine W.val rfl rfl (X.move (ev' (.bool q102) rfl rfl)) ?_
      refine W.gq rfl rfl rfl rfl rfl (fun _ => (X.fieldAddr (ev' (.pointer (some ⟨b70, 0, none⟩)) rfl s91) fo30_3 (b := ⟨b70, 3, none⟩) (Addr.add_lit _ _ _))) ?_
      refine W.gq rfl rfl rfl rfl rfl (fun hc => (X.load (ev' (.pointer (some ⟨b70, 3, none⟩)) rfl (gvt hc rfl)) pt3 (Blk.lc h101 (Msg.arr3 _)))) ?_
      refine W.gq rfl rfl rfl rfl rfl (fun _ => (X.move (ev' (.int .i64 ((i39 : Nat) : Int)) rfl s90))) ?_
      refine W.gq rfl rfl rfl rfl rfl (fun hc => (X.neq (ev' (.int .i64 m58.no) rfl (gvt hc rfl)) (ev' (.int .i64 ((i39 : Nat) : Int)) rfl (gvt hc rfl)))) ?_
      refine W.val rfl rfl (X.or (ev' (.bool q102) rfl rfl) (ev' (gv (q102 == false) (.bool ((m58.no : Int) != (((i39 : Nat) : Int) : Int)))) rfl rfl)) ?_
      refine W.nil ?_
      refine then_n ?_
      refine W.fresh ?_
      intro r103 er104
      have s105 : r103 1 = .int .i64 id := (congrFun er104 1).trans s88
      have s106 : r103 2 = .pointer (some ⟨b3, 0, none⟩) := (congrFun er104 2).trans s89
      have s107 : r103 5 = .int .i64 ((i39 : Nat) : Int) := (congrFun er104 5).trans s90
      have s108 : r103 72 = .bool (q102 || ((m58.no : Int) != (((i39 : Nat) : Int) : Int))) := (congrFun er104 72).trans rfl
      clear er104
      refine W.cond rfl s108 (fun k109 => ?_) (fun k109 => ?_)
      · skip
        refine W.seq ?_
        refine W.reg ?_
        refine W.val rfl rfl (X.assign (evc' (.int .i64 480))) ?_
        refine W.nil ?_
        refine then_n ?_
        refine W.fresh ?_
        intro r110 er111
        have s112 : r110 4 = .int .i64 480 := (congrFun er111 4).trans rfl
        clear er111
        refine W.ret (inb_r (then_r (then_r (inb_r (then_r (retT rfl rfl (show _ = (.int .i64 480 : Value) from s112) ⟨?_, R99⟩))))))
        subst eq102
        subst eq19
        subst eq18
        exact congrArg (Value.int .i64) (chk_no fun h => ff (pl17_iff.2 ⟨(h.fine 0 (by omega)).2 _ (mem_of hm59), h.pl _ _ hm59⟩) k109)
      · skip
        refine W.skip ?_
        refine inb_n ?_
        refine then_n ?_
        refine W.reg ?_
        refine W.val rfl rfl (X.move (ev' (.int .i64 ((i39 : Nat) : Int)) rfl s107)) ?_
        refine W.val rfl rfl (X.inc (ev' (.int .i64 ((i39 : Nat) : Int)) rfl rfl) (evc' (.int .i64 1)) lt48 ht.p.bnd) ?_
        refine W.val rfl rfl (X.assign (ev' (.int .i64 ((i39 + 1 : Nat) : Int)) rfl rfl)) ?_
        refine W.nil ?_
        refine then_n ?_
        exact ⟨_, rfl, lt48, rfl, R100, s105, s106, (Upto.step x47 hm59 (by subst eq102; subst eq19; subst eq18; exact pl17_iff.1 k109))⟩
    · skip
      have ei113 : i39 = T.p.n := Nat.le_antisymm le42 (Nat.le_of_not_lt fun h => of_decide_eq_false k57 (Int.ofNat_lt.2 h))
      refine W.exit (then_x (then_x (inb_x ?_)))
      refine then_n ?_
      refine W.seq ?_
      refine W.seq ?_
      refine W.reg ?_
      refine W.val rfl rfl (X.assign (evc' (.int .i64 0))) ?_
      refine W.nil ?_
      refine then_n ?_
      refine W.fresh ?_
      intro r114 er115
      have s116 : r114 1 = .int .i64 id := (congrFun er115 1).trans s53
      have s117 : r114 2 = .pointer (some ⟨b3, 0, none⟩) := (congrFun er115 2).trans s54
      have s118 : r114 7 = .int .i64 0 := (congrFun er115 7).trans rfl
      clear er115
      refine W.block ?_
      refine W.fresh ?_
      intro r119 er120
      have s121 : r119 1 = .int .i64 id := (congrFun er120 1).trans s116
      have s122 : r119 2 = .pointer (some ⟨b3, 0, none⟩) := (congrFun er120 2).trans s117
      have s123 : r119 7 = .int .i64 0 := (congrFun er120 7).trans s118
      clear er120
      refine W.count 7 T.r.n (fun I ρ W => I ≤ T.r.n ∧ ρ 7 = .int .i64 ((I : Nat) : Int) ∧ Chg [] w41 W ∧ ρ 1 = .int .i64 id ∧ ρ 2 = .pointer (some ⟨b3, 0, none⟩) ∧ (∀ x ∈ t.received.take I, ok x = true ∧ begins x = true ∧ x.to = id) ∧ ((t.received.take I).map key).Nodup) 0 rfl
        ⟨Nat.zero_le _, s123, Chg.of_refl _ _, s121, s122, (take_zero _ _), (by simp)⟩ (fun I ρ W hJ => ⟨hJ.2.1, hJ.1⟩) ?_
      rintro i124 r125 w126 ⟨le127, s128, R129, s130, s131, x132, x133⟩
      have R135 := R49.gr R129
      have R136 := R44.gr R129
      refine W.seq ?_
      refine W.seq ?_
      refine W.reg ?_
      refine W.val rfl rfl (X.move (ev' (.int .i64 ((i124 : Nat) : Int)) rfl s128)) ?_
      refine W.val rfl rfl (X.fieldAddr (ev' (.pointer (some ⟨b3, 0, none⟩)) rfl s131) fo24_2 (b := ⟨b3, 2, none⟩) (Addr.add_lit _ _ _)) ?_
      have h137 := h50.gr R129
      refine W.val rfl rfl (X.load (ev' (.pointer (some ⟨b3, 2, none⟩)) rfl rfl) pt22 (Blk.lc h137 rfl)) ?_
      refine W.val rfl rfl (X.len (ev' (T.r.val) rfl rfl) st22) ?_
      refine W.val rfl rfl (X.lss (ev' (.int .i64 ((i124 : Nat) : Int)) rfl rfl) (ev' (.int .i64 (T.r.n : Int)) rfl rfl)) ?_
      refine W.nil ?_
      refine then_n ?_
      refine W.fresh ?_
      intro r138 er139
      have s140 : r138 1 = .int .i64 id := (congrFun er139 1).trans s130
      have s141 : r138 2 = .pointer (some ⟨b3, 0, none⟩) := (congrFun er139 2).trans s131
      have s142 : r138 7 = .int .i64 ((i124 : Nat) : Int) := (congrFun er139 7).trans s128
      have s143 : r138 77 = .bool (decide ((((i124 : Nat) : Int) : Int) < ((T.r.n : Int) : Int))) := (congrFun er139 77).trans rfl
      clear er139
      refine W.cond rfl s143 (fun k144 => ?_) (fun k144 => ?_)
      · skip
        have lt134 : i124 < T.r.n := Int.ofNat_lt.1 (of_decide_eq_true k144)
        refine W.skip ?_
        refine then_n ?_
        refine W.seq ?_
        refine W.block ?_
        refine W.seq ?_
        refine W.reg ?_
        refine W.val rfl rfl (X.fieldAddr (ev' (.pointer (some ⟨b3, 0, none⟩)) rfl s141) fo24_2 (b := ⟨b3, 2, none⟩) (Addr.add_lit _ _ _)) ?_
        refine W.val rfl rfl (X.load (ev' (.pointer (some ⟨b3, 2, none⟩)) rfl rfl) pt22 (Blk.lc h137 rfl)) ?_
        refine W.val rfl rfl (X.move (ev' (.int .i64 ((i124 : Nat) : Int)) rfl s142)) ?_
        have h147 := (ht.ext lt6).gr g4
        have h148 := h147.gr g15
        have h149 := h148.gr R44
        have h150 := h149.gr R129
        obtain ⟨m145, hm146⟩ := some_of_lt (h150.r.len ▸ lt134)
        obtain ⟨eb151, eo152, ha153, lt154, hr155⟩ := Sl.rowAt h150.r hm146
        refine W.val rfl rfl (X.idx (b := ⟨eb151, eo152 + i124 * 43, none⟩) (evs ha153 (ev' (T.r.val) rfl rfl)) (ev' (.int .i64 ((i124 : Nat) : Int)) rfl rfl) (Int.natCast_nonneg _) (Int.ofNat_lt.2 lt154) st22 sz30 (Addr.add_lit _ _ _)) ?_
        refine W.val rfl rfl (X.loadR (ev' (.pointer (some ⟨eb151, eo152 + i124 * 43, none⟩)) rfl rfl) rt30 hr155.r rfl) ?_
        refine W.eff rfl rfl (Y.alloc (cs := Msg.zero.arr) zero30 rfl) ?_
        rintro _ w157 ⟨b158, rfl, g159, hB160, lt161⟩
        have ne162 := h137.ne lt161
        have l163 := Nat.le_trans R135.size lt161
        have l164 := Nat.le_trans R136.size lt161
        have l165 := Nat.le_trans R129.size lt161
        have R166 := R135.gr g159
        have R167 := R136.gr g159
        have R168 := R129.gr g159
        refine W.eff0 rfl rfl (Y.storeW (ds := m145.arr) (ev' (.pointer (some ⟨b158, 0, none⟩)) rfl rfl) (ev' (.agg m145.arr) rfl rfl) hB160 (Msg.size_arr _) sz30 (Msg.size_arr _) (Msg.oneCellA _) rfl) ?_
        rintro w170 ⟨c171, hB172⟩
        have R173 := R166.stN c171 l163
        have R174 := R167.stN c171 l164
        have R175 := R168.stN c171 l165
        refine W.nil ?_
        refine then_n ?_
        refine W.fresh ?_
        intro r177 er178
        have s179 : r177 1 = .int .i64 id := (congrFun er178 1).trans s140
        have s180 : r177 2 = .pointer (some ⟨b3, 0, none⟩) := (congrFun er178 2).trans s141
        have s181 : r177 7 = .int .i64 ((i124 : Nat) : Int) := (congrFun er178 7).trans s142
        have s182 : r177 8 = .pointer (some ⟨b158, 0, none⟩) := (congrFun er178 8).trans rfl
        clear er178
        refine W.seq ?_
        refine W.seq ?_
        refine W.reg ?_
        refine W.val rfl rfl (X.loadR (ev' (.pointer (some ⟨b158, 0, none⟩)) rfl s182) rt30 (row_blk_msg hB172) rfl) ?_
        refine W.call rfl rfl (X.callF go39 (args1 (ev' (.agg m145.arr) rfl rfl))) (of_c m145 _) ?_
        rintro _ w183 ⟨rfl, g184⟩
        have R185 := R173.gr g184
        have R186 := R174.gr g184
        have R187 := R175.gr g184
        refine W.val rfl rfl (X.not (ev' (.bool (ok m145)) rfl rfl)) ?_
        refine W.val rfl rfl (X.move (ev' (.bool (!(ok m145))) rfl rfl)) ?_
        have h188 := hB172.gr g184
        refine W.gq rfl rfl rfl rfl rfl (fun _ => (X.loadR (ev' (.pointer (some ⟨b158, 0, none⟩)) rfl s182) rt30 (row_blk_msg h188) rfl)) ?_
        refine W.gcallS rfl rfl rfl rfl rfl (fun hc => X.callF go40 (args1 (ev' (.agg m145.arr) rfl (gvt hc rfl)))) (fun _ => (begins_c m145 _)) ?_
        intro w189 g190
        have R191 := R185.gr g190
        have R192 := R186.gr g190
        have R193 := R187.gr g190
        refine W.gq rfl rfl rfl rfl rfl (fun hc => (X.not (ev' (.bool (begins m145)) rfl (gvt hc rfl)))) ?_
        refine W.val rfl rfl (X.or (ev' (.bool (!(ok m145))) rfl rfl) (ev' (gv ((!(ok m145)) == false) (.bool (!(begins m145)))) rfl rfl)) ?_
        refine W.val rfl rfl (X.move (ev' (.bool ((!(ok m145)) || (!(begins m145)))) rfl rfl)) ?_
        refine W.gq rfl rfl rfl rfl rfl (fun _ => (X.fieldAddr (ev' (.pointer (some ⟨b158, 0, none⟩)) rfl s182) fo30_2 (b := ⟨b158, 2, none⟩) (Addr.add_lit _ _ _))) ?_
        have h194 := h188.gr g190
        refine W.gq rfl rfl rfl rfl rfl (fun hc => (X.load (ev' (.pointer (some ⟨b158, 2, none⟩)) rfl (gvt hc rfl)) pt3 (Blk.lc h194 (Msg.arr2 _)))) ?_
        refine W.gq rfl rfl rfl rfl rfl (fun _ => (X.move (ev' (.int .i64 id) rfl s179))) ?_
        refine W.gq rfl rfl rfl rfl rfl (fun hc => (X.neq (ev' (.int .i64 m145.to) rfl (gvt hc rfl)) (ev' (.int .i64 id) rfl (gvt hc rfl)))) ?_
        refine W.valN rfl rfl (X.or (ev' (.bool ((!(ok m145)) || (!(begins m145)))) rfl rfl) (ev' (gv (((!(ok m145)) || (!(begins m145))) == false) (.bool ((m145.to : Int) != (id : Int)))) rfl rfl)) ?_
        intro q195 eq195
        refine W.nil ?_
        refine then_n ?_
        refine W.fresh ?_
        intro r196 er197
        have s198 : r196 1 = .int .i64 id := (congrFun er197 1).trans s179
        have s199 : r196 2 = .pointer (some ⟨b3, 0, none⟩) := (congrFun er197 2).trans s180
        have s200 : r196 7 = .int .i64 ((i124 : Nat) : Int) := (congrFun er197 7).trans s181
        have s201 : r196 8 = .pointer (some ⟨b158, 0, none⟩) := (congrFun er197 8).trans s182
        have s202 : r196 98 = .bool q195 := (congrFun er197 98).trans rfl
        clear er197
        refine W.cond rfl s202 (fun k203 => ?_) (fun k203 => ?_)
        · skip
          refine W.seq ?_
          refine W.reg ?_
          refine W.val rfl rfl (X.assign (evc' (.int .i64 480))) ?_
          refine W.nil ?_
          refine then_n ?_
          refine W.fresh ?_
          intro r204 er205
          have s206 : r204 4 = .int .i64 480 := (congrFun er205 4).trans rfl
          clear er205
          refine W.ret (then_r (inb_r (then_r (then_r (inb_r (then_r (retT rfl rfl (show _ = (.int .i64 480 : Value) from s206) ⟨?_, R191⟩)))))))
          subst eq195
          subst eq19
          subst eq18
          exact congrArg (Value.int .i64) (chk_no fun h => ff (rc17_iff.2 ⟨(h.fine 1 (by omega)).2 _ (mem_of hm146), h.rc _ (mem_of hm146)⟩) k203)
        · skip
          refine W.skip ?_
          refine then_n ?_
          refine W.seq ?_
          refine W.reg ?_
          refine W.val rfl rfl (X.assign (evc' (.int .i64 0))) ?_
          refine W.nil ?_
          refine then_n ?_
          refine W.fresh ?_
          intro r207 er208
          have s209 : r207 1 = .int .i64 id := (congrFun er208 1).trans s198
          have s210 : r207 2 = .pointer (some ⟨b3, 0, none⟩) := (congrFun er208 2).trans s199
          have s211 : r207 7 = .int .i64 ((i124 : Nat) : Int) := (congrFun er208 7).trans s200
          have s212 : r207 8 = .pointer (some ⟨b158, 0, none⟩) := (congrFun er208 8).trans s201
          have s213 : r207 9 = .int .i64 0 := (congrFun er208 9).trans rfl
          clear er208
          refine W.block ?_
          refine W.fresh ?_
          intro r214 er215
          have s216 : r214 1 = .int .i64 id := (congrFun er215 1).trans s209
          have s217 : r214 2 = .pointer (some ⟨b3, 0, none⟩) := (congrFun er215 2).trans s210
          have s218 : r214 7 = .int .i64 ((i124 : Nat) : Int) := (congrFun er215 7).trans s211
          have s219 : r214 8 = .pointer (some ⟨b158, 0, none⟩) := (congrFun er215 8).trans s212
          have s220 : r214 9 = .int .i64 0 := (congrFun er215 9).trans s213
          clear er215
          refine W.count 9 i124 (fun I ρ W => I ≤ i124 ∧ ρ 9 = .int .i64 ((I : Nat) : Int) ∧ Chg [] w189 W ∧ ρ 1 = .int .i64 id ∧ ρ 2 = .pointer (some ⟨b3, 0, none⟩) ∧ ρ 7 = .int .i64 ((i124 : Nat) : Int) ∧ ρ 8 = .pointer (some ⟨b158, 0, none⟩) ∧ UpK t.received m145 I) 0 rfl
            ⟨Nat.zero_le _, s220, Chg.of_refl _ _, s216, s217, s218, s219, (Upto.zero _ _)⟩ (fun I ρ W hJ => ⟨hJ.2.1, hJ.1⟩) ?_
          rintro i221 r222 w223 ⟨le224, s225, R226, s227, s228, s229, s230, x231⟩
          have R233 := R191.gr R226
          have R234 := R192.gr R226
          have R235 := R193.gr R226
          refine W.seq ?_
          refine W.seq ?_
          refine W.reg ?_
          refine W.val rfl rfl (X.move (ev' (.int .i64 ((i221 : Nat) : Int)) rfl s225)) ?_
          refine W.val rfl rfl (X.move (ev' (.int .i64 ((i124 : Nat) : Int)) rfl s229)) ?_
          refine W.val rfl rfl (X.lss (ev' (.int .i64 ((i221 : Nat) : Int)) rfl rfl) (ev' (.int .i64 ((i124 : Nat) : Int)) rfl rfl)) ?_
          refine W.nil ?_
          refine then_n ?_
          refine W.fresh ?_
          intro r236 er237
          have s238 : r236 1 = .int .i64 id := (congrFun er237 1).trans s227
          have s239 : r236 2 = .pointer (some ⟨b3, 0, none⟩) := (congrFun er237 2).trans s228
          have s240 : r236 7 = .int .i64 ((i124 : Nat) : Int) := (congrFun er237 7).trans s229
          have s241 : r236 8 = .pointer (some ⟨b158, 0, none⟩) := (congrFun er237 8).trans s230
          have s242 : r236 9 = .int .i64 ((i221 : Nat) : Int) := (congrFun er237 9).trans s225
          have s243 : r236 101 = .bool (decide ((((i221 : Nat) : Int) : Int) < (((i124 : Nat) : Int) : Int))) := (congrFun er237 101).trans rfl
          clear er237
          refine W.cond rfl s243 (fun k244 => ?_) (fun k244 => ?_)
          · skip
            have lt232 : i221 < i124 := Int.ofNat_lt.1 (of_decide_eq_true k244)
            refine W.skip ?_
            refine then_n ?_
            refine W.seq ?_
            refine W.block ?_
            refine W.seq ?_
            refine A.begin' (cs := []) rfl ?_
            intro w245 g246
            have R247 := R233.gr g246
            have R248 := R234.gr g246
            have R249 := R235.gr g246
            have R250 := R226.gr g246
            have R251 : Chg [] w245 w245 := Chg.of_refl _ _
            refine A.take (i := 0) rfl (by kernel_rfl) (by kernel_rfl) (by kernel_rfl) (fun _ _ _ h => h) R251 rfl rfl (fun _ _ => (X.fieldAddr (ev' (.pointer (some ⟨b3, 0, none⟩)) rfl s239) fo24_2 (b := ⟨b3, 2, none⟩) (Addr.add_lit _ _ _))) ?_
            have h252 := h137.gr g159
            have h253 := h252.st c171 ne162
            have h254 := h253.gr g184
            have h255 := h254.gr g190
            have h256 := h255.gr R226
            have h257 := h256.gr g246
            refine A.take (i := 1) rfl (by kernel_rfl) (by kernel_rfl) (by kernel_rfl) (fun _ _ _ h => h) R251 rfl rfl (fun _ hw => (X.load (ev' (.pointer (some ⟨b3, 2, none⟩)) rfl rfl) pt22 (Blk.lc (h257.gr hw) rfl))) ?_
            refine A.take (i := 2) rfl (by kernel_rfl) (by kernel_rfl) (by kernel_rfl) (fun _ _ _ h => h) R251 rfl rfl (fun _ _ => (X.move (ev' (.int .i64 ((i221 : Nat) : Int)) rfl s242))) ?_
            have h260 := (h150.ext lt161).gr g159
            have h261 := h260.st c171 (.head _)
            have h262 := h261.gr g184
            have h263 := h262.gr g190
            have h264 := h263.gr R226
            have h265 := h264.gr g246
            obtain ⟨m258, hm259⟩ := some_of_lt (ht.r.len ▸ Nat.lt_trans lt232 lt134)
            obtain ⟨eb266, eo267, ha268, lt269, hr270⟩ := Sl.rowAt h265.r hm259
            refine A.take (i := 3) rfl (by kernel_rfl) (by kernel_rfl) (by kernel_rfl) (fun _ _ _ h => h) R251 rfl rfl (fun _ _ => (X.idx (b := ⟨eb266, eo267 + i221 * 43, none⟩) (evs ha268 (ev' (T.r.val) rfl rfl)) (ev' (.int .i64 ((i221 : Nat) : Int)) rfl rfl) (Int.natCast_nonneg _) (Int.ofNat_lt.2 lt269) st22 sz30 (Addr.add_lit _ _ _))) ?_
            refine A.take (i := 4) rfl (by kernel_rfl) (by kernel_rfl) (by kernel_rfl) (fun _ _ _ h => h) R251 rfl rfl (fun _ _ => (X.fieldAddr (ev' (.pointer (some ⟨eb266, eo267 + i221 * 43, none⟩)) rfl rfl) fo30_1 (b := ⟨eb266, eo267 + i221 * 43 + 1, none⟩) (Addr.add_lit _ _ _))) ?_
            refine A.take (i := 5) rfl (by kernel_rfl) (by kernel_rfl) (by kernel_rfl) (fun _ _ _ h => h) R251 rfl rfl (fun _ hw => (X.load (ev' (.pointer (some ⟨eb266, eo267 + i221 * 43 + 1, none⟩)) rfl rfl) pt3 (cell_of_rowM (k := 1) (hr270.gr hw).r (Msg.arr1 _)))) ?_
            refine A.take (i := 6) rfl (by kernel_rfl) (by kernel_rfl) (by kernel_rfl) (fun _ _ _ h => h) R251 rfl rfl (fun _ _ => (X.fieldAddr (ev' (.pointer (some ⟨b158, 0, none⟩)) rfl s241) fo30_1 (b := ⟨b158, 1, none⟩) (Addr.add_lit _ _ _))) ?_
            have h272 := h194.gr R226
            have h273 := h272.gr g246
            refine A.take (i := 7) rfl (by kernel_rfl) (by kernel_rfl) (by kernel_rfl) (fun _ _ _ h => h) R251 rfl rfl (fun _ hw => (X.load (ev' (.pointer (some ⟨b158, 1, none⟩)) rfl rfl) pt3 (Blk.lc (h273.gr hw) (Msg.arr1 _)))) ?_
            refine A.take (i := 8) rfl (by kernel_rfl) (by kernel_rfl) (by kernel_rfl) (fun _ _ _ h => h) R251 rfl rfl (fun _ _ => (X.eql (ev' (.int .i64 m258.frm) rfl rfl) (ev' (.int .i64 m145.frm) rfl rfl))) ?_
            refine A.take (i := 9) rfl (by kernel_rfl) (by kernel_rfl) (by kernel_rfl) (fun _ _ _ h => h) R251 rfl rfl (fun _ _ => (X.move (ev' (.bool ((m258.frm : Int) == (m145.frm : Int))) rfl rfl))) ?_
            refine A.takeG (i := 10) rfl (by kernel_rfl) (by kernel_rfl) (by kernel_rfl) (fun _ _ _ _ h => h) R251 rfl rfl rfl rfl rfl (fun _ _ _ => (X.fieldAddr (ev' (.pointer (some ⟨b3, 0, none⟩)) rfl s239) fo24_2 (b := ⟨b3, 2, none⟩) (Addr.add_lit _ _ _))) ?_
            refine A.takeG (i := 11) rfl (by kernel_rfl) (by kernel_rfl) (by kernel_rfl) (fun _ _ _ _ h => h) R251 rfl rfl rfl rfl rfl (fun hc _ hw => (X.load (ev' (.pointer (some ⟨b3, 2, none⟩)) rfl (gvt hc rfl)) pt22 (Blk.lc (h257.gr hw) rfl))) ?_
            refine A.takeG (i := 12) rfl (by kernel_rfl) (by kernel_rfl) (by kernel_rfl) (fun _ _ _ _ h => h) R251 rfl rfl rfl rfl rfl (fun _ _ _ => (X.move (ev' (.int .i64 ((i221 : Nat) : Int)) rfl s242))) ?_
            obtain ⟨eb274, eo275, ha276, lt277, hr278⟩ := Sl.rowAt h265.r hm259
            refine A.takeG (i := 13) rfl (by kernel_rfl) (by kernel_rfl) (by kernel_rfl) (fun _ _ _ _ h => h) R251 rfl rfl rfl rfl rfl (fun hc _ _ => (X.idx (b := ⟨eb274, eo275 + i221 * 43, none⟩) (evs ha276 (ev' (T.r.val) rfl (gvt hc rfl))) (ev' (.int .i64 ((i221 : Nat) : Int)) rfl (gvt hc rfl)) (Int.natCast_nonneg _) (Int.ofNat_lt.2 lt277) st22 sz30 (Addr.add_lit _ _ _))) ?_
            refine A.takeG (i := 14) rfl (by kernel_rfl) (by kernel_rfl) (by kernel_rfl) (fun _ _ _ _ h => h) R251 rfl rfl rfl rfl rfl (fun hc _ _ => (X.fieldAddr (ev' (.pointer (some ⟨eb274, eo275 + i221 * 43, none⟩)) rfl (gvt hc rfl)) fo30_3 (b := ⟨eb274, eo275 + i221 * 43 + 3, none⟩) (Addr.add_lit _ _ _))) ?_
            refine A.takeG (i := 15) rfl (by kernel_rfl) (by kernel_rfl) (by kernel_rfl) (fun _ _ _ _ h => h) R251 rfl rfl rfl rfl rfl (fun hc _ hw => (X.load (ev' (.pointer (some ⟨eb274, eo275 + i221 * 43 + 3, none⟩)) rfl (gvt hc rfl)) pt3 (cell_of_rowM (k := 3) (hr278.gr hw).r (Msg.arr3 _)))) ?_
            refine A.takeG (i := 16) rfl (by kernel_rfl) (by kernel_rfl) (by kernel_rfl) (fun _ _ _ _ h => h) R251 rfl rfl rfl rfl rfl (fun _ _ _ => (X.fieldAddr (ev' (.pointer (some ⟨b158, 0, none⟩)) rfl s241) fo30_3 (b := ⟨b158, 3, none⟩) (Addr.add_lit _ _ _))) ?_
            refine A.takeG (i := 17) rfl (by kernel_rfl) (by kernel_rfl) (by kernel_rfl) (fun _ _ _ _ h => h) R251 rfl rfl rfl rfl rfl (fun hc _ hw => (X.load (ev' (.pointer (some ⟨b158, 3, none⟩)) rfl (gvt hc rfl)) pt3 (Blk.lc (h273.gr hw) (Msg.arr3 _)))) ?_
            refine A.takeG (i := 18) rfl (by kernel_rfl) (by kernel_rfl) (by kernel_rfl) (fun _ _ _ _ h => h) R251 rfl rfl rfl rfl rfl (fun hc _ _ => (X.eql (ev' (.int .i64 m258.no) rfl (gvt hc rfl)) (ev' (.int .i64 m145.no) rfl (gvt hc rfl)))) ?_
            refine A.take (i := 19) rfl (by kernel_rfl) (by kernel_rfl) (by kernel_rfl) (fun _ _ _ h => h) R251 rfl rfl (fun _ _ => (X.and (ev' (.bool ((m258.frm : Int) == (m145.frm : Int))) rfl rfl) (ev' (gv (((m258.frm : Int) == (m145.frm : Int)) == true) (.bool ((m258.no : Int) == (m145.no : Int)))) rfl rfl))) ?_
            refine A.done (by kernel_rfl) ?_
            refine then_n ?_
            refine W.fresh ?_
            intro r280 er281
            have s282 : r280 1 = .int .i64 id := (congrFun er281 1).trans s238
            have s283 : r280 2 = .pointer (some ⟨b3, 0, none⟩) := (congrFun er281 2).trans s239
            have s284 : r280 7 = .int .i64 ((i124 : Nat) : Int) := (congrFun er281 7).trans s240
            have s285 : r280 8 = .pointer (some ⟨b158, 0, none⟩) := (congrFun er281 8).trans s241
            have s286 : r280 9 = .int .i64 ((i221 : Nat) : Int) := (congrFun er281 9).trans s242
            have s287 : r280 123 = .bool (((m258.frm : Int) == (m145.frm : Int)) && ((m258.no : Int) == (m145.no : Int))) := (congrFun er281 123).trans rfl
            clear er281
            refine W.cond rfl s287 (fun k288 => ?_) (fun k288 => ?_)
            · skip
              refine W.seq ?_
              refine W.reg ?_
              refine W.val rfl rfl (X.assign (evc' (.int .i64 480))) ?_
              refine W.nil ?_
              refine then_n ?_
              refine W.fresh ?_
              intro r289 er290
              have s291 : r289 4 = .int .i64 480 := (congrFun er290 4).trans rfl
              clear er290
              refine W.ret (inb_r (then_r (then_r (inb_r (inb_r (then_r (then_r (inb_r (then_r (retT rfl rfl (show _ = (.int .i64 480 : Value) from s291) ⟨?_, R247⟩))))))))))
              subst eq195
              subst eq19
              subst eq18
              exact congrArg (Value.int .i64) (chk_no fun h => nodup_no h.rn hm146 (key_mem lt232 hm259 k288))
            · skip
              refine W.skip ?_
              refine inb_n ?_
              refine then_n ?_
              refine W.reg ?_
              refine W.val rfl rfl (X.move (ev' (.int .i64 ((i221 : Nat) : Int)) rfl s286)) ?_
              refine W.val rfl rfl (X.inc (ev' (.int .i64 ((i221 : Nat) : Int)) rfl rfl) (evc' (.int .i64 1)) lt232 (Nat.le_trans (Nat.le_of_lt lt134) ht.r.bnd)) ?_
              refine W.val rfl rfl (X.assign (ev' (.int .i64 ((i221 + 1 : Nat) : Int)) rfl rfl)) ?_
              refine W.nil ?_
              refine then_n ?_
              exact ⟨_, rfl, lt232, rfl, R250, s282, s283, s284, s285, (Upto.step x231 hm259 k288)⟩
          · skip
            have ei292 : i221 = i124 := Nat.le_antisymm le224 (Nat.le_of_not_lt fun h => of_decide_eq_false k244 (Int.ofNat_lt.2 h))
            refine W.exit (then_x (then_x (inb_x ?_)))
            refine inb_n ?_
            refine then_n ?_
            refine W.reg ?_
            refine W.val rfl rfl (X.move (ev' (.int .i64 ((i124 : Nat) : Int)) rfl s240)) ?_
            refine W.val rfl rfl (X.inc (ev' (.int .i64 ((i124 : Nat) : Int)) rfl rfl) (evc' (.int .i64 1)) lt134 ht.r.bnd) ?_
            refine W.val rfl rfl (X.assign (ev' (.int .i64 ((i124 + 1 : Nat) : Int)) rfl rfl)) ?_
            refine W.nil ?_
            refine then_n ?_
            exact ⟨_, rfl, lt134, rfl, R235, s238, s239, (take_step hm146 x132 (by subst eq195; subst eq19; subst eq18; exact rc17_iff.1 k203)), (nodup_step x133 hm146 (UpK.not_mem (ei292 ▸ x231)))⟩
      · skip
        have ei293 : i124 = T.r.n := Nat.le_antisymm le127 (Nat.le_of_not_lt fun h => of_decide_eq_false k144 (Int.ofNat_lt.2 h))
        refine W.exit (then_x (then_x (inb_x ?_)))
        refine then_n ?_
        refine W.seq ?_
        refine W.seq ?_
        refine W.reg ?_
        refine W.val rfl rfl (X.assign (evc' (.int .i64 0))) ?_
        refine W.nil ?_
        refine then_n ?_
        refine W.fresh ?_
        intro r294 er295
        have s296 : r294 2 = .pointer (some ⟨b3, 0, none⟩) := (congrFun er295 2).trans s141
        have s297 : r294 10 = .int .i64 0 := (congrFun er295 10).trans rfl
        clear er295
        refine W.block ?_
        refine W.fresh ?_
        intro r298 er299
        have s300 : r298 2 = .pointer (some ⟨b3, 0, none⟩) := (congrFun er299 2).trans s296
        have s301 : r298 10 = .int .i64 0 := (congrFun er299 10).trans s297
        clear er299
        refine W.count 10 T.d.n (fun I ρ W => I ≤ T.d.n ∧ ρ 10 = .int .i64 ((I : Nat) : Int) ∧ Chg [] w126 W ∧ ρ 2 = .pointer (some ⟨b3, 0, none⟩) ∧ (∀ x ∈ t.done.take I, ok x = true ∧ answ x t.placed = true) ∧ ((t.done.take I).map Msg.no).Nodup) 0 rfl
          ⟨Nat.zero_le _, s301, Chg.of_refl _ _, s300, (take_zero _ _), (by simp)⟩ (fun I ρ W hJ => ⟨hJ.2.1, hJ.1⟩) ?_
        rintro i302 r303 w304 ⟨le305, s306, R307, s308, x309, x310⟩
        have R312 := R135.gr R307
        have R313 := R136.gr R307
        have R314 := R129.gr R307
        refine W.seq ?_
        refine W.seq ?_
        refine W.reg ?_
        refine W.val rfl rfl (X.move (ev' (.int .i64 ((i302 : Nat) : Int)) rfl s306)) ?_
        refine W.val rfl rfl (X.fieldAddr (ev' (.pointer (some ⟨b3, 0, none⟩)) rfl s308) fo24_3 (b := ⟨b3, 3, none⟩) (Addr.add_lit _ _ _)) ?_
        have h315 := h137.gr R307
        refine W.val rfl rfl (X.load (ev' (.pointer (some ⟨b3, 3, none⟩)) rfl rfl) pt22 (Blk.lc h315 rfl)) ?_
        refine W.val rfl rfl (X.len (ev' (T.d.val) rfl rfl) st22) ?_
        refine W.val rfl rfl (X.lss (ev' (.int .i64 ((i302 : Nat) : Int)) rfl rfl) (ev' (.int .i64 (T.d.n : Int)) rfl rfl)) ?_
        refine W.nil ?_
        refine then_n ?_
        refine W.fresh ?_
        intro r316 er317
        have s318 : r316 2 = .pointer (some ⟨b3, 0, none⟩) := (congrFun er317 2).trans s308
        have s319 : r316 10 = .int .i64 ((i302 : Nat) : Int) := (congrFun er317 10).trans s306
        have s320 : r316 128 = .bool (decide ((((i302 : Nat) : Int) : Int) < ((T.d.n : Int) : Int))) := (congrFun er317 128).trans rfl
        clear er317
        refine W.cond rfl s320 (fun k321 => ?_) (fun k321 => ?_)
        · skip
          have lt311 : i302 < T.d.n := Int.ofNat_lt.1 (of_decide_eq_true k321)
          refine W.skip ?_
          refine then_n ?_
          refine W.seq ?_
          refine W.block ?_
          refine W.seq ?_
          refine W.reg ?_
          refine W.val rfl rfl (X.fieldAddr (ev' (.pointer (some ⟨b3, 0, none⟩)) rfl s318) fo24_3 (b := ⟨b3, 3, none⟩) (Addr.add_lit _ _ _)) ?_
          refine W.val rfl rfl (X.load (ev' (.pointer (some ⟨b3, 3, none⟩)) rfl rfl) pt22 (Blk.lc h315 rfl)) ?_
          refine W.val rfl rfl (X.move (ev' (.int .i64 ((i302 : Nat) : Int)) rfl s319)) ?_
          have h324 := (ht.ext lt6).gr g4
          have h325 := h324.gr g15
          have h326 := h325.gr R44
          have h327 := h326.gr R129
          have h328 := h327.gr R307
          obtain ⟨m322, hm323⟩ := some_of_lt (h328.d.len ▸ lt311)
          obtain ⟨eb329, eo330, ha331, lt332, hr333⟩ := Sl.rowAt h328.d hm323
          refine W.val rfl rfl (X.idx (b := ⟨eb329, eo330 + i302 * 43, none⟩) (evs ha331 (ev' (T.d.val) rfl rfl)) (ev' (.int .i64 ((i302 : Nat) : Int)) rfl rfl) (Int.natCast_nonneg _) (Int.ofNat_lt.2 lt332) st22 sz30 (Addr.add_lit _ _ _)) ?_
          refine W.val rfl rfl (X.loadR (ev' (.pointer (some ⟨eb329, eo330 + i302 * 43, none⟩)) rfl rfl) rt30 hr333.r rfl) ?_
          refine W.eff rfl rfl (Y.alloc (cs := Msg.zero.arr) zero30 rfl) ?_
          rintro _ w335 ⟨b336, rfl, g337, hB338, lt339⟩
          have ne340 := h315.ne lt339
          have l341 := Nat.le_trans R312.size lt339
          have l342 := Nat.le_trans R313.size lt339
          have l343 := Nat.le_trans R314.size lt339
          have l344 := Nat.le_trans R307.size lt339
          have R345 := R312.gr g337
          have R346 := R313.gr g337
          have R347 := R314.gr g337
          have R348 := R307.gr g337
          refine W.eff0 rfl rfl (Y.storeW (ds := m322.arr) (ev' (.pointer (some ⟨b336, 0, none⟩)) rfl rfl) (ev' (.agg m322.arr) rfl rfl) hB338 (Msg.size_arr _) sz30 (Msg.size_arr _) (Msg.oneCellA _) rfl) ?_
          rintro w350 ⟨c351, hB352⟩
          have R353 := R345.stN c351 l341
          have R354 := R346.stN c351 l342
          have R355 := R347.stN c351 l343
          have R356 := R348.stN c351 l344
          refine W.nil ?_
          refine then_n ?_
          refine W.fresh ?_
          intro r358 er359
          have s360 : r358 2 = .pointer (some ⟨b3, 0, none⟩) := (congrFun er359 2).trans s318
          have s361 : r358 10 = .int .i64 ((i302 : Nat) : Int) := (congrFun er359 10).trans s319
          have s362 : r358 11 = .pointer (some ⟨b336, 0, none⟩) := (congrFun er359 11).trans rfl
          clear er359
          refine W.seq ?_
          by_cases hb363 : m322.no < (t.placed.length : Int) ∧ 0 ≤ m322.no
          · skip
            obtain ⟨x364, hx365⟩ := some_of_lt (show m322.no.toNat < t.placed.length from by omega)
            refine A.begin' (cs := []) rfl ?_
            intro w366 g367
            have R368 := R353.gr g367
            have R369 := R354.gr g367
            have R370 := R355.gr g367
            have R371 := R356.gr g367
            have R372 : Chg [] w366 w366 := Chg.of_refl _ _
            have h373 := hB352.gr g367
            refine A.take (i := 0) rfl (by kernel_rfl) (by kernel_rfl) (by kernel_rfl) (fun _ _ _ h => h) R372 rfl rfl (fun _ hw => (X.loadR (ev' (.pointer (some ⟨b336, 0, none⟩)) rfl s362) rt30 (row_blk_msg (h373.gr hw)) rfl)) ?_
            refine A.one (i := 1) (by kernel_rfl) ?_
            refine E.call (i := 1) rfl rfl rfl (X.callF go39 (args1 (ev' (.agg m322.arr) rfl rfl))) (of_c m322 _) ?_
            rintro _ w374 ⟨rfl, g375⟩
            have R376 := R368.gr g375
            have R377 := R369.gr g375
            have R378 := R370.gr g375
            have R379 := R371.gr g375
            have R380 := R372.gr g375
            refine ⟨R380, ?_⟩
            refine A.take (i := 2) rfl (by kernel_rfl) (by kernel_rfl) (by kernel_rfl) (fun _ _ _ h => h) R380 rfl rfl (fun _ _ => (X.not (ev' (.bool (ok m322)) rfl rfl))) ?_
            refine A.take (i := 3) rfl (by kernel_rfl) (by kernel_rfl) (by kernel_rfl) (fun _ _ _ h => h) R380 rfl rfl (fun _ _ => (X.move (ev' (.bool (!(ok m322))) rfl rfl))) ?_
            refine A.takeG (i := 4) rfl (by kernel_rfl) (by kernel_rfl) (by kernel_rfl) (fun _ _ _ _ h => h) R380 rfl rfl rfl rfl rfl (fun _ _ _ => (X.fieldAddr (ev' (.pointer (some ⟨b336, 0, none⟩)) rfl s362) fo30_3 (b := ⟨b336, 3, none⟩) (Addr.add_lit _ _ _))) ?_
            refine A.takeG (i := 5) rfl (by kernel_rfl) (by kernel_rfl) (by kernel_rfl) (fun _ _ _ _ h => h) R380 rfl rfl rfl rfl rfl (fun hc _ hw => (X.load (ev' (.pointer (some ⟨b336, 3, none⟩)) rfl (gvt hc rfl)) pt3 (Blk.lc (h373.gr hw) (Msg.arr3 _)))) ?_
            refine A.takeG (i := 6) rfl (by kernel_rfl) (by kernel_rfl) (by kernel_rfl) (fun _ _ _ _ h => h) R380 rfl rfl rfl rfl rfl (fun _ _ _ => (X.fieldAddr (ev' (.pointer (some ⟨b3, 0, none⟩)) rfl s360) fo24_1 (b := ⟨b3, 1, none⟩) (Addr.add_lit _ _ _))) ?_
            have h381 := h315.gr g337
            have h382 := h381.st c351 ne340
            have h383 := h382.gr g367
            refine A.takeG (i := 7) rfl (by kernel_rfl) (by kernel_rfl) (by kernel_rfl) (fun _ _ _ _ h => h) R380 rfl rfl rfl rfl rfl (fun hc _ hw => (X.load (ev' (.pointer (some ⟨b3, 1, none⟩)) rfl (gvt hc rfl)) pt22 (Blk.lc (h383.gr hw) rfl))) ?_
            refine A.takeG (i := 8) rfl (by kernel_rfl) (by kernel_rfl) (by kernel_rfl) (fun _ _ _ _ h => h) R380 rfl rfl rfl rfl rfl (fun hc _ _ => (X.len (ev' (T.p.val) rfl (gvt hc rfl)) st22)) ?_
            refine A.takeG (i := 9) rfl (by kernel_rfl) (by kernel_rfl) (by kernel_rfl) (fun _ _ _ _ h => h) R380 rfl rfl rfl rfl rfl (fun hc _ _ => (X.geq (ev' (.int .i64 m322.no) rfl (gvt hc rfl)) (ev' (.int .i64 (T.p.n : Int)) rfl (gvt hc rfl)))) ?_
            refine A.take (i := 10) rfl (by kernel_rfl) (by kernel_rfl) (by kernel_rfl) (fun _ _ _ h => h) R380 rfl rfl (fun _ _ => (X.or (ev' (.bool (!(ok m322))) rfl rfl) (ev' (gv ((!(ok m322)) == false) (.bool (decide (((T.p.n : Int) : Int) ≤ (m322.no : Int))))) rfl rfl))) ?_
            refine A.take (i := 11) rfl (by kernel_rfl) (by kernel_rfl) (by kernel_rfl) (fun _ _ _ h => h) R380 rfl rfl (fun _ _ => (X.move (ev' (.bool ((!(ok m322)) || (decide (((T.p.n : Int) : Int) ≤ (m322.no : Int))))) rfl rfl))) ?_
            refine A.takeG (i := 12) rfl (by kernel_rfl) (by kernel_rfl) (by kernel_rfl) (fun _ _ _ _ h => h) R380 rfl rfl rfl rfl rfl (fun _ _ hw => (X.loadR (ev' (.pointer (some ⟨b336, 0, none⟩)) rfl s362) rt30 (row_blk_msg (h373.gr hw)) rfl)) ?_
            refine A.takeG (i := 13) rfl (by kernel_rfl) (by kernel_rfl) (by kernel_rfl) (fun _ _ _ _ h => h) R380 rfl rfl rfl rfl rfl (fun _ _ _ => (X.fieldAddr (ev' (.pointer (some ⟨b3, 0, none⟩)) rfl s360) fo24_1 (b := ⟨b3, 1, none⟩) (Addr.add_lit _ _ _))) ?_
            refine A.takeG (i := 14) rfl (by kernel_rfl) (by kernel_rfl) (by kernel_rfl) (fun _ _ _ _ h => h) R380 rfl rfl rfl rfl rfl (fun hc _ hw => (X.load (ev' (.pointer (some ⟨b3, 1, none⟩)) rfl (gvt hc rfl)) pt22 (Blk.lc (h383.gr hw) rfl))) ?_
            refine A.takeG (i := 15) rfl (by kernel_rfl) (by kernel_rfl) (by kernel_rfl) (fun _ _ _ _ h => h) R380 rfl rfl rfl rfl rfl (fun _ _ _ => (X.fieldAddr (ev' (.pointer (some ⟨b336, 0, none⟩)) rfl s362) fo30_3 (b := ⟨b336, 3, none⟩) (Addr.add_lit _ _ _))) ?_
            refine A.takeG (i := 16) rfl (by kernel_rfl) (by kernel_rfl) (by kernel_rfl) (fun _ _ _ _ h => h) R380 rfl rfl rfl rfl rfl (fun hc _ hw => (X.load (ev' (.pointer (some ⟨b336, 3, none⟩)) rfl (gvt hc rfl)) pt3 (Blk.lc (h373.gr hw) (Msg.arr3 _)))) ?_
            have h384 := (h328.ext lt339).gr g337
            have h385 := h384.st c351 (.head _)
            have h386 := h385.gr g367
            obtain ⟨eb387, eo388, ha389, lt390, hr391⟩ := Sl.rowAt h386.p hx365
            refine A.takeG (i := 17) rfl (by kernel_rfl) (by kernel_rfl) (by kernel_rfl) (fun _ _ _ _ h => h) R380 rfl rfl rfl rfl rfl (fun hc _ _ => (X.idx (b := ⟨eb387, eo388 + m322.no.toNat * 43, none⟩) (evs ha389 (ev' (T.p.val) rfl (gvt hc rfl))) (ev' (.int .i64 m322.no) rfl (gvt hc rfl)) hb363.2 (idx_lt hb363.2 lt390) st22 sz30 (Addr.add_lit _ _ _))) ?_
            refine A.takeG (i := 18) rfl (by kernel_rfl) (by kernel_rfl) (by kernel_rfl) (fun _ _ _ _ h => h) R380 rfl rfl rfl rfl rfl (fun hc _ hw => (X.loadR (ev' (.pointer (some ⟨eb387, eo388 + m322.no.toNat * 43, none⟩)) rfl (gvt hc rfl)) rt30 (hr391.gr hw).r rfl)) ?_
            refine A.one (i := 19) (by kernel_rfl) ?_
            refine E.gcallS (i := 19) rfl rfl rfl rfl rfl rfl (fun hc => X.callF go46 (args1 (ev' (.agg x364.arr) rfl (gvt hc rfl)))) (fun _ => (ansR_c x364 _)) ?_
            intro w393 g394
            have R395 := R376.gr g394
            have R396 := R377.gr g394
            have R397 := R378.gr g394
            have R398 := R379.gr g394
            have R399 := R380.gr g394
            refine ⟨R399, ?_⟩
            refine A.one (i := 20) (by kernel_rfl) ?_
            refine E.gcallS (i := 20) rfl rfl rfl rfl rfl rfl (fun hc => X.callF go15 (args2 (ev' (.agg m322.arr) rfl (gvt hc rfl)) (ev' (.agg (ansR x364).arr) rfl (gvt hc rfl)))) (fun _ => (same_c m322 (ansR x364) _)) ?_
            intro w400 g401
            have R402 := R395.gr g401
            have R403 := R396.gr g401
            have R404 := R397.gr g401
            have R405 := R398.gr g401
            have R406 := R399.gr g401
            refine ⟨R406, ?_⟩
            refine A.takeG (i := 21) rfl (by kernel_rfl) (by kernel_rfl) (by kernel_rfl) (fun _ _ _ _ h => h) R406 rfl rfl rfl rfl rfl (fun hc _ _ => (X.not (ev' (.bool (same m322 (ansR x364))) rfl (gvt hc rfl)))) ?_
            refine A.take (i := 22) rfl (by kernel_rfl) (by kernel_rfl) (by kernel_rfl) (fun _ _ _ h => h) R406 rfl rfl (fun _ _ => (X.or (ev' (.bool ((!(ok m322)) || (decide (((T.p.n : Int) : Int) ≤ (m322.no : Int))))) rfl rfl) (ev' (gv (((!(ok m322)) || (decide (((T.p.n : Int) : Int) ≤ (m322.no : Int)))) == false) (.bool (!(same m322 (ansR x364))))) rfl rfl))) ?_
            refine A.take (i := 23) rfl (by kernel_rfl) (by kernel_rfl) (by kernel_rfl) (fun _ _ _ h => h) R406 rfl rfl (fun _ _ => (X.move (ev' (.bool (((!(ok m322)) || (decide (((T.p.n : Int) : Int) ≤ (m322.no : Int)))) || (!(same m322 (ansR x364))))) rfl rfl))) ?_
            refine A.takeG (i := 24) rfl (by kernel_rfl) (by kernel_rfl) (by kernel_rfl) (fun _ _ _ _ h => h) R406 rfl rfl rfl rfl rfl (fun _ _ _ => (X.fieldAddr (ev' (.pointer (some ⟨b3, 0, none⟩)) rfl s360) fo24_3 (b := ⟨b3, 3, none⟩) (Addr.add_lit _ _ _))) ?_
            refine A.takeG (i := 25) rfl (by kernel_rfl) (by kernel_rfl) (by kernel_rfl) (fun _ _ _ _ h => h) R406 rfl rfl rfl rfl rfl (fun hc _ hw => (X.load (ev' (.pointer (some ⟨b3, 3, none⟩)) rfl (gvt hc rfl)) pt22 (Blk.lc (h383.gr hw) rfl))) ?_
            refine A.takeG (i := 26) rfl (by kernel_rfl) (by kernel_rfl) (by kernel_rfl) (fun _ _ _ _ h => h) R406 rfl rfl rfl rfl rfl (fun _ _ _ => (X.move (ev' (.int .i64 ((i302 : Nat) : Int)) rfl s361))) ?_
            refine A.takeG (i := 27) rfl (by kernel_rfl) (by kernel_rfl) (by kernel_rfl) (fun _ _ _ _ h => h) R406 rfl rfl rfl rfl rfl (fun hc _ _ => (X.sliceHi (ev' (T.d.val) rfl (gvt hc rfl)) (ev' (.int .i64 ((i302 : Nat) : Int)) rfl (gvt hc rfl)) (Nat.le_trans (Nat.le_of_lt lt311) h386.d.cap))) ?_
            refine A.takeG (i := 28) rfl (by kernel_rfl) (by kernel_rfl) (by kernel_rfl) (fun _ _ _ _ h => h) R406 rfl rfl rfl rfl rfl (fun _ _ _ => (X.fieldAddr (ev' (.pointer (some ⟨b336, 0, none⟩)) rfl s362) fo30_3 (b := ⟨b336, 3, none⟩) (Addr.add_lit _ _ _))) ?_
            refine A.takeG (i := 29) rfl (by kernel_rfl) (by kernel_rfl) (by kernel_rfl) (fun _ _ _ _ h => h) R406 rfl rfl rfl rfl rfl (fun hc _ hw => (X.load (ev' (.pointer (some ⟨b336, 3, none⟩)) rfl (gvt hc rfl)) pt3 (Blk.lc (h373.gr hw) (Msg.arr3 _)))) ?_
            refine A.one (i := 30) (by kernel_rfl) ?_
            have h407 := h386.gr g375
            have h408 := h407.gr g394
            have h409 := h408.gr g401
            refine E.gcallS (i := 30) rfl rfl rfl rfl rfl rfl (fun hc => X.callF go47 (args2 (ev' ((cut T.d i302).val) rfl (gvt hc rfl)) (ev' (.int .i64 m322.no) rfl (gvt hc rfl)))) (fun _ => (hasNo_c m322.no _ (Sl.cut h409.d (Nat.le_of_lt lt311)))) ?_
            intro w410 g411
            have R412 := R402.gr g411
            have R413 := R403.gr g411
            have R414 := R404.gr g411
            have R415 := R405.gr g411
            have R416 := R406.gr g411
            refine ⟨R416, ?_⟩
            refine A.take (i := 31) rfl (by kernel_rfl) (by kernel_rfl) (by kernel_rfl) (fun _ _ _ h => h) R416 rfl rfl (fun _ _ => (X.or (ev' (.bool (((!(ok m322)) || (decide (((T.p.n : Int) : Int) ≤ (m322.no : Int)))) || (!(same m322 (ansR x364))))) rfl rfl) (ev' (gv ((((!(ok m322)) || (decide (((T.p.n : Int) : Int) ≤ (m322.no : Int)))) || (!(same m322 (ansR x364)))) == false) (.bool (hasNo m322.no (t.done.take i302)))) rfl rfl))) ?_
            refine A.done (by kernel_rfl) ?_
            refine then_n ?_
            refine W.fresh ?_
            intro r417 er418
            have s419 : r417 2 = .pointer (some ⟨b3, 0, none⟩) := (congrFun er418 2).trans s360
            have s420 : r417 10 = .int .i64 ((i302 : Nat) : Int) := (congrFun er418 10).trans s361
            have s421 : r417 167 = .bool ((((!(ok m322)) || (decide (((T.p.n : Int) : Int) ≤ (m322.no : Int)))) || (!(same m322 (ansR x364)))) || (hasNo m322.no (t.done.take i302))) := (congrFun er418 167).trans rfl
            clear er418
            refine W.cond rfl s421 (fun k422 => ?_) (fun k422 => ?_)
            · skip
              refine W.seq ?_
              refine W.reg ?_
              refine W.val rfl rfl (X.assign (evc' (.int .i64 480))) ?_
              refine W.nil ?_
              refine then_n ?_
              refine W.fresh ?_
              intro r423 er424
              have s425 : r423 4 = .int .i64 480 := (congrFun er424 4).trans rfl
              clear er424
              refine W.ret (inb_r (then_r (then_r (inb_r (then_r (retT rfl rfl (show _ = (.int .i64 480 : Value) from s425) ⟨?_, R412⟩))))))
              subst eq19
              subst eq18
              exact congrArg (Value.int .i64) (chk_no fun h => ff ((dn17_iff ht.p.len hb363 hx365 (up_mem (P := fun x => ok x = true ∧ begins x = true) x47 (ei113.trans ht.p.len) fun _ _ h => ⟨h.1, h.2.1⟩)).2 ⟨⟨(h.fine 2 (by omega)).2 _ (mem_of hm323), h.dn _ (mem_of hm323)⟩, nodup_no h.dd hm323⟩) k422)
            · skip
              refine W.skip ?_
              refine inb_n ?_
              refine then_n ?_
              refine W.reg ?_
              refine W.val rfl rfl (X.move (ev' (.int .i64 ((i302 : Nat) : Int)) rfl s420)) ?_
              refine W.val rfl rfl (X.inc (ev' (.int .i64 ((i302 : Nat) : Int)) rfl rfl) (evc' (.int .i64 1)) lt311 ht.d.bnd) ?_
              refine W.val rfl rfl (X.assign (ev' (.int .i64 ((i302 + 1 : Nat) : Int)) rfl rfl)) ?_
              refine W.nil ?_
              refine then_n ?_
              exact ⟨_, rfl, lt311, rfl, R415, s419, (take_step hm323 x309 ((dn17_iff ht.p.len hb363 hx365 (up_mem (P := fun x => ok x = true ∧ begins x = true) x47 (ei113.trans ht.p.len) fun _ _ h => ⟨h.1, h.2.1⟩)).1 k422).1), (nodup_step x310 hm323 ((dn17_iff ht.p.len hb363 hx365 (up_mem (P := fun x => ok x = true ∧ begins x = true) x47 (ei113.trans ht.p.len) fun _ _ h => ⟨h.1, h.2.1⟩)).1 k422).2)⟩
          · skip
            refine A.begin' (cs := []) rfl ?_
            intro w426 g427
            have R428 := R353.gr g427
            have R429 := R354.gr g427
            have R430 := R355.gr g427
            have R431 := R356.gr g427
            have R432 : Chg [] w426 w426 := Chg.of_refl _ _
            have h433 := hB352.gr g427
            refine A.take (i := 0) rfl (by kernel_rfl) (by kernel_rfl) (by kernel_rfl) (fun _ _ _ h => h) R432 rfl rfl (fun _ hw => (X.loadR (ev' (.pointer (some ⟨b336, 0, none⟩)) rfl s362) rt30 (row_blk_msg (h433.gr hw)) rfl)) ?_
            refine A.one (i := 1) (by kernel_rfl) ?_
            refine E.call (i := 1) rfl rfl rfl (X.callF go39 (args1 (ev' (.agg m322.arr) rfl rfl))) (of_c m322 _) ?_
            rintro _ w434 ⟨rfl, g435⟩
            have R436 := R428.gr g435
            have R437 := R429.gr g435
            have R438 := R430.gr g435
            have R439 := R431.gr g435
            have R440 := R432.gr g435
            refine ⟨R440, ?_⟩
            refine A.take (i := 2) rfl (by kernel_rfl) (by kernel_rfl) (by kernel_rfl) (fun _ _ _ h => h) R440 rfl rfl (fun _ _ => (X.not (ev' (.bool (ok m322)) rfl rfl))) ?_
            refine A.take (i := 3) rfl (by kernel_rfl) (by kernel_rfl) (by kernel_rfl) (fun _ _ _ h => h) R440 rfl rfl (fun _ _ => (X.move (ev' (.bool (!(ok m322))) rfl rfl))) ?_
            refine A.takeG (i := 4) rfl (by kernel_rfl) (by kernel_rfl) (by kernel_rfl) (fun _ _ _ _ h => h) R440 rfl rfl rfl rfl rfl (fun _ _ _ => (X.fieldAddr (ev' (.pointer (some ⟨b336, 0, none⟩)) rfl s362) fo30_3 (b := ⟨b336, 3, none⟩) (Addr.add_lit _ _ _))) ?_
            refine A.takeG (i := 5) rfl (by kernel_rfl) (by kernel_rfl) (by kernel_rfl) (fun _ _ _ _ h => h) R440 rfl rfl rfl rfl rfl (fun hc _ hw => (X.load (ev' (.pointer (some ⟨b336, 3, none⟩)) rfl (gvt hc rfl)) pt3 (Blk.lc (h433.gr hw) (Msg.arr3 _)))) ?_
            refine A.takeG (i := 6) rfl (by kernel_rfl) (by kernel_rfl) (by kernel_rfl) (fun _ _ _ _ h => h) R440 rfl rfl rfl rfl rfl (fun _ _ _ => (X.fieldAddr (ev' (.pointer (some ⟨b3, 0, none⟩)) rfl s360) fo24_1 (b := ⟨b3, 1, none⟩) (Addr.add_lit _ _ _))) ?_
            have h441 := h315.gr g337
            have h442 := h441.st c351 ne340
            have h443 := h442.gr g427
            refine A.takeG (i := 7) rfl (by kernel_rfl) (by kernel_rfl) (by kernel_rfl) (fun _ _ _ _ h => h) R440 rfl rfl rfl rfl rfl (fun hc _ hw => (X.load (ev' (.pointer (some ⟨b3, 1, none⟩)) rfl (gvt hc rfl)) pt22 (Blk.lc (h443.gr hw) rfl))) ?_
            refine A.takeG (i := 8) rfl (by kernel_rfl) (by kernel_rfl) (by kernel_rfl) (fun _ _ _ _ h => h) R440 rfl rfl rfl rfl rfl (fun hc _ _ => (X.len (ev' (T.p.val) rfl (gvt hc rfl)) st22)) ?_
            refine A.takeG (i := 9) rfl (by kernel_rfl) (by kernel_rfl) (by kernel_rfl) (fun _ _ _ _ h => h) R440 rfl rfl rfl rfl rfl (fun hc _ _ => (X.geq (ev' (.int .i64 m322.no) rfl (gvt hc rfl)) (ev' (.int .i64 (T.p.n : Int)) rfl (gvt hc rfl)))) ?_
            refine A.take (i := 10) rfl (by kernel_rfl) (by kernel_rfl) (by kernel_rfl) (fun _ _ _ h => h) R440 rfl rfl (fun _ _ => (X.or (ev' (.bool (!(ok m322))) rfl rfl) (ev' (gv ((!(ok m322)) == false) (.bool (decide (((T.p.n : Int) : Int) ≤ (m322.no : Int))))) rfl rfl))) ?_
            refine A.take (i := 11) rfl (by kernel_rfl) (by kernel_rfl) (by kernel_rfl) (fun _ _ _ h => h) R440 rfl rfl (fun _ _ => (X.move (ev' (.bool ((!(ok m322)) || (decide (((T.p.n : Int) : Int) ≤ (m322.no : Int))))) rfl rfl))) ?_
            refine A.takeGD (i := 12) rfl (by kernel_rfl) (by kernel_rfl) (by kernel_rfl) (fun _ _ _ _ h => h) R440 rfl rfl rfl rfl rfl (eq_tf (dead17 ht.p.len hb363)) ?_
            refine A.takeGD (i := 13) rfl (by kernel_rfl) (by kernel_rfl) (by kernel_rfl) (fun _ _ _ _ h => h) R440 rfl rfl rfl rfl rfl (eq_tf (dead17 ht.p.len hb363)) ?_
            refine A.takeGD (i := 14) rfl (by kernel_rfl) (by kernel_rfl) (by kernel_rfl) (fun _ _ _ _ h => h) R440 rfl rfl rfl rfl rfl (eq_tf (dead17 ht.p.len hb363)) ?_
            refine A.takeGD (i := 15) rfl (by kernel_rfl) (by kernel_rfl) (by kernel_rfl) (fun _ _ _ _ h => h) R440 rfl rfl rfl rfl rfl (eq_tf (dead17 ht.p.len hb363)) ?_
            refine A.takeGD (i := 16) rfl (by kernel_rfl) (by kernel_rfl) (by kernel_rfl) (fun _ _ _ _ h => h) R440 rfl rfl rfl rfl rfl (eq_tf (dead17 ht.p.len hb363)) ?_
            refine A.takeGD (i := 17) rfl (by kernel_rfl) (by kernel_rfl) (by kernel_rfl) (fun _ _ _ _ h => h) R440 rfl rfl rfl rfl rfl (eq_tf (dead17 ht.p.len hb363)) ?_
            refine A.takeGD (i := 18) rfl (by kernel_rfl) (by kernel_rfl) (by kernel_rfl) (fun _ _ _ _ h => h) R440 rfl rfl rfl rfl rfl (eq_tf (dead17 ht.p.len hb363)) ?_
            refine A.takeGD (i := 19) rfl (by kernel_rfl) (by kernel_rfl) (by kernel_rfl) (fun _ _ _ _ h => h) R440 rfl rfl rfl rfl rfl (eq_tf (dead17 ht.p.len hb363)) ?_
            refine A.takeGD (i := 20) rfl (by kernel_rfl) (by kernel_rfl) (by kernel_rfl) (fun _ _ _ _ h => h) R440 rfl rfl rfl rfl rfl (eq_tf (dead17 ht.p.len hb363)) ?_
            refine A.takeGD (i := 21) rfl (by kernel_rfl) (by kernel_rfl) (by kernel_rfl) (fun _ _ _ _ h => h) R440 rfl rfl rfl rfl rfl (eq_tf (dead17 ht.p.len hb363)) ?_
            refine A.take (i := 22) rfl (by kernel_rfl) (by kernel_rfl) (by kernel_rfl) (fun _ _ _ h => h) R440 rfl rfl (fun _ _ => (X.or (ev' (.bool ((!(ok m322)) || (decide (((T.p.n : Int) : Int) ≤ (m322.no : Int))))) rfl rfl) (ev' (gv (((!(ok m322)) || (decide (((T.p.n : Int) : Int) ≤ (m322.no : Int)))) == false) (.bool false)) rfl rfl))) ?_
            refine A.take (i := 23) rfl (by kernel_rfl) (by kernel_rfl) (by kernel_rfl) (fun _ _ _ h => h) R440 rfl rfl (fun _ _ => (X.move (ev' (.bool (((!(ok m322)) || (decide (((T.p.n : Int) : Int) ≤ (m322.no : Int)))) || false)) rfl rfl))) ?_
            refine A.takeGD (i := 24) rfl (by kernel_rfl) (by kernel_rfl) (by kernel_rfl) (fun _ _ _ _ h => h) R440 rfl rfl rfl rfl rfl (or_tf (dead17 ht.p.len hb363)) ?_
            refine A.takeGD (i := 25) rfl (by kernel_rfl) (by kernel_rfl) (by kernel_rfl) (fun _ _ _ _ h => h) R440 rfl rfl rfl rfl rfl (or_tf (dead17 ht.p.len hb363)) ?_
            refine A.takeGD (i := 26) rfl (by kernel_rfl) (by kernel_rfl) (by kernel_rfl) (fun _ _ _ _ h => h) R440 rfl rfl rfl rfl rfl (or_tf (dead17 ht.p.len hb363)) ?_
            refine A.takeGD (i := 27) rfl (by kernel_rfl) (by kernel_rfl) (by kernel_rfl) (fun _ _ _ _ h => h) R440 rfl rfl rfl rfl rfl (or_tf (dead17 ht.p.len hb363)) ?_
            refine A.takeGD (i := 28) rfl (by kernel_rfl) (by kernel_rfl) (by kernel_rfl) (fun _ _ _ _ h => h) R440 rfl rfl rfl rfl rfl (or_tf (dead17 ht.p.len hb363)) ?_
            refine A.takeGD (i := 29) rfl (by kernel_rfl) (by kernel_rfl) (by kernel_rfl) (fun _ _ _ _ h => h) R440 rfl rfl rfl rfl rfl (or_tf (dead17 ht.p.len hb363)) ?_
            refine A.takeGD (i := 30) rfl (by kernel_rfl) (by kernel_rfl) (by kernel_rfl) (fun _ _ _ _ h => h) R440 rfl rfl rfl rfl rfl (or_tf (dead17 ht.p.len hb363)) ?_
            refine A.take (i := 31) rfl (by kernel_rfl) (by kernel_rfl) (by kernel_rfl) (fun _ _ _ h => h) R440 rfl rfl (fun _ _ => (X.or (ev' (.bool (((!(ok m322)) || (decide (((T.p.n : Int) : Int) ≤ (m322.no : Int)))) || false)) rfl rfl) (ev' (gv ((((!(ok m322)) || (decide (((T.p.n : Int) : Int) ≤ (m322.no : Int)))) || false) == false) (.bool false)) rfl rfl))) ?_
            refine A.done (by kernel_rfl) ?_
            refine then_n ?_
            refine W.fresh ?_
            intro r444 er445
            have s446 : r444 2 = .pointer (some ⟨b3, 0, none⟩) := (congrFun er445 2).trans s360
            have s447 : r444 10 = .int .i64 ((i302 : Nat) : Int) := (congrFun er445 10).trans s361
            have s448 : r444 167 = .bool ((((!(ok m322)) || (decide (((T.p.n : Int) : Int) ≤ (m322.no : Int)))) || false) || false) := (congrFun er445 167).trans rfl
            clear er445
            refine W.cond rfl s448 (fun k449 => ?_) (fun k449 => ?_)
            · skip
              refine W.seq ?_
              refine W.reg ?_
              refine W.val rfl rfl (X.assign (evc' (.int .i64 480))) ?_
              refine W.nil ?_
              refine then_n ?_
              refine W.fresh ?_
              intro r450 er451
              have s452 : r450 4 = .int .i64 480 := (congrFun er451 4).trans rfl
              clear er451
              refine W.ret (inb_r (then_r (then_r (inb_r (then_r (retT rfl rfl (show _ = (.int .i64 480 : Value) from s452) ⟨?_, R436⟩))))))
              subst eq19
              subst eq18
              exact congrArg (Value.int .i64) (chk_no fun h => dn17_out hb363 (h.dn _ (mem_of hm323)))
            · skip
              refine W.skip ?_
              refine inb_n ?_
              refine then_n ?_
              refine W.reg ?_
              refine W.val rfl rfl (X.move (ev' (.int .i64 ((i302 : Nat) : Int)) rfl s447)) ?_
              refine W.val rfl rfl (X.inc (ev' (.int .i64 ((i302 : Nat) : Int)) rfl rfl) (evc' (.int .i64 1)) lt311 ht.d.bnd) ?_
              refine W.val rfl rfl (X.assign (ev' (.int .i64 ((i302 + 1 : Nat) : Int)) rfl rfl)) ?_
              refine W.nil ?_
              refine then_n ?_
              exact ⟨_, rfl, lt311, rfl, R439, s446, ((or3_ff (dead17 ht.p.len hb363) k449).elim), ((or3_ff (dead17 ht.p.len hb363) k449).elim)⟩
        · skip
          have ei453 : i302 = T.d.n := Nat.le_antisymm le305 (Nat.le_of_not_lt fun h => of_decide_eq_false k321 (Int.ofNat_lt.2 h))
          refine W.exit (then_x (then_x (inb_x ?_)))
          refine then_n ?_
          refine W.seq ?_
          refine W.reg ?_
          refine W.val rfl rfl (X.assign (evc' (.int .i64 0))) ?_
          refine W.nil ?_
          refine then_n ?_
          refine W.fresh ?_
          intro r454 er455
          have s456 : r454 4 = .int .i64 0 := (congrFun er455 4).trans rfl
          clear er455
          refine W.ret (retT rfl rfl (show _ = (.int .i64 0 : Value) from s456) ⟨?_, R312⟩)
          subst eq19
          subst eq18
          obtain ⟨⟨f1, f2⟩, f3⟩ := first17_yes ht.next ht.p.len ht.r.len ht.d.len k25
          have pa := Upto.all x47 (ei113.trans ht.p.len)
          have ra := take_all (ei293.trans ht.r.len) x132
          have da := take_all (ei453.trans ht.d.len) x309
          exact congrArg (Value.int .i64) (chk_yes ⟨f1, f2, fine3 f3 (fun x hx => ((up_mem (P := fun x => ok x = true ∧ begins x = true) x47 (ei113.trans ht.p.len) fun _ _ h => ⟨h.1, h.2.1⟩) x hx).1) (fun x hx => (ra x hx).1) (fun x hx => (da x hx).1), fun i m h => (pa i m h).2, fun x hx => (ra x hx).2, all_take ht.r.len ei293 x133, fun x hx => (da x hx).2, all_take ht.d.len ei453 x310⟩)

end Go.Proofs.Ytigimkmkbdnlpaa
