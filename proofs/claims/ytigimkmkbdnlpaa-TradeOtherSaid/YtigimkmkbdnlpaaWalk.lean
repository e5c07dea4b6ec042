/- What the printed walks call: enter, return, loops, cuts, effects. -/
import Derived.Test.YtigimkmkbdnlpaaMap
namespace Go.Proofs.Ytigimkmkbdnlpaa
open Go.RowKit

section
variable {N : Nat} {ρ : Ro} {w : World} {Q : Exit → Act → World → Prop}

theorem ev' {t : Nat} (v : Value) (h : Nat.blt t N = true) (hv : ρ t = v) : (mk N ρ).eval (.tmp t) = v := ev h hv
theorem evc' (v : Value) : (mk N ρ).eval (.const v) = v := rfl
theorem gvt {c : Bool} {t : Nat} {v : Value} (hc : c = true) (h : ρ t = gv c v) : ρ t = v := by rw [h, gv_yes v hc]
theorem evs {x : Operand} {s : SV} {A : Addr} (ha : s.a = some A) (h : (mk N ρ).eval x = s.val) : (mk N ρ).eval x = .slice (some A) s.n s.c := by rw [h, SV.val, ha]

theorem enter {f : FuncId} {fn : Func} {c : Code} {args : Array Value} {R : Value → World → Prop} (hf : Try.prog.funcs[f]? = some fn) (hb : fn.body = some c) (hN : fn.ntmps = N) (hs : Nat.ble args.size N = true)
    (h : ∀ ρ : Ro, (∀ t v, args[t]? = some v → ρ t = v) → CW c (bodyPost Try.prog fn (Ret R)) (mk N ρ) w) : Calls Try.prog f args w (Ret R) := by
  refine calls_of_wp hf hb ?_
  have hs' : args.size ≤ N := Nat.le_of_ble_eq_true hs
  have e : ({ tmps := args ++ Array.replicate (fn.ntmps - args.size) undef, defers := [] } : Act) = mk N (fun t => args.getD t undef) := by
    refine congrArg (fun x => Act.mk x []) ?_
    apply Array.ext
    · simp [hN]; omega
    · intro i h1 h2
      simp only [Array.getElem_ofFn]
      by_cases hi : i < args.size
      · rw [Array.getElem_append_left hi]; simp [hi]
      · rw [Array.getElem_append_right (by omega)]; simp [hi]
  rw [e]
  refine (h _ fun t v hv => ?_).h
  simp [hv]

theorem then_n {next : Act → World → Prop} {a : Act} (h : next a w) : Exit.then next Q .normal a w := h
theorem then_x {next : Act → World → Prop} {a : Act} {i : Nat} (h : Q (.exit i) a w) : Exit.then next Q (.exit i) a w := h
theorem then_r {next : Act → World → Prop} {a : Act} (h : Q .ret a w) : Exit.then next Q .ret a w := h
theorem inb_n {a : Act} {i : Nat} (h : Q .normal a w) : Exit.inBlock i Q .normal a w := h
theorem inb_r {a : Act} {i : Nat} (h : Q .ret a w) : Exit.inBlock i Q .ret a w := h
theorem inb_x {a : Act} {i : Nat} (h : Q .normal a w) : Exit.inBlock i Q (.exit i) a w := by simp [Exit.inBlock, h]
theorem inb_y {a : Act} {i j : Nat} (hij : (j == i) = false) (h : Q (.exit j) a w) : Exit.inBlock i Q (.exit j) a w := by
  have : j ≠ i := by simpa using hij
  simp [Exit.inBlock, this, h]

theorem W.reg {id : Nat} {l : List Oper} (h : WL l.toArray Q l (mk N ρ) w) : CW (Code.region id l.toArray false) Q (mk N ρ) w := ⟨wp_region_lit h.h⟩
theorem W.seq {x y : Code} (h : CW x (Exit.then (CW y Q) Q) (mk N ρ) w) : CW (Code.seq x y) Q (mk N ρ) w :=
  ⟨wp_seq (wp_mono h.h fun e a w' q => by cases e <;> first | exact q.h | exact q)⟩
theorem W.block {i : Nat} {x : Code} (h : CW x (Exit.inBlock i Q) (mk N ρ) w) : CW (Code.block i x) Q (mk N ρ) w := ⟨wp_block h.h⟩
theorem W.exit {i : Nat} (h : Q (.exit i) (mk N ρ) w) : CW (Code.exit i) Q (mk N ρ) w := ⟨wp_exit h⟩
theorem W.ret (h : Q .ret (mk N ρ) w) : CW Code.ret Q (mk N ρ) w := ⟨wp_ret h⟩
theorem W.skip (h : Q .normal (mk N ρ) w) : CW Code.skip Q (mk N ρ) w := ⟨wp_skip h⟩
/-- A fresh name for the frame. -/
theorem W.fresh {c : Code} (h : ∀ ρ', ρ' = ρ → CW c Q (mk N ρ') w) : CW c Q (mk N ρ) w := h ρ rfl
theorem W.cond {t : Nat} {x y : Code} {b : Bool} (ht : Nat.blt t N = true) (hv : ρ t = .bool b) (hx : b = true → CW x Q (mk N ρ) w) (hy : b = false → CW y Q (mk N ρ) w) : CW (Code.cond (.tmp t) x y) Q (mk N ρ) w :=
  ⟨wp_cond_split (ev ht hv) (fun e => (hx e).h) (fun e => (hy e).h)⟩
/-- A cut: what is known behind a piece of code, and how it goes on. -/
theorem W.cut {c : Code} (M : Act → World → Prop) (h : CW c (Exit.then M fun _ _ _ => False) (mk N ρ) w) (k : ∀ a w', M a w' → Q .normal a w') : CW c Q (mk N ρ) w :=
  ⟨wp_mono h.h fun e a w' q => by cases e <;> first | exact k a w' q | exact q.elim⟩
/-- A loop that counts. -/
theorem W.count {c : Code} (t n : Nat) (J : Nat → Ro → World → Prop) (i0 : Nat) (ht : Nat.blt t N = true) (h0 : J i0 ρ w) (hJ : ∀ i ρ w, J i ρ w → ρ t = .int .i64 (i : Int) ∧ i ≤ n)
    (round : ∀ i ρ w, J i ρ w → CW c (Exit.then (fun a' w' => ∃ ρ', a' = mk N ρ' ∧ J (i + 1) ρ' w') Q) (mk N ρ) w) : CW (Code.loop c) Q (mk N ρ) w := by
  refine ⟨wp_loop (fun a w => ∃ i ρ, a = mk N ρ ∧ J i ρ w) (fun a _ => n - (intOf (a.tmps.getD t undef)).toNat) ⟨i0, ρ, rfl, h0⟩ ?_⟩
  rintro a w ⟨i, ρ, rfl, hi⟩
  refine wp_mono (round i ρ w hi).h ?_
  intro e a w' q
  cases e with
  | normal =>
    obtain ⟨ρ', rfl, hi'⟩ := q
    refine ⟨⟨i + 1, ρ', rfl, hi'⟩, ?_⟩
    obtain ⟨e1, l1⟩ := hJ _ _ _ hi
    obtain ⟨e2, l2⟩ := hJ _ _ _ hi'
    rw [getD_mk ht, getD_mk ht, e1, e2]
    simp only [intOf, Int.toNat_natCast]
    omega
  | exit => exact q
  | goto => exact q
  | ret => exact q
  | panic => exact q
  | outgrown => exact q

/-! ### Returning -/
section
variable {fn : Func} {R : Value → World → Prop}
theorem ldv {ty : TypeId} {a : Addr} {v : Value} (h : (Instr.loadAt ty (.pointer (some a))).run Try.prog w = .ok v w) : (loadVar ty a).run Try.prog w = .ok v w := by
  have e : (Instr.loadAt ty (.pointer (some a))).run Try.prog w = (loadVar ty a).run Try.prog w := by simp [Instr.loadAt, Instr.sureAddr]
  rw [← e]; exact h
theorem sl {t : Nat} {v : Value} (ht : Nat.blt t N = true) (hv : ρ t = v) : (mk N ρ).tmps[t]?.getD undef = v := by
  have := (getD_mk (ρ := ρ) ht).trans hv
  simpa using this
theorem retT {t : Nat} {v : Value} (hr : fn.results = #[.tmp t]) (ht : Nat.blt t N = true) (hv : ρ t = v) (h : R v w) : bodyPost Try.prog fn (Ret R) .ret (mk N ρ) w :=
  ⟨rfl, v, by simp [results, hr, sl ht hv], h⟩
theorem retC {t : Nat} {ty : TypeId} {a : Addr} {v : Value} (hr : fn.results = #[.cell t ty]) (ht : Nat.blt t N = true) (hv : ρ t = .pointer (some a)) (hl : (Instr.loadAt ty (.pointer (some a))).run Try.prog w = .ok v w) (h : R v w) :
    bodyPost Try.prog fn (Ret R) .ret (mk N ρ) w :=
  ⟨rfl, v, by simp [results, hr, sl ht hv, asAddr, ldv hl], h⟩
theorem retTT {t u : Nat} {v v' : Value} (hr : fn.results = #[.tmp t, .tmp u]) (ht : Nat.blt t N = true) (hv : ρ t = v) (hu : Nat.blt u N = true) (hv' : ρ u = v') (h : R (.tuple #[v, v']) w) : bodyPost Try.prog fn (Ret R) .ret (mk N ρ) w :=
  ⟨rfl, _, by simp [results, hr, sl ht hv, sl hu hv'], h⟩
theorem retCCT {t t' u ty ty' : Nat} {a a' : Addr} {v v' v'' : Value} (hr : fn.results = #[.cell t ty, .cell t' ty', .tmp u]) (ht : Nat.blt t N = true) (hv : ρ t = .pointer (some a)) (hl : (Instr.loadAt ty (.pointer (some a))).run Try.prog w = .ok v w)
    (ht' : Nat.blt t' N = true) (hv' : ρ t' = .pointer (some a')) (hl' : (Instr.loadAt ty' (.pointer (some a'))).run Try.prog w = .ok v' w) (hu : Nat.blt u N = true) (hv'' : ρ u = v'') (h : R (.tuple #[v, v', v'']) w) :
    bodyPost Try.prog fn (Ret R) .ret (mk N ρ) w :=
  ⟨rfl, _, by simp [results, hr, sl ht hv, asAddr, ldv hl, sl ht' hv', ldv hl', sl hu hv''], h⟩
theorem retCTTT {t ty u u' u'' : Nat} {a : Addr} {v v1 v2 v3 : Value} (hr : fn.results = #[.cell t ty, .tmp u, .tmp u', .tmp u'']) (ht : Nat.blt t N = true) (hv : ρ t = .pointer (some a)) (hl : (Instr.loadAt ty (.pointer (some a))).run Try.prog w = .ok v w)
    (h1 : Nat.blt u N = true) (hv1 : ρ u = v1) (h2 : Nat.blt u' N = true) (hv2 : ρ u' = v2) (h3 : Nat.blt u'' N = true) (hv3 : ρ u'' = v3) (h : R (.tuple #[v, v1, v2, v3]) w) :
    bodyPost Try.prog fn (Ret R) .ret (mk N ρ) w :=
  ⟨rfl, _, by simp [results, hr, sl ht hv, asAddr, ldv hl, sl h1 hv1, sl h2 hv2, sl h3 hv3], h⟩
end

/-! ### Effects: an operation that turns the world, and what is known behind it -/
section
variable {ops : Array Oper} {rest : List Oper} {o : Oper} {K : Act → World → Prop} {i : Nat}
theorem W.eff {e : Nat} {R : Value → World → Prop} (hg : o.guard = none) (hd : o.dst = some e) (hx : ∃ v w', (execOp (mk N ρ).eval o).run Try.prog w = .ok (.value v) w' ∧ R v w')
    (k : ∀ v w', R v w' → WL ops Q rest (mk N (upd ρ e v)) w') : WL ops Q (o :: rest) (mk N ρ) w :=
  let ⟨v, w', h1, h2⟩ := hx
  W.val hg hd h1 (k v w' h2)
theorem W.eff0 {R : World → Prop} (hg : o.guard = none) (hd : o.dst = none) (hx : ∃ w', (execOp (mk N ρ).eval o).run Try.prog w = .ok .skip w' ∧ R w')
    (k : ∀ w', R w' → WL ops Q rest (mk N ρ) w') : WL ops Q (o :: rest) (mk N ρ) w :=
  let ⟨w', h1, h2⟩ := hx
  W.skp hg hd h1 (k w' h2)
theorem E.eff {e : Nat} {R : Value → World → Prop} (hi : ops[i]? = some o) (hg : o.guard = none) (hd : o.dst = some e) (hx : ∃ v w', (execOp (mk N ρ).eval o).run Try.prog w = .ok (.value v) w' ∧ R v w')
    (k : ∀ v w', R v w' → K (mk N (upd ρ e v)) w') : WO ops Q i K (mk N ρ) w :=
  let ⟨v, w', h1, h2⟩ := hx
  E.val hi hg hd h1 (k v w' h2)
theorem E.eff0 {R : World → Prop} (hi : ops[i]? = some o) (hg : o.guard = none) (hd : o.dst = none) (hx : ∃ w', (execOp (mk N ρ).eval o).run Try.prog w = .ok .skip w' ∧ R w')
    (k : ∀ w', R w' → K (mk N ρ) w') : WO ops Q i K (mk N ρ) w :=
  let ⟨w', h1, h2⟩ := hx
  E.skp hi hg hd h1 (k w' h2)
/-- A value under a name of its own. -/
theorem W.valN {e : Nat} {b : Bool} (hg : o.guard = none) (hd : o.dst = some e) (hx : (execOp (mk N ρ).eval o).run Try.prog w = .ok (.value (.bool b)) w)
    (k : ∀ q, q = b → WL ops Q rest (mk N (upd ρ e (.bool q))) w) : WL ops Q (o :: rest) (mk N ρ) w := W.val hg hd hx (k b rfl)
theorem W.gcallS {e j d : Nat} {want g : Bool} {f : FuncId} {args : Array Value} {u : Value} (hg : o.guard = some (j, want)) (hj : (ops[j]?).bind (·.dst) = some d) (hdN : Nat.blt d N = true) (hv : ρ d = .bool g) (hd : o.dst = some e)
    (hx : (g == want) = true → (execOp (mk N ρ).eval o).run Try.prog w = .ok (.enter f args) w)
    (hc : (g == want) = true → Calls Try.prog f args w (Ret fun v w' => v = u ∧ Grow w w'))
    (k : ∀ w', Grow w w' → WL ops Q rest (mk N (upd ρ e (gv (g == want) u))) w') : WL ops Q (o :: rest) (mk N ρ) w := by
  refine W.gcall hg hj hdN hv hd hx hc fun v w' h1 h2 => ?_
  cases hcc : (g == want) with
  | true =>
    obtain ⟨rfl, hw⟩ := h1 hcc
    have := k w' hw
    rw [hcc] at this
    exact this
  | false =>
    have := k w (Chg.refl w)
    rw [hcc] at this
    rw [h2 hcc]
    exact this
theorem E.gcallS {e j d : Nat} {want g : Bool} {f : FuncId} {args : Array Value} {u : Value} (hi : ops[i]? = some o) (hg : o.guard = some (j, want)) (hj : (ops[j]?).bind (·.dst) = some d) (hdN : Nat.blt d N = true) (hv : ρ d = .bool g) (hd : o.dst = some e)
    (hx : (g == want) = true → (execOp (mk N ρ).eval o).run Try.prog w = .ok (.enter f args) w)
    (hc : (g == want) = true → Calls Try.prog f args w (Ret fun v w' => v = u ∧ Grow w w'))
    (k : ∀ w', Grow w w' → K (mk N (upd ρ e (gv (g == want) u))) w') : WO ops Q i K (mk N ρ) w := by
  refine E.gcall hi hg hj hdN hv hd hx hc fun v w' h1 h2 => ?_
  cases hcc : (g == want) with
  | true =>
    obtain ⟨rfl, hw⟩ := h1 hcc
    have := k w' hw
    rw [hcc] at this
    exact this
  | false =>
    have := k w (Chg.refl w)
    rw [hcc] at this
    rw [h2 hcc]
    exact this
theorem A.begin' {id : Nat} {l : List Oper} {n : Nat} {cs : List Nat} (hn : l.length = n) (h : ∀ w', Grow w w' → WA l.toArray Q (Chg cs w') n (Array.replicate n false) (mk N ρ) w') : CW (Code.region id l.toArray true) Q (mk N ρ) w :=
  A.begin hn (h _ (Grow.drew1 w))
end

theorem Chg.stN {cs : List Nat} {a w w' : World} {b : Nat} (h : Chg cs a w) (c : Chg [b] w w') (hb : a.heap.size ≤ b) : Chg cs a w' :=
  (h.trans c).more (by intro x hx; simp only [List.mem_append, List.mem_cons, List.not_mem_nil, or_false] at hx; rcases hx with hx | rfl; exact .inl hx; exact .inr hb)
theorem Chg.stO {cs : List Nat} {a w w' : World} {b : Nat} (h : Chg cs a w) (c : Chg [b] w w') (hm : b ∈ cs) : Chg cs a w' :=
  (h.trans c).more (by intro x hx; simp only [List.mem_append, List.mem_cons, List.not_mem_nil, or_false] at hx; rcases hx with hx | rfl; exact .inl hx; exact .inl hm)
theorem Chg.of_refl (cs : List Nat) (w : World) : Chg cs w w := (Chg.refl w).more (by simp)
theorem Sl.st {bs : List Nat} {w w' : World} {s : SV} {ms : List Msg} {b : Nat} (h : Sl bs w s ms) (c : Chg [b] w w') (hm : b ∈ bs) : Sl bs w' s ms := h.chg c (by simp [hm])
theorem Tr.st {bs : List Nat} {w w' : World} {T : TV} {t : Trade} {b : Nat} (h : Tr bs w T t) (c : Chg [b] w w') (hm : b ∈ bs) : Tr bs w' T t := h.chg c (by simp [hm])
theorem Mp.st {α : Type} {f : α → Value} {w w' : World} {r : Nat} {ks : List α} {b : Nat} (h : Mp f w r ks) (c : Chg [b] w w') (hm : r ≠ b) : Mp f w' r ks := h.chg c (by simpa using hm)
theorem Blk.ne {w : World} {b b' : Nat} {t : TypeId} {cs : Array Value} (h : Blk w b t cs) (hb : w.heap.size ≤ b') : b ≠ b' := by have := h.lt; omega
theorem Mp.ne {α : Type} {f : α → Value} {w : World} {r b' : Nat} {ks : List α} (h : Mp f w r ks) (hb : w.heap.size ≤ b') : r ≠ b' := by have := h.lt; omega
/-- All these blocks are there. -/
def LtAll (bs : List Nat) (w : World) : Prop := ∀ b ∈ bs, b < w.heap.size
theorem LtAll.gr {bs cs : List Nat} {w w' : World} (h : LtAll bs w) (r : Chg cs w w') : LtAll bs w' := fun b hb => Nat.lt_of_lt_of_le (h b hb) r.size
theorem LtAll.new {bs cs : List Nat} {w w' : World} {b : Nat} (h : LtAll bs w) (r : Chg cs w w') (hb : b < w'.heap.size) : LtAll (b :: bs) w' := by
  intro c hc
  simp only [List.mem_cons] at hc
  rcases hc with rfl | hc
  · exact hb
  · exact h.gr r c hc
theorem row_blk_msg {w : World} {b : Nat} {t : TypeId} {m : Msg} (h : Blk w b t m.arr) : row w ⟨b, 0, none⟩ 43 = some m.list :=
  h.row (by simp [Msg.arr]; rw [List.take_of_length_le]; rw [m.length_list]; omega) m.length_list
theorem row_blk_trade {w : World} {b : Nat} {t : TypeId} {T : TV} (h : Blk w b t T.arr) : row w ⟨b, 0, none⟩ 4 = some T.arr.toList := h.row (by simp [TV.arr]) rfl
theorem row_blk_seal {w : World} {b : Nat} {t : TypeId} {m : Msg} (h : Blk w b t m.arr) : row w ⟨b, 11, none⟩ 32 = some (m.sl.map (Value.int .u8)) := by
  have := row_seal_of_row (row_blk_msg h)
  simpa [Addr.add_lit] using this

section
variable {dst : Option Tmp} {ty : TypeId} {pos : String} {aft : Array Edge} {g : Option (Nat × Bool)}
def NewB (t : TypeId) (cs : Array Value) (w : World) (v : Value) (w' : World) : Prop := ∃ b, v = .pointer (some ⟨b, 0, none⟩) ∧ Grow w w' ∧ Blk w' b t cs ∧ w.heap.size ≤ b
theorem newB (t : TypeId) (cs : Array Value) (w : World) : NewB t cs w (.pointer (some ⟨w.heap.size, 0, none⟩)) (w.alloc (.cells cs t)) := ⟨_, rfl, Grow.alloc _ _, Blk.new _ _ _, Nat.le_refl _⟩
theorem Y.box {t : TypeId} {x : Operand} {v : Value} {cs : Array Value} (hx : (mk N ρ).eval x = v) (hc : v.cells = cs) :
    ∃ u w', (execOp (mk N ρ).eval ⟨dst, .box t x, ty, pos, aft, g⟩).run Try.prog w = .ok (.value u) w' ∧ NewB t cs w u w' := ⟨_, _, X.box hx hc, newB _ _ _⟩
theorem Y.alloc {t : TypeId} {z : Value} {cs : Array Value} (hz : ∀ w, (zeroValue t).run Try.prog w = .ok z w) (hc : z.cells = cs) :
    ∃ u w', (execOp (mk N ρ).eval ⟨dst, .alloc t, ty, pos, aft, g⟩).run Try.prog w = .ok (.value u) w' ∧ NewB t cs w u w' := ⟨_, _, X.alloc (hz w) hc, newB _ _ _⟩
theorem Y.storeW {t t' : TypeId} {x y : Operand} {b n : Nat} {cs ds : Array Value} {v : Value} (hx : (mk N ρ).eval x = .pointer (some ⟨b, 0, none⟩)) (hy : (mk N ρ).eval y = v) (hB : Blk w b t cs) (hn : cs.size = n) (hs : sizeT t' n = true)
    (hv : v.cells.size = n) (h1 : ∀ u ∈ v.cells.toList, u.oneCell' = true) (hd : v.cells = ds) :
    ∃ w', (execOp (mk N ρ).eval ⟨none, .store t' x y, ty, pos, aft, g⟩).run Try.prog w = .ok .skip w' ∧ (Chg [b] w w' ∧ Blk w' b t ds) := by
  subst hn; subst hd
  obtain ⟨w', e1, e2, e3⟩ := run_storeVar_whole (t' := t') hB hs hv h1
  exact ⟨w', X.store hx hy e1, e3, e2⟩
theorem Y.storeC {t t' : TypeId} {x y : Operand} {b i : Nat} {cs ds : Array Value} {v : Value} (hx : (mk N ρ).eval x = .pointer (some ⟨b, i, none⟩)) (hy : (mk N ρ).eval y = v) (hB : Blk w b t cs) (hi : i < cs.size) (hs : sizeT t' 1 = true)
    (hv : v.cells = #[v]) (h1 : v.oneCell' = true) (hd : cs.setIfInBounds i v = ds) :
    ∃ w', (execOp (mk N ρ).eval ⟨none, .store t' x y, ty, pos, aft, g⟩).run Try.prog w = .ok .skip w' ∧ (Chg [b] w w' ∧ Blk w' b t ds) := by
  subst hd
  obtain ⟨w', e1, e2, e3⟩ := run_storeVar_cell (t' := t') hB hs hi hv h1
  exact ⟨w', X.store hx hy e1, e3, e2⟩
theorem Y.storeP {t t' : TypeId} {x y : Operand} {b i n : Nat} {cs ds : Array Value} {v : Value} (hx : (mk N ρ).eval x = .pointer (some ⟨b, i, none⟩)) (hy : (mk N ρ).eval y = v) (hB : Blk w b t cs) (hs : sizeT t' n = true) (hv : v.cells.size = n)
    (hi : i + n ≤ cs.size) (h1 : ∀ u ∈ v.cells.toList, u.oneCell' = true) (hd : wr cs i v.cells.toList = ds) :
    ∃ w', (execOp (mk N ρ).eval ⟨none, .store t' x y, ty, pos, aft, g⟩).run Try.prog w = .ok .skip w' ∧ (Chg [b] w w' ∧ Blk w' b t ds) := by
  subst hd
  obtain ⟨w', e1, e2, e3⟩ := run_storeVar_part (t' := t') hB hs hv hi h1
  exact ⟨w', X.store hx hy e1, e3, e2⟩
/-- A slice of one message that has just been laid. -/
theorem Sl.one {bs : List Nat} {w w' : World} {b : Nat} {m : Msg} (hB : Blk w' b 30 m.arr) (hb : w.heap.size ≤ b) (hl : LtAll bs w) : Sl bs w' ⟨some ⟨b, 0, none⟩, 1, 1⟩ [m] :=
  ⟨rfl, Nat.le_refl _, fun h => by simp at h, by simp, fun _ => ⟨b, 0, rfl, hB.lt, fun hc => by have := hl b hc; omega, fun i m' hi => by
    cases i with
    | zero => simp at hi; subst hi; exact row_blk_msg hB
    | succ i => simp at hi⟩⟩
theorem Y.slice1 {bs : List Nat} {x : Operand} {m : Msg} (hx : (mk N ρ).eval x = .agg m.arr) (hl : LtAll bs w) :
    ∃ u w', (execOp (mk N ρ).eval ⟨dst, .buildSlice 22 1 #[(0, x)], ty, pos, aft, g⟩).run Try.prog w = .ok (.value u) w' ∧ (∃ s : SV, u = s.val ∧ Grow w w' ∧ Sl bs w' s [m]) :=
  ⟨_, _, X.slice1 hx, ⟨some ⟨w.heap.size, 0, none⟩, 1, 1⟩, rfl, Grow.alloc _ _, Sl.one (Blk.new _ _ _) (Nat.le_refl _) hl⟩
theorem Y.slice0 {bs : List Nat} : ∃ u w', (execOp (mk N ρ).eval ⟨dst, .buildSlice 22 0 #[], ty, pos, aft, g⟩).run Try.prog w = .ok (.value u) w' ∧ (∃ s : SV, u = s.val ∧ Grow w w' ∧ Sl bs w' s [] ∧ s.c = 0) :=
  ⟨_, _, X.slice0, ⟨some ⟨w.heap.size, 0, none⟩, 0, 0⟩, rfl, Grow.alloc _ _, ⟨rfl, Nat.le_refl _, fun h => by simp at h, by simp, fun h => by simp at h⟩, rfl⟩
theorem Y.append {bs : List Nat} {x y : Operand} {s u : SV} {ms ns : List Msg} (hx : (mk N ρ).eval x = s.val) (hy : (mk N ρ).eval y = u.val) (hs : Sl bs w s ms) (hu : Sl bs w u ns)
    (hfull : s.c = s.n) (hne : ns ≠ []) (hlen : ms.length + ns.length ≤ 100000) (hl : LtAll bs w) :
    ∃ v w', (execOp (mk N ρ).eval ⟨dst, .call { callee := .builtin .append, args := #[x, y], argTypes := #[22, 22] }, ty, pos, aft, g⟩).run Try.prog w = .ok (.value v) w' ∧ (∃ r : SV, v = r.val ∧ Grow w w' ∧ Sl bs w' r (ms ++ ns)) := by
  obtain ⟨r, w', h1, h2, h3⟩ := X.appendFull (dst := dst) (ty := ty) (pos := pos) (aft := aft) (g := g) hx hy hs hu hfull hne hlen hl
  exact ⟨_, _, h1, r, rfl, h3, h2⟩
theorem Y.makeMap {α : Type} (f : α → Value) {t : TypeId} : ∃ v w', (execOp (mk N ρ).eval ⟨dst, .makeMap t none, ty, pos, aft, g⟩).run Try.prog w = .ok (.value v) w' ∧ (∃ r, v = .map (some r) ∧ Grow w w' ∧ Mp f w' r [] ∧ w.heap.size ≤ r) :=
  ⟨_, _, X.makeMap, _, rfl, Grow.alloc _ _, Mp.new _ _, Nat.le_refl _⟩
theorem Y.update {α : Type} [DecidableEq α] {f : α → Value} {K T : TypeId} {x y z : Operand} {r : Nat} {k : α} {ks : List α} (hF : Finds K f) (hT : Try.prog.underlying T = some (.map K 4)) (hx : (mk N ρ).eval x = .map (some r)) (hy : (mk N ρ).eval y = f k) (hz : (mk N ρ).eval z = .bool true) (hm : Mp f w r ks) :
    ∃ w', (execOp (mk N ρ).eval ⟨none, .mapUpdate T x y z, ty, pos, aft, g⟩).run Try.prog w = .ok .skip w' ∧ (Chg [r] w w' ∧ Mp f w' r (if k ∈ ks then ks else ks ++ [k])) := by
  obtain ⟨w', h1, h2, h3⟩ := X.update (ty := ty) (pos := pos) (aft := aft) (g := g) hF hT hx hy hz hm
  exact ⟨w', h1, h3, h2⟩
theorem args1 {x : Operand} {a : Value} (h : (mk N ρ).eval x = a) : (#[x] : Array Operand).map (mk N ρ).eval = #[a] := by simp [h]
theorem args2 {x y : Operand} {a b : Value} (h : (mk N ρ).eval x = a) (h2 : (mk N ρ).eval y = b) : (#[x, y] : Array Operand).map (mk N ρ).eval = #[a, b] := by simp [h, h2]
theorem args3 {x y z : Operand} {a b c : Value} (h : (mk N ρ).eval x = a) (h2 : (mk N ρ).eval y = b) (h3 : (mk N ρ).eval z = c) : (#[x, y, z] : Array Operand).map (mk N ρ).eval = #[a, b, c] := by simp [h, h2, h3]
theorem X.inc {x y : Operand} {t t' : TypeId} {i n : Nat} (hx : (mk N ρ).eval x = .int .i64 (i : Int)) (hy : (mk N ρ).eval y = .int .i64 1) (h1 : i < n) (h2 : n ≤ 9223372036854775807) :
    (execOp (mk N ρ).eval ⟨dst, .binOp .add t x y t', ty, pos, aft, g⟩).run Try.prog w = .ok (.value (.int .i64 ((i + 1 : Nat) : Int))) w := by
  have := X.addIn (dst := dst) (ty := ty) (pos := pos) (aft := aft) (g := g) (w := w) (t := t) (t' := t') hx hy (by omega) (by omega)
  rw [this]
  rfl
end
end
theorem some_of_lt {α : Type} {l : List α} {i : Nat} (h : i < l.length) : ∃ a, l[i]? = some a := ⟨l[i], List.getElem?_eq_getElem h⟩
/-- A message lies in memory at b, o. -/
structure RowM (bs : List Nat) (w : World) (b o : Nat) (m : Msg) : Prop where
  lt : b < w.heap.size
  ne : b ∉ bs
  r : row w ⟨b, o, none⟩ 43 = some m.list
section
variable {bs : List Nat} {w w' : World} {b o : Nat} {m : Msg}
theorem RowM.chg {cs : List Nat} (h : RowM bs w b o m) (r : Chg cs w w') (hn : ∀ c ∈ cs, c ∈ bs ∨ w.heap.size ≤ c) : RowM bs w' b o m :=
  ⟨Nat.lt_of_lt_of_le h.lt r.size, h.ne, by
    have hbc : b ∉ cs := fun hc => by
      rcases hn b hc with h1 | h1
      · exact h.ne h1
      · have := h.lt; omega
    rw [row_of_block 43 (r.block b h.lt hbc)]; exact h.r⟩
theorem RowM.gr (h : RowM bs w b o m) (r : Grow w w') : RowM bs w' b o m := h.chg r (by simp)
theorem RowM.st {c : Nat} (h : RowM bs w b o m) (r : Chg [c] w w') (hm : c ∈ bs) : RowM bs w' b o m := h.chg r (by simp [hm])
theorem RowM.ext {c : Nat} (h : RowM bs w b o m) (hb : w.heap.size ≤ c) : RowM (c :: bs) w b o m :=
  ⟨h.lt, by simp only [List.mem_cons, not_or]; exact ⟨by have := h.lt; omega, h.ne⟩, h.r⟩
theorem Sl.rowAt {s : SV} {ms : List Msg} (h : Sl bs w s ms) {i : Nat} (hi : ms[i]? = some m) : ∃ b o, s.a = some ⟨b, o, none⟩ ∧ i < s.n ∧ RowM bs w b (o + i * 43) m := by
  have hlt : i < ms.length := by
    rcases Nat.lt_or_ge i ms.length with h1 | h1
    · exact h1
    · rw [List.getElem?_eq_none h1] at hi; cases hi
  obtain ⟨b, o, ha, hb, hn, hr⟩ := h.mem (by rw [h.len]; omega)
  exact ⟨b, o, ha, by rw [h.len]; exact hlt, hb, hn, hr i m hi⟩
end
theorem idx_lt {e : Int} {n : Nat} (h0 : 0 ≤ e) (h : e.toNat < n) : e < (n : Int) := by omega
theorem Msg.set0 (m : Msg) (k : Int) : m.arr.setIfInBounds 0 (.int .i64 k) = ({ m with kind := k } : Msg).arr := rfl
theorem Msg.set1 (m : Msg) (k : Int) : m.arr.setIfInBounds 1 (.int .i64 k) = ({ m with frm := k } : Msg).arr := rfl
theorem Msg.set2 (m : Msg) (k : Int) : m.arr.setIfInBounds 2 (.int .i64 k) = ({ m with to := k } : Msg).arr := rfl
theorem Msg.set3 (m : Msg) (k : Int) : m.arr.setIfInBounds 3 (.int .i64 k) = ({ m with no := k } : Msg).arr := rfl
theorem Msg.set4 (m : Msg) (k : Int) : m.arr.setIfInBounds 4 (.int .i64 k) = ({ m with item := k } : Msg).arr := rfl
theorem Msg.set5 (m : Msg) (k : Int) : m.arr.setIfInBounds 5 (.int .i64 k) = ({ m with amount := k } : Msg).arr := rfl
theorem Msg.set6 (m : Msg) (k : Int) : m.arr.setIfInBounds 6 (.int .i64 k) = ({ m with day := k } : Msg).arr := rfl
theorem Msg.set7 (m : Msg) (k : Int) : m.arr.setIfInBounds 7 (.int .i64 k) = ({ m with label := k } : Msg).arr := rfl

/-! ### Closed facts on the program's tables -/
theorem pt3 : plainT 3 = true := by kernel_rfl
theorem pt4 : plainT 4 = true := by kernel_rfl
theorem pt5 : plainT 5 = true := by kernel_rfl
theorem pt22 : plainT 22 = true := by kernel_rfl
theorem pt25 : plainT 25 = true := by kernel_rfl
theorem pt26 : plainT 26 = true := by kernel_rfl
theorem pt34 : plainT 34 = true := by kernel_rfl
theorem pt47 : plainT 47 = true := by kernel_rfl
theorem rt30 : rowT 30 43 = true := by kernel_rfl
theorem sz30 : sizeT 30 43 = true := by kernel_rfl
theorem rt28 : rowT 28 32 = true := by kernel_rfl
theorem sz28 : sizeT 28 32 = true := by kernel_rfl
theorem rt24 : rowT 24 4 = true := by kernel_rfl
theorem sz24 : sizeT 24 4 = true := by kernel_rfl
theorem rt50 : rowT 50 12 = true := by kernel_rfl
theorem sz50 : sizeT 50 12 = true := by kernel_rfl
theorem rt52 : rowT 52 45 = true := by kernel_rfl
theorem sz52 : sizeT 52 45 = true := by kernel_rfl
theorem rt118 : rowT 118 8 = true := by kernel_rfl
theorem sz118 : sizeT 118 8 = true := by kernel_rfl
theorem rt83 : rowT 83 2 = true := by kernel_rfl
theorem sz83 : sizeT 83 2 = true := by kernel_rfl
theorem sz3 : sizeT 3 1 = true := by kernel_rfl
theorem sz4 : sizeT 4 1 = true := by kernel_rfl
theorem sz5 : sizeT 5 1 = true := by kernel_rfl
theorem sz22 : sizeT 22 1 = true := by kernel_rfl
theorem sz34 : sizeT 34 1 = true := by kernel_rfl
theorem st22 : sliceT 22 30 = true := by kernel_rfl
theorem st25 : sliceT 25 3 = true := by kernel_rfl
theorem st26 : sliceT 26 199 = true := by kernel_rfl
theorem st47 : sliceT 47 52 = true := by kernel_rfl
theorem st80 : sliceT 80 22 = true := by kernel_rfl
theorem it5 : intT 5 = true := by kernel_rfl
theorem fo24_0 : foB 24 0 0 = true := by kernel_rfl
theorem fo24_1 : foB 24 1 1 = true := by kernel_rfl
theorem fo24_2 : foB 24 2 2 = true := by kernel_rfl
theorem fo24_3 : foB 24 3 3 = true := by kernel_rfl
theorem fo30_0 : foB 30 0 0 = true := by kernel_rfl
theorem fo30_1 : foB 30 1 1 = true := by kernel_rfl
theorem fo30_2 : foB 30 2 2 = true := by kernel_rfl
theorem fo30_3 : foB 30 3 3 = true := by kernel_rfl
theorem fo30_4 : foB 30 4 4 = true := by kernel_rfl
theorem fo30_5 : foB 30 5 5 = true := by kernel_rfl
theorem fo30_6 : foB 30 6 6 = true := by kernel_rfl
theorem fo30_7 : foB 30 7 7 = true := by kernel_rfl
theorem fo30_8 : foB 30 8 8 = true := by kernel_rfl
theorem fo30_9 : foB 30 9 9 = true := by kernel_rfl
theorem fo30_10 : foB 30 10 10 = true := by kernel_rfl
theorem fo30_11 : foB 30 11 11 = true := by kernel_rfl
theorem fo50_0 : foB 50 0 0 = true := by kernel_rfl
theorem fo50_1 : foB 50 1 4 = true := by kernel_rfl
theorem fo50_2 : foB 50 2 8 = true := by kernel_rfl
theorem fo50_3 : foB 50 3 9 = true := by kernel_rfl
theorem fo50_4 : foB 50 4 10 = true := by kernel_rfl
theorem fo50_5 : foB 50 5 11 = true := by kernel_rfl
theorem fo52_0 : foB 52 0 0 = true := by kernel_rfl
theorem fo52_1 : foB 52 1 1 = true := by kernel_rfl
theorem fo52_2 : foB 52 2 2 = true := by kernel_rfl
theorem go9 : goB 9 = true := by kernel_rfl
theorem go10 : goB 10 = true := by kernel_rfl
theorem go11 : goB 11 = true := by kernel_rfl
theorem go12 : goB 12 = true := by kernel_rfl
theorem go13 : goB 13 = true := by kernel_rfl
theorem go14 : goB 14 = true := by kernel_rfl
theorem go15 : goB 15 = true := by kernel_rfl
theorem go16 : goB 16 = true := by kernel_rfl
theorem go17 : goB 17 = true := by kernel_rfl
theorem go18 : goB 18 = true := by kernel_rfl
theorem go19 : goB 19 = true := by kernel_rfl
theorem go20 : goB 20 = true := by kernel_rfl
theorem go21 : goB 21 = true := by kernel_rfl
theorem go22 : goB 22 = true := by kernel_rfl
theorem go23 : goB 23 = true := by kernel_rfl
theorem go24 : goB 24 = true := by kernel_rfl
theorem go25 : goB 25 = true := by kernel_rfl
theorem go34 : goB 34 = true := by kernel_rfl
theorem go35 : goB 35 = true := by kernel_rfl
theorem go36 : goB 36 = true := by kernel_rfl
theorem go37 : goB 37 = true := by kernel_rfl
theorem go38 : goB 38 = true := by kernel_rfl
theorem go39 : goB 39 = true := by kernel_rfl
theorem go40 : goB 40 = true := by kernel_rfl
theorem go41 : goB 41 = true := by kernel_rfl
theorem go42 : goB 42 = true := by kernel_rfl
theorem go43 : goB 43 = true := by kernel_rfl
theorem go44 : goB 44 = true := by kernel_rfl
theorem go45 : goB 45 = true := by kernel_rfl
theorem go46 : goB 46 = true := by kernel_rfl
theorem go47 : goB 47 = true := by kernel_rfl
theorem go48 : goB 48 = true := by kernel_rfl
theorem go49 : goB 49 = true := by kernel_rfl
theorem go66 : goB 66 = true := by kernel_rfl
theorem go67 : goB 67 = true := by kernel_rfl
theorem go68 : goB 68 = true := by kernel_rfl
theorem go69 : goB 69 = true := by kernel_rfl
end Go.Proofs.Ytigimkmkbdnlpaa
