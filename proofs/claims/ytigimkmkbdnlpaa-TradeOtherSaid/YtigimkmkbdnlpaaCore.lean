/- The walk's own rules: frames as functions, one law an operation, regions that draw their order. Plain Lean over the kit's 'Code.wp'. -/
import Derived.Test.YtigimkmkbdnlpaaBase
import Derived.OrdersHeld
namespace Go.Proofs.Ytigimkmkbdnlpaa
open Go.RowKit

abbrev Ro := Nat → Value
def upd (ρ : Ro) (d : Nat) (v : Value) : Ro := fun t => cond (Nat.beq t d) v (ρ t)
/-- A frame of N slots. -/
def mk (N : Nat) (ρ : Ro) : Act := { tmps := Array.ofFn (n := N) fun i => ρ i.1, defers := [] }
/-- A value that is there only if the guard said so. -/
def gv (c : Bool) (v : Value) : Value := cond c v undef
theorem gv_pos {c : Bool} {v u : Value} (hc : c = true) (h : gv c v = u) : v = u := by subst hc; exact h
theorem gv_yes {c : Bool} (v : Value) (hc : c = true) : gv c v = v := by subst hc; rfl

theorem mk_put (N : Nat) (ρ : Ro) (d : Nat) (v : Value) : (mk N ρ).put (some d) v = mk N (upd ρ d v) := by
  simp only [mk, Act.put]
  congr 1
  apply Array.ext
  · simp
  · intro i h1 h2
    simp only [Array.size_setIfInBounds, Array.size_ofFn] at h1
    rw [Array.getElem_setIfInBounds (by simpa using h1)]
    simp only [Array.getElem_ofFn, upd]
    by_cases h : d = i
    · subst h; simp
    · have h' : Nat.beq i d = false := by
        cases hb : Nat.beq i d with
        | false => rfl
        | true => exact absurd (Nat.eq_of_beq_eq_true hb).symm h
      simp [h, h']
theorem mk_put_none (N : Nat) (ρ : Ro) (v : Value) : (mk N ρ).put none v = mk N ρ := rfl
theorem getD_mk {N : Nat} {ρ : Ro} {t : Nat} (h : Nat.blt t N = true) : (mk N ρ).tmps.getD t undef = ρ t := by
  have h' : t < N := by simpa [Nat.blt_eq] using h
  simp [mk, h']
theorem ev {N : Nat} {ρ : Ro} {t : Nat} {v : Value} (h : Nat.blt t N = true) (hv : ρ t = v) : (mk N ρ).eval (.tmp t) = v := by
  subst hv; exact getD_mk h
theorem evc {N : Nat} {ρ : Ro} (v : Value) : (mk N ρ).eval (.const v) = v := rfl
theorem evf {N : Nat} {ρ : Ro} (f : FuncId) : (mk N ρ).eval (.func f) = .func (.func f) #[] #[] := rfl

/-- What a guard says. -/
theorem wanted_mk {ops : Array Oper} {N : Nat} {ρ : Ro} {o : Oper} {j : Nat} {want g : Bool} {d : Nat} (hg : o.guard = some (j, want)) (hj : (ops[j]?).bind (·.dst) = some d) (hd : Nat.blt d N = true) (hv : ρ d = .bool g) :
    Region.wanted o (yielded ops (mk N ρ).tmps) = (g == want) := by
  have h' : d < N := by simpa [Nat.blt_eq] using hd
  have hy : yielded ops (mk N ρ).tmps j = some g := by simp [yielded, hj, mk, h', hv]
  simp only [Region.wanted, hg, hy]
  cases g <;> cases want <;> rfl
theorem wanted_none {ops : Array Oper} {tmps : Array Value} {o : Oper} (hg : o.guard = none) : Region.wanted o (yielded ops tmps) = true := by
  simp [Region.wanted, hg]

/-- A call that returns. -/
def Ret (R : Value → World → Prop) : Ending → World → Prop
  | .returned v, w => R v w
  | _, _ => False
theorem Ret.mono {R R' : Value → World → Prop} (h : ∀ v w, R v w → R' v w) : ∀ e w, Ret R e w → Ret R' e w := fun e w hh => by
  cases e <;> first | exact h _ _ hh | exact hh
theorem cmono {f : FuncId} {args : Array Value} {w : World} {R R' : Value → World → Prop} (h : Calls Try.prog f args w (Ret R)) (hr : ∀ v w', R v w' → R' v w') : Calls Try.prog f args w (Ret R') :=
  h.mono (Ret.mono hr)

/-! ### One operation at a time, in the order of the text -/
section
variable {ops : Array Oper} {Q : Exit → Act → World → Prop} {rest : List Oper} {o : Oper} {N : Nat} {ρ : Ro} {w : World}

theorem W0.val {e : Nat} {v : Value} {w' : World} (hg : o.guard = none) (hd : o.dst = some e) (hx : (execOp (mk N ρ).eval o).run Try.prog w = .ok (.value v) w')
    (k : wpList Try.prog ops Q rest (mk N (upd ρ e v)) w') : wpList Try.prog ops Q (o :: rest) (mk N ρ) w := by
  unfold wpList
  rw [if_pos (wanted_none hg)]
  refine .inl ?_
  simp only [Oper.wp, hx, Oper.upon, hd, mk_put]
  exact k
theorem W0.skp {w' : World} (hg : o.guard = none) (hd : o.dst = none) (hx : (execOp (mk N ρ).eval o).run Try.prog w = .ok .skip w')
    (k : wpList Try.prog ops Q rest (mk N ρ) w') : wpList Try.prog ops Q (o :: rest) (mk N ρ) w := by
  unfold wpList
  rw [if_pos (wanted_none hg)]
  refine .inl ?_
  simp only [Oper.wp, hx, Oper.upon, hd]
  exact k
theorem W0.call {e : Nat} {f : FuncId} {args : Array Value} {R : Value → World → Prop} (hg : o.guard = none) (hd : o.dst = some e) (hx : (execOp (mk N ρ).eval o).run Try.prog w = .ok (.enter f args) w)
    (hc : Calls Try.prog f args w (Ret R)) (k : ∀ v w', R v w' → wpList Try.prog ops Q rest (mk N (upd ρ e v)) w') : wpList Try.prog ops Q (o :: rest) (mk N ρ) w := by
  unfold wpList
  rw [if_pos (wanted_none hg)]
  refine .inl ?_
  simp only [Oper.wp, hx, Oper.upon, hd]
  refine hc.mono fun e' w' he => ?_
  cases e' with
  | returned v => simp only [mk_put]; exact k v w' he
  | panicked c => exact he.elim
  | outgrown => exact he.elim
theorem W0.gq {e j d : Nat} {want g : Bool} {v : Value} (hg : o.guard = some (j, want)) (hj : (ops[j]?).bind (·.dst) = some d) (hdN : Nat.blt d N = true) (hv : ρ d = .bool g) (hd : o.dst = some e)
    (hx : (g == want) = true → (execOp (mk N ρ).eval o).run Try.prog w = .ok (.value v) w)
    (k : wpList Try.prog ops Q rest (mk N (upd ρ e (gv (g == want) v))) w) : wpList Try.prog ops Q (o :: rest) (mk N ρ) w := by
  unfold wpList
  rw [wanted_mk hg hj hdN hv]
  cases hc : (g == want) with
  | true =>
    rw [if_pos rfl]
    refine .inl ?_
    simp only [Oper.wp, hx hc, Oper.upon, hd, mk_put]
    rw [hc] at k
    exact k
  | false =>
    rw [if_neg (by simp), hd, mk_put]
    rw [hc] at k
    exact k
theorem W0.gcall {e j d : Nat} {want g : Bool} {f : FuncId} {args : Array Value} {R : Value → World → Prop} (hg : o.guard = some (j, want)) (hj : (ops[j]?).bind (·.dst) = some d) (hdN : Nat.blt d N = true) (hv : ρ d = .bool g) (hd : o.dst = some e)
    (hx : (g == want) = true → (execOp (mk N ρ).eval o).run Try.prog w = .ok (.enter f args) w)
    (hc : (g == want) = true → Calls Try.prog f args w (Ret R))
    (k : ∀ v w', ((g == want) = true → R v w') → ((g == want) = false → w' = w) → wpList Try.prog ops Q rest (mk N (upd ρ e (gv (g == want) v))) w') : wpList Try.prog ops Q (o :: rest) (mk N ρ) w := by
  unfold wpList
  rw [wanted_mk hg hj hdN hv]
  cases hcc : (g == want) with
  | true =>
    rw [if_pos rfl]
    refine .inl ?_
    simp only [Oper.wp, hx hcc, Oper.upon, hd]
    refine (hc hcc).mono fun e' w' he => ?_
    cases e' with
    | returned v =>
      simp only [mk_put]
      have := k v w' (fun _ => he) (fun h => by rw [hcc] at h; cases h)
      rw [hcc] at this
      exact this
    | panicked c => exact he.elim
    | outgrown => exact he.elim
  | false =>
    rw [if_neg (by simp), hd, mk_put]
    have := k undef w (fun h => by rw [hcc] at h; cases h) (fun _ => rfl)
    rw [hcc] at this
    exact this
theorem W0.nil (k : Q .normal (mk N ρ) w) : wpList Try.prog ops Q [] (mk N ρ) w := k
end

/-! ### A region that draws its order -/
section
variable {ops : Array Oper} {Q : Exit → Act → World → Prop} {S : World → Prop} {N : Nat} {ρ : Ro} {w : World} {fuel : Nat} {listed : Array Bool}

theorem A0.begin {id : Nat} {l : List Oper} {n : Nat} (hn : l.length = n) (h : wpAnyH Try.prog .any l.toArray Q S n (Array.replicate n false) (mk N ρ) w.drew) : (Code.region id l.toArray true).wp Try.prog Q (mk N ρ) w := by
  subst hn
  refine wp_region_held (S := S) (by kernel_rfl) ?_
  simpa using h
theorem A0.take {i e : Nat} {o : Oper} {v : Value} (hi : ops[i]? = some o) (hs : Region.noSelect ops = true) (hf : Region.free .any ops listed i = true) (hr : (Region.ready .any ops listed).contains i = true)
    (hQ : ∀ c a w, Q (.panic c) (a.put o.dst v) w → Q (.panic c) a w) (hS : S w) (hg : o.guard = none) (hd : o.dst = some e) (hx : ∀ w', S w' → (execOp (mk N ρ).eval o).run Try.prog w' = .ok (.value v) w')
    (k : wpAnyH Try.prog .any ops Q S fuel (listed.setIfInBounds i true) (mk N (upd ρ e v)) w) : wpAnyH Try.prog .any ops Q S (fuel + 1) listed (mk N ρ) w :=
  wpAnyH_take hi hs hf hr hQ (.inl ⟨wanted_none hg, hx⟩) hS (by rw [hd, mk_put]; exact k)
theorem A0.takeG {i e j d : Nat} {want g : Bool} {o : Oper} {v : Value} (hi : ops[i]? = some o) (hs : Region.noSelect ops = true) (hf : Region.free .any ops listed i = true) (hr : (Region.ready .any ops listed).contains i = true)
    (hQ : ∀ c a v w, Q (.panic c) (a.put o.dst v) w → Q (.panic c) a w) (hS : S w) (hg : o.guard = some (j, want)) (hj : (ops[j]?).bind (·.dst) = some d) (hdN : Nat.blt d N = true) (hv : ρ d = .bool g) (hd : o.dst = some e)
    (hx : (g == want) = true → ∀ w', S w' → (execOp (mk N ρ).eval o).run Try.prog w' = .ok (.value v) w')
    (k : wpAnyH Try.prog .any ops Q S fuel (listed.setIfInBounds i true) (mk N (upd ρ e (gv (g == want) v))) w) : wpAnyH Try.prog .any ops Q S (fuel + 1) listed (mk N ρ) w := by
  have hw := wanted_mk (ops := ops) hg hj hdN hv
  cases hc : (g == want) with
  | true =>
    rw [hc] at hw k
    exact wpAnyH_take hi hs hf hr (fun c a w => hQ c a v w) (.inl ⟨hw, hx hc⟩) hS (by rw [hd, mk_put]; exact k)
  | false =>
    rw [hc] at hw k
    exact wpAnyH_take hi hs hf hr (fun c a w => hQ c a undef w) (.inr ⟨hw, rfl⟩) hS (by rw [hd, mk_put]; exact k)
theorem A0.one {i : Nat} (hr : Region.ready .any ops listed = [i]) (h : wpOp Try.prog ops Q i (fun a' w' => S w' ∧ wpAnyH Try.prog .any ops Q S fuel (listed.setIfInBounds i true) a' w') (mk N ρ) w) :
    wpAnyH Try.prog .any ops Q S (fuel + 1) listed (mk N ρ) w := wpAnyH_all hr (by simp) (fun j hj => by simp at hj; subst hj; exact h)
theorem A0.two {i j : Nat} (hr : Region.ready .any ops listed = [i, j]) (h : wpOp Try.prog ops Q i (fun a' w' => S w' ∧ wpAnyH Try.prog .any ops Q S fuel (listed.setIfInBounds i true) a' w') (mk N ρ) w)
    (h' : wpOp Try.prog ops Q j (fun a' w' => S w' ∧ wpAnyH Try.prog .any ops Q S fuel (listed.setIfInBounds j true) a' w') (mk N ρ) w) :
    wpAnyH Try.prog .any ops Q S (fuel + 1) listed (mk N ρ) w := wpAnyH_all hr (by simp) (fun k hk => by simp at hk; rcases hk with rfl | rfl; exact h; exact h')
theorem A0.three {i j l : Nat} (hr : Region.ready .any ops listed = [i, j, l]) (h : wpOp Try.prog ops Q i (fun a' w' => S w' ∧ wpAnyH Try.prog .any ops Q S fuel (listed.setIfInBounds i true) a' w') (mk N ρ) w)
    (h' : wpOp Try.prog ops Q j (fun a' w' => S w' ∧ wpAnyH Try.prog .any ops Q S fuel (listed.setIfInBounds j true) a' w') (mk N ρ) w)
    (h'' : wpOp Try.prog ops Q l (fun a' w' => S w' ∧ wpAnyH Try.prog .any ops Q S fuel (listed.setIfInBounds l true) a' w') (mk N ρ) w) :
    wpAnyH Try.prog .any ops Q S (fuel + 1) listed (mk N ρ) w := wpAnyH_all hr (by simp) (fun k hk => by simp at hk; rcases hk with rfl | rfl | rfl; exact h; exact h'; exact h'')
theorem A0.done (hr : Region.ready .any ops listed = []) (h : Q .normal (mk N ρ) w) : wpAnyH Try.prog .any ops Q S fuel listed (mk N ρ) w := wpAnyH_done hr h fuel

variable {K : Act → World → Prop} {i : Nat} {o : Oper}
theorem E0.val {e : Nat} {v : Value} {w' : World} (hi : ops[i]? = some o) (hg : o.guard = none) (hd : o.dst = some e) (hx : (execOp (mk N ρ).eval o).run Try.prog w = .ok (.value v) w')
    (k : K (mk N (upd ρ e v)) w') : wpOp Try.prog ops Q i K (mk N ρ) w := by
  simp only [wpOp, hi]
  rw [if_pos (wanted_none hg)]
  refine .inl ?_
  simp only [Oper.wp, hx, Oper.upon, hd, mk_put]
  exact k
theorem E0.skp {w' : World} (hi : ops[i]? = some o) (hg : o.guard = none) (hd : o.dst = none) (hx : (execOp (mk N ρ).eval o).run Try.prog w = .ok .skip w')
    (k : K (mk N ρ) w') : wpOp Try.prog ops Q i K (mk N ρ) w := by
  simp only [wpOp, hi]
  rw [if_pos (wanted_none hg)]
  refine .inl ?_
  simp only [Oper.wp, hx, Oper.upon, hd]
  exact k
theorem E0.call {e : Nat} {f : FuncId} {args : Array Value} {R : Value → World → Prop} (hi : ops[i]? = some o) (hg : o.guard = none) (hd : o.dst = some e) (hx : (execOp (mk N ρ).eval o).run Try.prog w = .ok (.enter f args) w)
    (hc : Calls Try.prog f args w (Ret R)) (k : ∀ v w', R v w' → K (mk N (upd ρ e v)) w') : wpOp Try.prog ops Q i K (mk N ρ) w := by
  simp only [wpOp, hi]
  rw [if_pos (wanted_none hg)]
  refine .inl ?_
  simp only [Oper.wp, hx, Oper.upon, hd]
  refine hc.mono fun e' w' he => ?_
  cases e' with
  | returned v => simp only [mk_put]; exact k v w' he
  | panicked c => exact he.elim
  | outgrown => exact he.elim
theorem E0.gcall {e j d : Nat} {want g : Bool} {f : FuncId} {args : Array Value} {R : Value → World → Prop} (hi : ops[i]? = some o) (hg : o.guard = some (j, want)) (hj : (ops[j]?).bind (·.dst) = some d) (hdN : Nat.blt d N = true) (hv : ρ d = .bool g) (hd : o.dst = some e)
    (hx : (g == want) = true → (execOp (mk N ρ).eval o).run Try.prog w = .ok (.enter f args) w)
    (hc : (g == want) = true → Calls Try.prog f args w (Ret R))
    (k : ∀ v w', ((g == want) = true → R v w') → ((g == want) = false → w' = w) → K (mk N (upd ρ e (gv (g == want) v))) w') : wpOp Try.prog ops Q i K (mk N ρ) w := by
  simp only [wpOp, hi]
  rw [wanted_mk hg hj hdN hv]
  cases hcc : (g == want) with
  | true =>
    rw [if_pos rfl]
    refine .inl ?_
    simp only [Oper.wp, hx hcc, Oper.upon, hd]
    refine (hc hcc).mono fun e' w' he => ?_
    cases e' with
    | returned v =>
      simp only [mk_put]
      have := k v w' (fun _ => he) (fun h => by rw [hcc] at h; cases h)
      rw [hcc] at this
      exact this
    | panicked c => exact he.elim
    | outgrown => exact he.elim
  | false =>
    rw [if_neg (by simp), hd, mk_put]
    have := k undef w (fun h => by rw [hcc] at h; cases h) (fun _ => rfl)
    rw [hcc] at this
    exact this
theorem E0.gq {e j d : Nat} {want g : Bool} {v : Value} (hi : ops[i]? = some o) (hg : o.guard = some (j, want)) (hj : (ops[j]?).bind (·.dst) = some d) (hdN : Nat.blt d N = true) (hv : ρ d = .bool g) (hd : o.dst = some e)
    (hx : (g == want) = true → (execOp (mk N ρ).eval o).run Try.prog w = .ok (.value v) w)
    (k : K (mk N (upd ρ e (gv (g == want) v))) w) : wpOp Try.prog ops Q i K (mk N ρ) w := by
  simp only [wpOp, hi]
  rw [wanted_mk hg hj hdN hv]
  cases hc : (g == want) with
  | true =>
    rw [if_pos rfl]
    refine .inl ?_
    simp only [Oper.wp, hx hc, Oper.upon, hd, mk_put]
    rw [hc] at k
    exact k
  | false =>
    rw [if_neg (by simp), hd, mk_put]
    rw [hc] at k
    exact k
end
/-! ### The same, closed to the unifier's eye -/
structure CW (c : Code) (Q : Exit → Act → World → Prop) (a : Act) (w : World) : Prop where
  h : c.wp Try.prog Q a w
structure WL (ops : Array Oper) (Q : Exit → Act → World → Prop) (l : List Oper) (a : Act) (w : World) : Prop where
  h : wpList Try.prog ops Q l a w
structure WA (ops : Array Oper) (Q : Exit → Act → World → Prop) (S : World → Prop) (fuel : Nat) (listed : Array Bool) (a : Act) (w : World) : Prop where
  h : wpAnyH Try.prog .any ops Q S fuel listed a w
structure WO (ops : Array Oper) (Q : Exit → Act → World → Prop) (i : Nat) (K : Act → World → Prop) (a : Act) (w : World) : Prop where
  h : wpOp Try.prog ops Q i K a w
section
variable {ops : Array Oper} {Q : Exit → Act → World → Prop} {rest : List Oper} {o : Oper} {N : Nat} {ρ : Ro} {w : World}
theorem W.val {e : Nat} {v : Value} {w' : World} (hg : o.guard = none) (hd : o.dst = some e) (hx : (execOp (mk N ρ).eval o).run Try.prog w = .ok (.value v) w')
    (k : WL ops Q rest (mk N (upd ρ e v)) w') : WL ops Q (o :: rest) (mk N ρ) w := ⟨W0.val hg hd hx k.h⟩
theorem W.skp {w' : World} (hg : o.guard = none) (hd : o.dst = none) (hx : (execOp (mk N ρ).eval o).run Try.prog w = .ok .skip w')
    (k : WL ops Q rest (mk N ρ) w') : WL ops Q (o :: rest) (mk N ρ) w := ⟨W0.skp hg hd hx k.h⟩
theorem W.call {e : Nat} {f : FuncId} {args : Array Value} {R : Value → World → Prop} (hg : o.guard = none) (hd : o.dst = some e) (hx : (execOp (mk N ρ).eval o).run Try.prog w = .ok (.enter f args) w)
    (hc : Calls Try.prog f args w (Ret R)) (k : ∀ v w', R v w' → WL ops Q rest (mk N (upd ρ e v)) w') : WL ops Q (o :: rest) (mk N ρ) w := ⟨W0.call hg hd hx hc fun v w' r => (k v w' r).h⟩
theorem W.gq {e j d : Nat} {want g : Bool} {v : Value} (hg : o.guard = some (j, want)) (hj : (ops[j]?).bind (·.dst) = some d) (hdN : Nat.blt d N = true) (hv : ρ d = .bool g) (hd : o.dst = some e)
    (hx : (g == want) = true → (execOp (mk N ρ).eval o).run Try.prog w = .ok (.value v) w)
    (k : WL ops Q rest (mk N (upd ρ e (gv (g == want) v))) w) : WL ops Q (o :: rest) (mk N ρ) w := ⟨W0.gq hg hj hdN hv hd hx k.h⟩
theorem W.gcall {e j d : Nat} {want g : Bool} {f : FuncId} {args : Array Value} {R : Value → World → Prop} (hg : o.guard = some (j, want)) (hj : (ops[j]?).bind (·.dst) = some d) (hdN : Nat.blt d N = true) (hv : ρ d = .bool g) (hd : o.dst = some e)
    (hx : (g == want) = true → (execOp (mk N ρ).eval o).run Try.prog w = .ok (.enter f args) w)
    (hc : (g == want) = true → Calls Try.prog f args w (Ret R))
    (k : ∀ v w', ((g == want) = true → R v w') → ((g == want) = false → w' = w) → WL ops Q rest (mk N (upd ρ e (gv (g == want) v))) w') : WL ops Q (o :: rest) (mk N ρ) w :=
  ⟨W0.gcall hg hj hdN hv hd hx hc fun v w' r1 r2 => (k v w' r1 r2).h⟩
theorem W.nil (k : Q .normal (mk N ρ) w) : WL ops Q [] (mk N ρ) w := ⟨W0.nil k⟩
end
section
variable {ops : Array Oper} {Q : Exit → Act → World → Prop} {S : World → Prop} {N : Nat} {ρ : Ro} {w : World} {fuel : Nat} {listed : Array Bool}
theorem A.begin {id : Nat} {l : List Oper} {n : Nat} (hn : l.length = n) (h : WA l.toArray Q S n (Array.replicate n false) (mk N ρ) w.drew) : CW (Code.region id l.toArray true) Q (mk N ρ) w := ⟨A0.begin hn h.h⟩
theorem A.take {i e : Nat} {o : Oper} {v : Value} (hi : ops[i]? = some o) (hs : Region.noSelect ops = true) (hf : Region.free .any ops listed i = true) (hr : (Region.ready .any ops listed).contains i = true)
    (hQ : ∀ c a w, Q (.panic c) (a.put o.dst v) w → Q (.panic c) a w) (hS : S w) (hg : o.guard = none) (hd : o.dst = some e) (hx : ∀ w', S w' → (execOp (mk N ρ).eval o).run Try.prog w' = .ok (.value v) w')
    (k : WA ops Q S fuel (listed.setIfInBounds i true) (mk N (upd ρ e v)) w) : WA ops Q S (fuel + 1) listed (mk N ρ) w := ⟨A0.take hi hs hf hr hQ hS hg hd hx k.h⟩
theorem A.takeG {i e j d : Nat} {want g : Bool} {o : Oper} {v : Value} (hi : ops[i]? = some o) (hs : Region.noSelect ops = true) (hf : Region.free .any ops listed i = true) (hr : (Region.ready .any ops listed).contains i = true)
    (hQ : ∀ c a v w, Q (.panic c) (a.put o.dst v) w → Q (.panic c) a w) (hS : S w) (hg : o.guard = some (j, want)) (hj : (ops[j]?).bind (·.dst) = some d) (hdN : Nat.blt d N = true) (hv : ρ d = .bool g) (hd : o.dst = some e)
    (hx : (g == want) = true → ∀ w', S w' → (execOp (mk N ρ).eval o).run Try.prog w' = .ok (.value v) w')
    (k : WA ops Q S fuel (listed.setIfInBounds i true) (mk N (upd ρ e (gv (g == want) v))) w) : WA ops Q S (fuel + 1) listed (mk N ρ) w := ⟨A0.takeG hi hs hf hr hQ hS hg hj hdN hv hd hx k.h⟩
theorem unWO {i : Nat} {listed' : Array Bool} (h : WO ops Q i (fun a' w' => S w' ∧ WA ops Q S fuel listed' a' w') (mk N ρ) w) :
    wpOp Try.prog ops Q i (fun a' w' => S w' ∧ wpAnyH Try.prog .any ops Q S fuel listed' a' w') (mk N ρ) w := by
  have e : (fun a' w' => S w' ∧ WA ops Q S fuel listed' a' w') = (fun a' w' => S w' ∧ wpAnyH Try.prog .any ops Q S fuel listed' a' w') := by
    funext a' w'
    exact propext ⟨fun h => ⟨h.1, h.2.h⟩, fun h => ⟨h.1, ⟨h.2⟩⟩⟩
  have := h.h
  rw [e] at this
  exact this
theorem A.one {i : Nat} (hr : Region.ready .any ops listed = [i]) (h : WO ops Q i (fun a' w' => S w' ∧ WA ops Q S fuel (listed.setIfInBounds i true) a' w') (mk N ρ) w) :
    WA ops Q S (fuel + 1) listed (mk N ρ) w := ⟨A0.one hr (unWO h)⟩
theorem A.two {i j : Nat} (hr : Region.ready .any ops listed = [i, j]) (h : WO ops Q i (fun a' w' => S w' ∧ WA ops Q S fuel (listed.setIfInBounds i true) a' w') (mk N ρ) w)
    (h' : WO ops Q j (fun a' w' => S w' ∧ WA ops Q S fuel (listed.setIfInBounds j true) a' w') (mk N ρ) w) :
    WA ops Q S (fuel + 1) listed (mk N ρ) w := ⟨A0.two hr (unWO h) (unWO h')⟩
theorem A.three {i j l : Nat} (hr : Region.ready .any ops listed = [i, j, l]) (h : WO ops Q i (fun a' w' => S w' ∧ WA ops Q S fuel (listed.setIfInBounds i true) a' w') (mk N ρ) w)
    (h' : WO ops Q j (fun a' w' => S w' ∧ WA ops Q S fuel (listed.setIfInBounds j true) a' w') (mk N ρ) w)
    (h'' : WO ops Q l (fun a' w' => S w' ∧ WA ops Q S fuel (listed.setIfInBounds l true) a' w') (mk N ρ) w) :
    WA ops Q S (fuel + 1) listed (mk N ρ) w := ⟨A0.three hr (unWO h) (unWO h') (unWO h'')⟩
theorem A.done (hr : Region.ready .any ops listed = []) (h : Q .normal (mk N ρ) w) : WA ops Q S fuel listed (mk N ρ) w := ⟨A0.done hr h⟩
variable {K : Act → World → Prop} {i : Nat} {o : Oper}
theorem E.val {e : Nat} {v : Value} {w' : World} (hi : ops[i]? = some o) (hg : o.guard = none) (hd : o.dst = some e) (hx : (execOp (mk N ρ).eval o).run Try.prog w = .ok (.value v) w')
    (k : K (mk N (upd ρ e v)) w') : WO ops Q i K (mk N ρ) w := ⟨E0.val hi hg hd hx k⟩
theorem E.skp {w' : World} (hi : ops[i]? = some o) (hg : o.guard = none) (hd : o.dst = none) (hx : (execOp (mk N ρ).eval o).run Try.prog w = .ok .skip w')
    (k : K (mk N ρ) w') : WO ops Q i K (mk N ρ) w := ⟨E0.skp hi hg hd hx k⟩
theorem E.call {e : Nat} {f : FuncId} {args : Array Value} {R : Value → World → Prop} (hi : ops[i]? = some o) (hg : o.guard = none) (hd : o.dst = some e) (hx : (execOp (mk N ρ).eval o).run Try.prog w = .ok (.enter f args) w)
    (hc : Calls Try.prog f args w (Ret R)) (k : ∀ v w', R v w' → K (mk N (upd ρ e v)) w') : WO ops Q i K (mk N ρ) w := ⟨E0.call hi hg hd hx hc k⟩
theorem E.gcall {e j d : Nat} {want g : Bool} {f : FuncId} {args : Array Value} {R : Value → World → Prop} (hi : ops[i]? = some o) (hg : o.guard = some (j, want)) (hj : (ops[j]?).bind (·.dst) = some d) (hdN : Nat.blt d N = true) (hv : ρ d = .bool g) (hd : o.dst = some e)
    (hx : (g == want) = true → (execOp (mk N ρ).eval o).run Try.prog w = .ok (.enter f args) w)
    (hc : (g == want) = true → Calls Try.prog f args w (Ret R))
    (k : ∀ v w', ((g == want) = true → R v w') → ((g == want) = false → w' = w) → K (mk N (upd ρ e (gv (g == want) v))) w') : WO ops Q i K (mk N ρ) w := ⟨E0.gcall hi hg hj hdN hv hd hx hc k⟩
theorem E.gq {e j d : Nat} {want g : Bool} {v : Value} (hi : ops[i]? = some o) (hg : o.guard = some (j, want)) (hj : (ops[j]?).bind (·.dst) = some d) (hdN : Nat.blt d N = true) (hv : ρ d = .bool g) (hd : o.dst = some e)
    (hx : (g == want) = true → (execOp (mk N ρ).eval o).run Try.prog w = .ok (.value v) w)
    (k : K (mk N (upd ρ e (gv (g == want) v))) w) : WO ops Q i K (mk N ρ) w := ⟨E0.gq hi hg hj hdN hv hd hx k⟩
end
end Go.Proofs.Ytigimkmkbdnlpaa
