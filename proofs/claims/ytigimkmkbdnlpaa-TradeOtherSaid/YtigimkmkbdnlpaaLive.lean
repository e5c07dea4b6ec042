/- Operations whose guard is known, conditions that are known, cuts. -/
import Derived.Test.YtigimkmkbdnlpaaTk
namespace Go.Proofs.Ytigimkmkbdnlpaa
open Go.RowKit

section
variable {ops : Array Oper} {Q : Exit → Act → World → Prop} {S : World → Prop} {rest : List Oper} {o : Oper} {N : Nat} {ρ : Ro} {w : World} {fuel : Nat} {listed : Array Bool} {K : Act → World → Prop}
theorem W.valL {e j d : Nat} {want g : Bool} {v : Value} {w' : World} (hg : o.guard = some (j, want)) (hj : (ops[j]?).bind (·.dst) = some d) (hdN : Nat.blt d N = true) (hv : ρ d = .bool g) (hw : (g == want) = true) (hd : o.dst = some e) (hx : (execOp (mk N ρ).eval o).run Try.prog w = .ok (.value v) w')
    (k : WL ops Q rest (mk N (upd ρ e v)) w') : WL ops Q (o :: rest) (mk N ρ) w := by
  refine ⟨?_⟩
  unfold wpList
  rw [wanted_mk hg hj hdN hv, hw, if_pos rfl]
  refine .inl ?_
  simp only [Oper.wp, hx, Oper.upon, hd, mk_put]
  exact k.h
theorem W.callL {e j d : Nat} {want g : Bool} {f : FuncId} {args : Array Value} {R : Value → World → Prop} (hg : o.guard = some (j, want)) (hj : (ops[j]?).bind (·.dst) = some d) (hdN : Nat.blt d N = true) (hv : ρ d = .bool g) (hw : (g == want) = true) (hd : o.dst = some e)
    (hx : (execOp (mk N ρ).eval o).run Try.prog w = .ok (.enter f args) w) (hc : Calls Try.prog f args w (Ret R)) (k : ∀ v w', R v w' → WL ops Q rest (mk N (upd ρ e v)) w') : WL ops Q (o :: rest) (mk N ρ) w := by
  refine ⟨?_⟩
  unfold wpList
  rw [wanted_mk hg hj hdN hv, hw, if_pos rfl]
  refine .inl ?_
  simp only [Oper.wp, hx, Oper.upon, hd]
  refine hc.mono fun e' w' he => ?_
  cases e' with
  | returned v => simp only [mk_put]; exact (k v w' he).h
  | panicked c => exact he.elim
  | outgrown => exact he.elim
theorem E.valL {i e j d : Nat} {want g : Bool} {v : Value} {w' : World} (hi : ops[i]? = some o) (hg : o.guard = some (j, want)) (hj : (ops[j]?).bind (·.dst) = some d) (hdN : Nat.blt d N = true) (hv : ρ d = .bool g) (hw : (g == want) = true) (hd : o.dst = some e) (hx : (execOp (mk N ρ).eval o).run Try.prog w = .ok (.value v) w')
    (k : K (mk N (upd ρ e v)) w') : WO ops Q i K (mk N ρ) w := by
  refine ⟨?_⟩
  simp only [wpOp, hi]
  rw [wanted_mk hg hj hdN hv, hw, if_pos rfl]
  refine .inl ?_
  simp only [Oper.wp, hx, Oper.upon, hd, mk_put]
  exact k
theorem E.callL {i e j d : Nat} {want g : Bool} {f : FuncId} {args : Array Value} {R : Value → World → Prop} (hi : ops[i]? = some o) (hg : o.guard = some (j, want)) (hj : (ops[j]?).bind (·.dst) = some d) (hdN : Nat.blt d N = true) (hv : ρ d = .bool g) (hw : (g == want) = true) (hd : o.dst = some e)
    (hx : (execOp (mk N ρ).eval o).run Try.prog w = .ok (.enter f args) w) (hc : Calls Try.prog f args w (Ret R)) (k : ∀ v w', R v w' → K (mk N (upd ρ e v)) w') : WO ops Q i K (mk N ρ) w := by
  refine ⟨?_⟩
  simp only [wpOp, hi]
  rw [wanted_mk hg hj hdN hv, hw, if_pos rfl]
  refine .inl ?_
  simp only [Oper.wp, hx, Oper.upon, hd]
  refine hc.mono fun e' w' he => ?_
  cases e' with
  | returned v => simp only [mk_put]; exact k v w' he
  | panicked c => exact he.elim
  | outgrown => exact he.elim
theorem A.takeL {i e j d : Nat} {want g : Bool} {v : Value} (hi : ops[i]? = some o) (hs : Region.noSelect ops = true) (hf : Region.free .any ops listed i = true) (hr : (Region.ready .any ops listed).contains i = true)
    (hQ : ∀ c a v w, Q (.panic c) (a.put o.dst v) w → Q (.panic c) a w) (hS : S w) (hg : o.guard = some (j, want)) (hj : (ops[j]?).bind (·.dst) = some d) (hdN : Nat.blt d N = true) (hv : ρ d = .bool g) (hw : (g == want) = true) (hd : o.dst = some e)
    (hx : ∀ w', S w' → (execOp (mk N ρ).eval o).run Try.prog w' = .ok (.value v) w')
    (k : WA ops Q S fuel (listed.setIfInBounds i true) (mk N (upd ρ e v)) w) : WA ops Q S (fuel + 1) listed (mk N ρ) w := by
  refine A.takeG hi hs hf hr hQ hS hg hj hdN hv hd (fun _ => hx) ?_
  rw [hw]
  exact k
theorem W.effL {e j d : Nat} {want g : Bool} {R : Value → World → Prop} (hg : o.guard = some (j, want)) (hj : (ops[j]?).bind (·.dst) = some d) (hdN : Nat.blt d N = true) (hv : ρ d = .bool g) (hw : (g == want) = true) (hd : o.dst = some e)
    (hx : ∃ v w', (execOp (mk N ρ).eval o).run Try.prog w = .ok (.value v) w' ∧ R v w') (k : ∀ v w', R v w' → WL ops Q rest (mk N (upd ρ e v)) w') : WL ops Q (o :: rest) (mk N ρ) w :=
  let ⟨v, w', h1, h2⟩ := hx
  W.valL hg hj hdN hv hw hd h1 (k v w' h2)
theorem eqv {x : Sem Next} {b b' : Bool} {w' : World} (h : x.run Try.prog w = .ok (.value (.bool b)) w') (e : b = b') : x.run Try.prog w = .ok (.value (.bool b')) w' := e ▸ h
theorem eqvI {x : Sem Next} {k : IntKind} {a b : Int} {w' : World} (h : x.run Try.prog w = .ok (.value (.int k a)) w') (e : a = b) : x.run Try.prog w = .ok (.value (.int k b)) w' := e ▸ h
theorem W.condT {t : Nat} {x y : Code} (ht : Nat.blt t N = true) (hv : ρ t = .bool true) (hx : CW x Q (mk N ρ) w) : CW (Code.cond (.tmp t) x y) Q (mk N ρ) w := W.cond ht hv (fun _ => hx) (fun h => by cases h)
theorem W.condF {t : Nat} {x y : Code} (ht : Nat.blt t N = true) (hv : ρ t = .bool false) (hy : CW y Q (mk N ρ) w) : CW (Code.cond (.tmp t) x y) Q (mk N ρ) w := W.cond ht hv (fun h => by cases h) (fun _ => hy)
end
theorem LtAll.cons {bs : List Nat} {w : World} {b : Nat} (h : LtAll bs w) (hb : b < w.heap.size) : LtAll (b :: bs) w := by
  intro c hc
  simp only [List.mem_cons] at hc
  rcases hc with rfl | hc
  · exact hb
  · exact h c hc
theorem LtAll.nil (w : World) : LtAll [] w := fun b hb => by cases hb
theorem same_refl (m : Msg) : same m m = true := by simp [same]
theorem sameL_refl (l : List Msg) : sameL l l = true := by
  induction l with
  | nil => rfl
  | cons a l ih => simp [sameL, same_refl, ih]
theorem sameT_refl (t : Trade) : sameT t t = true := by simp [sameT, sameL_refl]
theorem few_of {t : Trade} {m : Msg} (k : ((!few t) || (!fewM m)) = false) : t.placed.length ≤ 20 ∧ t.received.length ≤ 20 ∧ t.done.length ≤ 20 := by
  simp [few, fewL] at k
  exact ⟨k.1.1.1.2, k.1.1.2.2, k.1.2.2⟩
theorem few_len {t : Trade} {m : Msg} (k : ((!few t) || (!fewM m)) = false) : t.placed.length ≤ 5000 := by have := few_of k; omega
def orderM (a b : Int) : Msg := { Msg.zero with kind := 1, frm := a, to := b, no := 77, item := 2, amount := 5, day := 9 }
end Go.Proofs.Ytigimkmkbdnlpaa
