/- The row TradeTakeSpec. -/
import Derived.Test.YtigimkmkbdnlpaaRows
import Derived.Test.YtigimkmkbdnlpaaFh
import Derived.Test.YtigimkmkbdnlpaaArg
namespace Go.Proofs.Ytigimkmkbdnlpaa
open Go.ChangeShapes Go.WideShapes Go.ChangeAt Go.RowKit

theorem ownRowB : ownKnob Try.prog.godebug = none := by kernel_rfl
theorem laidOutRowB : laidOutB Try.prog = true := by kernel_rfl
set_option maxRecDepth 100000 in
theorem tradeTakeSpec_lifted (os : Os) (started : os.Started) (H : Type) (enc : TypeId × Value → H) :
    ReturnsInHanded {} Try.checked os 4 .any (Rows.tradeTakeSpecSpec.pre6 enc Try.prog Try.f4 Rows.tradeTakeSpecRow.domain false) (Rows.tradeTakeSpecSpec.post enc Try.prog Try.f4 false true false false) := by
  refine returnsInHanded_of_change (C := Try.checked) ownRowB started (by kernel_rfl) Try.func4
    (ChangeSpec.witness6 (enc := enc) (C := Try.checked) false ⟨#[], #[TV.zero.val, .agg Msg.zero.arr, .int .i64 0], []⟩ 8 (by kernel_rfl) (by kernel_rfl) (by kernel_rfl) (by kernel_rfl)) ?_
  intro W base args ds gs before hval0 hW hcnd _
  have hval : ∀ (j : Nat) t v, Try.f4.params[j]? = some t → args[j]? = some v → Value.okWide Try.prog W .any base t v := hval0
  have hW' := hW
  obtain ⟨p, q, hA0, hV, rfl, hfz, hnd⟩ := hW
  have hA : DataW.TrodAll enc Try.prog W 0 (fun _ => true) true Try.f4.params.toList args.toList ds p := hA0
  rw [Try.params4] at hA hval
  obtain ⟨v0, v1, v2, d0, d1, d2, p0, p1, p2, rfl, rfl, rfl, h0, h1, h2⟩ := trodAll_three hA
  obtain ⟨rfl, rfl⟩ := trodVars_none hV
  have hlt0 : ∀ x ∈ p0, x.block < W.heap.size := fun x hx => by simpa using hW'.lt x (by simp [hx])
  have hlt1 : ∀ x ∈ p1, x.block < W.heap.size := fun x hx => by simpa using hW'.lt x (by simp [hx])
  have hlt2 : ∀ x ∈ p2, x.block < W.heap.size := fun x hx => by simpa using hW'.lt x (by simp [hx])
  obtain ⟨T, t, rfl, ht⟩ := open_trade (hval 0 24 v0 rfl rfl) h0
  obtain ⟨m1, rfl⟩ := open_msg (hval 1 30 v1 rfl rfl) h1
  obtain ⟨i2, hi2, _⟩ := open_int Try.underlying3 (hval 2 3 v2 rfl rfl) h2
  subst hi2
  refine (law2_c m1 i2 W ht (LtAll.nil _)).mono fun e W' he => ?_
  cases e with
  | panicked c => exact he.elim
  | outgrown => exact he.elim
  | returned v =>
    obtain ⟨rfl, hg⟩ := he
    have hbelow : Below W.heap.size W W' := hg.below
    refine ⟨_, rfl, _, _, _, [] ++ [], p0 ++ (p1 ++ p2), [], hW', ?_, ?_, rfl, hbelow.frame _, fun h => by cases h⟩
    · exact trodAll_mk1 (shut_bool Try.underlying4 true)
    · exact trodAll_mk3 (Below.trod laidOutRowB (by kernel_rfl) (of_decide_eq_true (by kernel_rfl)) h0 hbelow hlt0) (Below.trod laidOutRowB (by kernel_rfl) (of_decide_eq_true (by kernel_rfl)) h1 hbelow hlt1) (Below.trod laidOutRowB (by kernel_rfl) (of_decide_eq_true (by kernel_rfl)) h2 hbelow hlt2)
theorem tradeTakeSpec_holds : Rows.TradeTakeSpecSaid :=
  OpenClaim.holds_of_wide 4 Try.f4 rfl rfl rfl rfl rfl rfl rfl ⟨rfl, rfl, rfl, rfl, rfl⟩ rfl rfl rfl rfl rfl (by kernel_rfl) Try.func4 (by kernel_rfl)
    (of_decide_eq_true (by kernel_rfl)) (by unfold Func.isWrapper; first | (rw [if_pos (by decide +kernel)]; kernel_rfl) | (rw [if_neg (by decide +kernel)]; exact ⟨rfl, rfl⟩))
    (fun os started H enc _ => tradeTakeSpec_lifted os started H enc)
#print axioms tradeTakeSpec_holds
end Go.Proofs.Ytigimkmkbdnlpaa
