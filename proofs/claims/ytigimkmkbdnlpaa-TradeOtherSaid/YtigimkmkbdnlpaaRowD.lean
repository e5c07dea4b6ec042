/- The row TradeOther. -/
import Derived.Test.YtigimkmkbdnlpaaRows
import Derived.Test.YtigimkmkbdnlpaaFj
import Derived.Test.YtigimkmkbdnlpaaArg
namespace Go.Proofs.Ytigimkmkbdnlpaa
open Go.ChangeShapes Go.WideShapes Go.ChangeAt Go.RowKit

theorem ownRowD : ownKnob Try.prog.godebug = none := by kernel_rfl
theorem laidOutRowD : laidOutB Try.prog = true := by kernel_rfl
set_option maxRecDepth 100000 in
theorem tradeOther_lifted (os : Os) (started : os.Started) (H : Type) (enc : TypeId × Value → H) :
    ReturnsInHanded {} Try.checked os 7 .any (Rows.tradeOtherSpec.pre6 enc Try.prog Try.f7 Rows.tradeOtherRow.domain false) (Rows.tradeOtherSpec.post enc Try.prog Try.f7 false true false false) := by
  refine returnsInHanded_of_change (C := Try.checked) ownRowD started (by kernel_rfl) Try.func7
    (ChangeSpec.witness6 (enc := enc) (C := Try.checked) false ⟨#[], #[TV.zero.val, .agg Msg.zero.arr, .int .i64 0, .int .i64 0], []⟩ 8 (by kernel_rfl) (by kernel_rfl) (by kernel_rfl) (by kernel_rfl)) ?_
  intro W base args ds gs before hval0 hW hcnd _
  have hval : ∀ (j : Nat) t v, Try.f7.params[j]? = some t → args[j]? = some v → Value.okWide Try.prog W .any base t v := hval0
  have hW' := hW
  obtain ⟨p, q, hA0, hV, rfl, hfz, hnd⟩ := hW
  have hA : DataW.TrodAll enc Try.prog W 0 (fun _ => true) true Try.f7.params.toList args.toList ds p := hA0
  rw [Try.params7] at hA hval
  obtain ⟨v0, v1, v2, v3, d0, d1, d2, d3, p0, p1, p2, p3, rfl, rfl, rfl, h0, h1, h2, h3⟩ := trodAll_four hA
  obtain ⟨rfl, rfl⟩ := trodVars_none hV
  have hlt0 : ∀ x ∈ p0, x.block < W.heap.size := fun x hx => by simpa using hW'.lt x (by simp [hx])
  have hlt1 : ∀ x ∈ p1, x.block < W.heap.size := fun x hx => by simpa using hW'.lt x (by simp [hx])
  have hlt2 : ∀ x ∈ p2, x.block < W.heap.size := fun x hx => by simpa using hW'.lt x (by simp [hx])
  have hlt3 : ∀ x ∈ p3, x.block < W.heap.size := fun x hx => by simpa using hW'.lt x (by simp [hx])
  obtain ⟨T, t, rfl, ht⟩ := open_trade (hval 0 24 v0 rfl rfl) h0
  obtain ⟨m1, rfl⟩ := open_msg (hval 1 30 v1 rfl rfl) h1
  obtain ⟨i2, hi2, _⟩ := open_int Try.underlying3 (hval 2 3 v2 rfl rfl) h2
  subst hi2
  obtain ⟨i3, hi3, wf3⟩ := open_int Try.underlying3 (hval 3 3 v3 rfl rfl) h3
  subst hi3
  refine (law5_c m1 i2 i3 W ht (LtAll.nil _) (bounds_i64 wf3.2.2)).mono fun e W' he => ?_
  cases e with
  | panicked c => exact he.elim
  | outgrown => exact he.elim
  | returned v =>
    obtain ⟨rfl, hg⟩ := he
    have hbelow : Below W.heap.size W W' := hg.below
    refine ⟨_, rfl, _, _, _, [] ++ [], p0 ++ (p1 ++ (p2 ++ p3)), [], hW', ?_, ?_, rfl, hbelow.frame _, fun h => by cases h⟩
    · exact trodAll_mk1 (shut_bool Try.underlying4 true)
    · exact trodAll_mk4 (Below.trod laidOutRowD (by kernel_rfl) (of_decide_eq_true (by kernel_rfl)) h0 hbelow hlt0) (Below.trod laidOutRowD (by kernel_rfl) (of_decide_eq_true (by kernel_rfl)) h1 hbelow hlt1) (Below.trod laidOutRowD (by kernel_rfl) (of_decide_eq_true (by kernel_rfl)) h2 hbelow hlt2) (Below.trod laidOutRowD (by kernel_rfl) (of_decide_eq_true (by kernel_rfl)) h3 hbelow hlt3)
theorem tradeOther_holds : Rows.TradeOtherSaid :=
  OpenClaim.holds_of_wide 7 Try.f7 rfl rfl rfl rfl rfl rfl rfl ⟨rfl, rfl, rfl, rfl, rfl⟩ rfl rfl rfl rfl rfl (by kernel_rfl) Try.func7 (by kernel_rfl)
    (of_decide_eq_true (by kernel_rfl)) (by unfold Func.isWrapper; first | (rw [if_pos (by decide +kernel)]; kernel_rfl) | (rw [if_neg (by decide +kernel)]; exact ⟨rfl, rfl⟩))
    (fun os started H enc _ => tradeOther_lifted os started H enc)
#print axioms tradeOther_holds
end Go.Proofs.Ytigimkmkbdnlpaa
