/- The pure statement of the law FnExactValidFollower is proved: for every input that the law speaks of, the law's function answers true. No conditions beyond the statement's own. -/
import Derived.Test.YtcclfndbglgbiaaPFnExactValidFollowerx
import Derived.Test.YtcclfndbglgbiaaShapeFnExactValidFollower
namespace Go.Proofs.Ytcclfndbglgbiaa.Pure
open Go.RowKit Go.Proofs.Ytcclfndbglgbiaa.PFnExactValidFollower Go.Proofs.YtcclfndbglgbiaaW.PrintWords Go.Proofs.YtcclfndbglgbiaaW.PrintLast
set_option linter.unusedVariables false

theorem impl_inRange_t (a b c : Int) : impl_inRange.f a b c = some (decide (b ≤ a ∧ a ≤ c)) := by
  unfold impl_inRange.f
  by_cases h : b ≤ a
  · rw [if_pos h]; simp [h]
  · rw [if_neg h]; simp [h]
theorem spec_l00In_t (a b c : Int) : spec_l00In.f a b c = some (decide (b ≤ a ∧ a ≤ c)) := by
  unfold spec_l00In.f
  by_cases h : b ≤ a
  · rw [if_pos h]; simp [h]
  · rw [if_neg h]; simp [h]
theorem FnExactValidFollower (a0_0 : Int) (a0_1 : Int) (hF0 : F23v (a0_0, a0_1)) : laws_FnExactValidFollower.f a0_0 a0_1 = some true := by
  unfold laws_FnExactValidFollower.f laws_toFollower.f spec_ValidFollower.f impl_ValidFollower.f spec_l03Ok.f impl_isSpring.f
  simp only [spec_l00In_t, impl_inRange_t, Option.bind_some]
  by_cases h : decide (1 ≤ a0_0 ∧ a0_0 ≤ 20000) = true
  · simp only [h, if_true, Option.bind_some, bne_self_eq_false, Bool.false_eq_true, if_false]
  · simp only [Bool.not_eq_true] at h
    simp only [h, Bool.false_eq_true, if_false, Option.bind_some, bne_self_eq_false]

end Go.Proofs.Ytcclfndbglgbiaa.Pure
