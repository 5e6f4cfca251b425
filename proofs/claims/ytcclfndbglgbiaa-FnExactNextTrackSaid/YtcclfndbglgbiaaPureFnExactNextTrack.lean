/- The pure statement of the law FnExactNextTrack is proved: for every input that the law speaks of, the law's function answers true. No conditions beyond the statement's own. -/
import Derived.Test.YtcclfndbglgbiaaFFnExactNextTrackx
import Derived.Test.YtcclfndbglgbiaaShapeFnExactNextTrack
namespace Go.Proofs.Ytcclfndbglgbiaa.Pure
open Go.RowKit Go.Proofs.Ytcclfndbglgbiaa.FFnExactNextTrack Go.Proofs.YtcclfndbglgbiaaW.PrintWords Go.Proofs.YtcclfndbglgbiaaW.PrintLast
set_option linter.unusedVariables false

theorem impl_inRange_t (a b c : Int) : impl_inRange.f a b c = some (decide (b ≤ a ∧ a ≤ c)) := by
  unfold impl_inRange.f
  by_cases h : b ≤ a
  · rw [if_pos h]; simp [h]
  · rw [if_neg h]; simp [h]
theorem spec_l00In_t (a b c : Int) : spec_l00In.f a b c = some (decide (b ≤ a ∧ a ≤ c)) := by
  unfold spec_l00In.f
  by_cases h : b ≤ a
  · rw [if_pos h]; simp [h]
  · rw [if_neg h]; simp [h]
theorem eqT (a b : Int) (c : Bool) : laws_eqTrack.f a b c a b c = some true := by
  unfold laws_eqTrack.f
  rw [if_pos rfl, if_pos rfl]; simp
theorem same (a b : Int) (c : Bool) (x y : Int) : impl_NextTrack.f a b c x y = spec_NextTrack.f a b c x y := by
  unfold impl_NextTrack.f spec_NextTrack.f spec_l01Lift.f impl_isLift.f impl_isSpring.f
  simp only [spec_l00In_t, impl_inRange_t, Option.bind_some]
  rfl
theorem tells (a b : Int) (c : Bool) (x y : Int) : ∃ r, spec_NextTrack.f a b c x y = some r := by
  unfold spec_NextTrack.f spec_l01Lift.f
  simp only [spec_l00In_t, Option.bind_some]
  have n : ∃ q, spec_l03Next.f a b c x y = some q := by
    unfold spec_l03Next.f
    split
    · exact ⟨_, rfl⟩
    · exact ⟨_, rfl⟩
  obtain ⟨q, hq⟩ := n
  rw [hq]
  repeat' split
  all_goals exact ⟨_, rfl⟩
theorem FnExactNextTrack (a0_0 : Int) (a0_1 : Int) (a0_2 : Bool) (a1 : Int) (a2 : Int) (hF0 : F45v (a0_0, a0_1, a0_2)) (w1 : (Lit.int .i64 a1).wf = true) (w2 : (Lit.int .i64 a2).wf = true) : laws_FnExactNextTrack.f a0_0 a0_1 a0_2 a1 a2 = some true := by
  obtain ⟨r, hr⟩ := tells a0_0 a0_1 a0_2 a1 a2
  unfold laws_FnExactNextTrack.f laws_toTrack.f
  simp only [Option.bind_some, same, hr, eqT, if_true]

end Go.Proofs.Ytcclfndbglgbiaa.Pure
