/- The pure statement of the law FnExactCompareSlopes is proved: for every input that the law speaks of, the law's function answers true. No conditions beyond the statement's own. -/
import Derived.Test.YtcclfndbglgbiaaFFnExactCompareSlopesx
import Derived.Test.YtcclfndbglgbiaaShapeFnExactCompareSlopes
namespace Go.Proofs.Ytcclfndbglgbiaa.Pure
open Go.RowKit Go.Proofs.Ytcclfndbglgbiaa.FFnExactCompareSlopes Go.Proofs.YtcclfndbglgbiaaW.PrintWords Go.Proofs.YtcclfndbglgbiaaW.PrintLast
set_option linter.unusedVariables false

theorem impl_inRange_t (a b c : Int) : impl_inRange.f a b c = some (decide (b ≤ a ∧ a ≤ c)) := by
  unfold impl_inRange.f
  by_cases h : b ≤ a
  · rw [if_pos h]; simp [h]
  · rw [if_neg h]; simp [h]
theorem spec_l00In_t (a b c : Int) : spec_l00In.f a b c = some (decide (b ≤ a ∧ a ≤ c)) := by
  unfold spec_l00In.f
  by_cases h : b ≤ a
  · rw [if_pos h]; simp [h]
  · rw [if_neg h]; simp [h]
theorem size (a : Int) (h : -1000000000 ≤ a ∧ a ≤ 1000000000) : spec_l01Size.f a = impl_abs.f a := by
  unfold spec_l01Size.f impl_abs.f mx wrap64
  split
  · congr 1; split <;> omega
  · congr 1; split <;> omega
theorem tot (a : Int) : ∃ q, impl_abs.f a = some q := ⟨_, rfl⟩
theorem cmpT (a b c d : Int) : ∃ q, impl_compareSlopes.f a b c d = some q := by
  unfold impl_compareSlopes.f
  obtain ⟨x, hx⟩ := tot a
  obtain ⟨y, hy⟩ := tot c
  rw [hx, hy]
  simp only [Option.bind_some]
  repeat' split
  all_goals exact ⟨_, rfl⟩
theorem cmpS (a b c d : Int) (h : -1000000000 ≤ a ∧ a ≤ 1000000000) (h' : -1000000000 ≤ c ∧ c ≤ 1000000000) : spec_l03Cmp.f a b c d = impl_compareSlopes.f a b c d := by
  unfold spec_l03Cmp.f impl_compareSlopes.f
  rw [size a h, size c h']
theorem told (a b : Int) : spec_l03Told.f a b = some (decide ((1 ≤ b ∧ b ≤ 1000000000) ∧ (-1000000000 ≤ a ∧ a ≤ 1000000000))) := by
  unfold spec_l03Told.f
  simp only [spec_l00In_t, Option.bind_some]
  by_cases h : 1 ≤ b ∧ b ≤ 1000000000
  · rw [if_pos (by simpa using h)]; simp [h]
  · rw [if_neg (by simpa using h)]; simp [h]
theorem toldI (a b : Int) : impl_isSlope.f a b = some (decide ((1 ≤ b ∧ b ≤ 1000000000) ∧ (-1000000000 ≤ a ∧ a ≤ 1000000000))) := by
  unfold impl_isSlope.f
  simp only [impl_inRange_t, Option.bind_some]
  by_cases h : 1 ≤ b ∧ b ≤ 1000000000
  · rw [if_pos (by simpa using h)]; simp [h]
  · rw [if_neg (by simpa using h)]; simp [h]
theorem both (a b c d : Int) : ∃ r, spec_CompareSlopes.f a b c d = some r ∧ impl_CompareSlopes.f a b c d = some r := by
  unfold spec_CompareSlopes.f impl_CompareSlopes.f
  rw [told a b, told c d, toldI a b, toldI c d]
  simp only [Option.bind_some]
  by_cases h : (1 ≤ b ∧ b ≤ 1000000000) ∧ (-1000000000 ≤ a ∧ a ≤ 1000000000)
  · by_cases h2 : (1 ≤ d ∧ d ≤ 1000000000) ∧ (-1000000000 ≤ c ∧ c ≤ 1000000000)
    · obtain ⟨q, hq⟩ := cmpT a b c d
      rw [cmpS a b c d h.2 h2.2, hq]
      exact ⟨(q, 0), by simp [h, h2]⟩
    · exact ⟨(0, 1), by simp [h, h2]⟩
  · exact ⟨(0, 1), by simp [h]⟩
theorem FnExactCompareSlopes (a0_0 : Int) (a0_1 : Int) (a1_0 : Int) (a1_1 : Int) (hF0 : F56v (a0_0, a0_1)) (hF1 : F56v (a1_0, a1_1)) : laws_FnExactCompareSlopes.f a0_0 a0_1 a1_0 a1_1 = some true := by
  obtain ⟨r, h1, h2⟩ := both a0_0 a0_1 a1_0 a1_1
  unfold laws_FnExactCompareSlopes.f laws_toSlope.f
  simp only [Option.bind_some, h1, h2, if_true]

end Go.Proofs.Ytcclfndbglgbiaa.Pure
