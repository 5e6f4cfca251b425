/- The pure statement of the law FnExactShapeOf is proved: for every input that the law speaks of, the law's function answers true. No conditions beyond the statement's own. -/
import Derived.Test.YtkjjmelhnbjoeaaPFnExactShapeOfx1
namespace Go.Proofs.Ytkjjmelhnbjoeaa.Pure
open Go.RowKit Go.Proofs.Ytkjjmelhnbjoeaa.PFnExactShapeOf Go.Proofs.YtkjjmelhnbjoeaaW.PrintWords Go.Proofs.YtkjjmelhnbjoeaaW.PrintLast
set_option linter.unusedVariables false

theorem FnExactShapeOf : laws_FnExactShapeOf.Pure := by
  intro a0 a1 a2 _ _ _
  have hI : ∀ a b c, impl_inRange.f a b c = some (decide (b ≤ a ∧ a ≤ c)) := by
    intro a b c; unfold impl_inRange.f
    by_cases h : b ≤ a
    · rw [if_pos h]; simp [h]
    · rw [if_neg h]; simp [h]
  have hS : ∀ a b c, spec_l00In.f a b c = some (decide (b ≤ a ∧ a ≤ c)) := by
    intro a b c; unfold spec_l00In.f
    by_cases h : b ≤ a
    · rw [if_pos h]; simp [h]
    · rw [if_neg h]; simp [h]
  have e : impl_ShapeOf.f a0 a1 a2 = spec_ShapeOf.f a0 a1 a2 := by
    unfold impl_ShapeOf.f spec_ShapeOf.f impl_isShape.f spec_l02Asked.f impl_isLaw.f spec_l02Law.f
    simp only [hI, hS, Option.bind_some]
    by_cases h : 0 ≤ a0 ∧ a0 ≤ 3
    · have hsh : impl_shape.f a0 a1 a2 = spec_l02Shape.f a0 a1 a2 := by
        unfold impl_shape.f spec_l02Shape.f
        rcases (by omega : a0 = 0 ∨ a0 = 1 ∨ a0 = 2 ∨ a0 = 3) with h' | h' | h' | h' <;> subst h' <;> simp
      rw [hsh]
    · simp [h]
  have hs : ∃ r, spec_ShapeOf.f a0 a1 a2 = some r := by
    unfold spec_ShapeOf.f spec_l02Asked.f spec_l02Law.f
    simp only [hS, Option.bind_some]
    have hsh : ∃ q, spec_l02Shape.f a0 a1 a2 = some q := by
      unfold spec_l02Shape.f; (repeat' split) <;> exact ⟨_, rfl⟩
    obtain ⟨q, hq⟩ := hsh
    rw [hq]; simp only [Option.bind_some]
    by_cases c : 0 ≤ a0 ∧ a0 ≤ 3 <;> by_cases c' : 1 ≤ a2 ∧ a2 ≤ 360 <;> simp [c, c'] <;> (try split) <;> exact ⟨_, _, _, rfl⟩
  obtain ⟨r, hr⟩ := hs
  unfold laws_FnExactShapeOf.f
  rw [e, hr]; simp

end Go.Proofs.Ytkjjmelhnbjoeaa.Pure
