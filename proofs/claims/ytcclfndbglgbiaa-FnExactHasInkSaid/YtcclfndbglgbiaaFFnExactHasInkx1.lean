import Derived.Test.YtcclfndbglgbiaaFFnExactHasInkx0
namespace Go.Proofs.Ytcclfndbglgbiaa.FFnExactHasInk
open Go.RowKit Go.Proofs.YtcclfndbglgbiaaW.PrintWords Go.Proofs.Ytcclfndbglgbiaa.Arr
set_option linter.unusedVariables false
def laws_FnExactHasInk.f (l0 l1 : List Int) : Option (Bool) := if (∀ x ∈ l1, -32768 ≤ x ∧ x ≤ 32767) then some true else none
theorem laws_FnExactHasInk.calls (l0 : List Int) (hl0 : l0.length = 64) (l1 : List Int) (hl1 : l1.length = 2) (r : Bool) (w : World) (h : laws_FnExactHasInk.f l0 l1 = some r) :
    Calls Try.prog 6 #[.agg (encs (Value.int .u64) l0).toArray, .agg (encs (Value.int .i16) l1).toArray] w fun e w' => e = .returned (.bool r) ∧ Below w.heap.size w w' := by
  unfold laws_FnExactHasInk.f at h
  by_cases hb : (∀ x ∈ l1, -32768 ≤ x ∧ x ≤ 32767)
  · rw [if_pos hb] at h
    obtain rfl := Option.some.inj h
    match l1, hl1, hb with
    | [a, b], hl1, hb =>
      exact law _ _ (encs_size hl0) (encs_size hl1) (encs_all hl0) (encs_all hl1) a b rfl rfl ⟨hb a (by simp), hb b (by simp)⟩ w
  · rw [if_neg hb] at h; cases h
end Go.Proofs.Ytcclfndbglgbiaa.FFnExactHasInk
