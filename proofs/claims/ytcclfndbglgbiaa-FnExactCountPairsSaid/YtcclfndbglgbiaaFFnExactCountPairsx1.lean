import Derived.Test.YtcclfndbglgbiaaFFnExactCountPairsx0
namespace Go.Proofs.Ytcclfndbglgbiaa.FFnExactCountPairs
open Go.RowKit Go.Proofs.YtcclfndbglgbiaaW.PrintWords Go.Proofs.Ytcclfndbglgbiaa.Arr
set_option linter.unusedVariables false
def laws_FnExactCountPairs.f (l0 : List Int) : Option (Bool) := if (∀ x ∈ l0, 0 ≤ x ∧ x < 18446744073709551616) then some true else none
theorem laws_FnExactCountPairs.calls (l0 : List Int) (hl0 : l0.length = 64) (r : Bool) (w : World) (h : laws_FnExactCountPairs.f l0 = some r) :
    Calls Try.prog 9 #[.agg (encs (Value.int .u64) l0).toArray] w fun e w' => e = .returned (.bool r) ∧ Below w.heap.size w w' := by
  unfold laws_FnExactCountPairs.f at h
  by_cases hb : ∀ x ∈ l0, 0 ≤ x ∧ x < 18446744073709551616
  · rw [if_pos hb] at h
    obtain rfl := Option.some.inj h
    exact law _ (encs_size hl0) (encs_all hl0) (good_of l0 hl0 hb) w
  · rw [if_neg hb] at h; cases h
end Go.Proofs.Ytcclfndbglgbiaa.FFnExactCountPairs
