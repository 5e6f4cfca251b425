import Derived.Test.YtcclfndbglgbiaaFFnExactValidMarkx0
namespace Go.Proofs.Ytcclfndbglgbiaa.FFnExactValidMark
open Go.RowKit Go.Proofs.YtcclfndbglgbiaaW.PrintWords Go.Proofs.Ytcclfndbglgbiaa.Arr
set_option linter.unusedVariables false
def laws_FnExactValidMark.f (l0 : List Int) : Option (Bool) := some true
theorem laws_FnExactValidMark.calls (l0 : List Int) (hl0 : l0.length = 2) (r : Bool) (w : World) (h : laws_FnExactValidMark.f l0 = some r) :
    Calls Try.prog 5 #[.agg (encs (Value.int .i16) l0).toArray] w fun e w' => e = .returned (.bool r) ∧ Below w.heap.size w w' := by
  obtain rfl := Option.some.inj h
  exact law _ (encs_size hl0) (encs_all hl0) w
end Go.Proofs.Ytcclfndbglgbiaa.FFnExactValidMark
