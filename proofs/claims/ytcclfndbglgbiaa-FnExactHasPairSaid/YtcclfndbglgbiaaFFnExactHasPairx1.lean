import Derived.Test.YtcclfndbglgbiaaFFnExactHasPairx0
namespace Go.Proofs.Ytcclfndbglgbiaa.FFnExactHasPair
open Go.RowKit Go.Proofs.YtcclfndbglgbiaaW.PrintWords Go.Proofs.Ytcclfndbglgbiaa.Arr
set_option linter.unusedVariables false
def laws_FnExactHasPair.f (l0 : List Int) (a1 : Int) (a2 : Int) : Option (Bool) := some true
theorem laws_FnExactHasPair.calls (l0 : List Int) (hl0 : l0.length = 64) (a1 : Int) (a2 : Int) (r : Bool) (w : World) (h : laws_FnExactHasPair.f l0 a1 a2 = some r) :
    Calls Try.prog 4 #[.agg (encs (Value.int .u64) l0).toArray, .int .i64 a1, .int .i64 a2] w fun e w' => e = .returned (.bool r) ∧ Below w.heap.size w w' := by
  obtain rfl := Option.some.inj h
  exact law _ (encs_size hl0) (encs_all hl0) a1 a2 w
end Go.Proofs.Ytcclfndbglgbiaa.FFnExactHasPair
