/- The pure statement of the law FnExactHasPair is proved: for every input that the law speaks of, the law's function answers true. No conditions beyond the statement's own. -/
import Derived.Test.YtcclfndbglgbiaaFFnExactHasPairx
import Derived.Test.YtcclfndbglgbiaaShapeFnExactHasPair
namespace Go.Proofs.Ytcclfndbglgbiaa.Pure
open Go.RowKit Go.Proofs.Ytcclfndbglgbiaa.FFnExactHasPair Go.Proofs.YtcclfndbglgbiaaW.PrintWords Go.Proofs.YtcclfndbglgbiaaW.PrintLast
set_option linter.unusedVariables false

theorem FnExactHasPair (l0 : List Int) (a1 : Int) (a2 : Int) (hF0 : F29v l0) (w1 : (Lit.int .i64 a1).wf = true) (w2 : (Lit.int .i64 a2).wf = true) : laws_FnExactHasPair.f l0 a1 a2 = some true := rfl

end Go.Proofs.Ytcclfndbglgbiaa.Pure
