/- The pure statement of the law FnExactValidMark is proved: for every input that the law speaks of, the law's function answers true. No conditions beyond the statement's own. -/
import Derived.Test.YtcclfndbglgbiaaFFnExactValidMarkx
import Derived.Test.YtcclfndbglgbiaaShapeFnExactValidMark
namespace Go.Proofs.Ytcclfndbglgbiaa.Pure
open Go.RowKit Go.Proofs.Ytcclfndbglgbiaa.FFnExactValidMark Go.Proofs.YtcclfndbglgbiaaW.PrintWords Go.Proofs.YtcclfndbglgbiaaW.PrintLast
set_option linter.unusedVariables false

theorem FnExactValidMark (l0 : List Int) (hF0 : F35v l0) : laws_FnExactValidMark.f l0 = some true := rfl

end Go.Proofs.Ytcclfndbglgbiaa.Pure
