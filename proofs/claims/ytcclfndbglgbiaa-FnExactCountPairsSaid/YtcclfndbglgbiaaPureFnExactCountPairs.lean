/- The pure statement of the law FnExactCountPairs is proved: for every input that the law speaks of, the law's function answers true. No conditions beyond the statement's own. -/
import Derived.Test.YtcclfndbglgbiaaFFnExactCountPairsx
import Derived.Test.YtcclfndbglgbiaaShapeFnExactCountPairs
import Derived.OpenShut
namespace Go.Proofs.Ytcclfndbglgbiaa.Pure
open Go.RowKit Go.Proofs.Ytcclfndbglgbiaa.FFnExactCountPairs Go.Proofs.YtcclfndbglgbiaaW.PrintWords Go.Proofs.YtcclfndbglgbiaaW.PrintLast
set_option linter.unusedVariables false

theorem FnExactCountPairs (l0 : List Int) (hF0 : F29v l0) : laws_FnExactCountPairs.f l0 = some true := by
  unfold laws_FnExactCountPairs.f
  refine if_pos fun x hx => ?_
  have h : (Lit.int .u64 x).wf = true := hF0.2 x hx
  have := Go.bounds_u64 h
  omega

end Go.Proofs.Ytcclfndbglgbiaa.Pure
