/- The pure statement of the law FnExactHasInk is proved: for every input that the law speaks of, the law's function answers true. No conditions beyond the statement's own. -/
import Derived.Test.YtcclfndbglgbiaaFFnExactHasInkx
import Derived.Test.YtcclfndbglgbiaaShapeFnExactHasInk
import Derived.OpenShut
namespace Go.Proofs.Ytcclfndbglgbiaa.Pure
open Go.RowKit Go.Proofs.Ytcclfndbglgbiaa.FFnExactHasInk Go.Proofs.YtcclfndbglgbiaaW.PrintWords Go.Proofs.YtcclfndbglgbiaaW.PrintLast
set_option linter.unusedVariables false

theorem FnExactHasInk (l0 : List Int) (l1 : List Int) (hF0 : F29v l0) (hF1 : F35v l1) : laws_FnExactHasInk.f l0 l1 = some true := by
  unfold laws_FnExactHasInk.f
  refine if_pos fun x hx => ?_
  have h : (Lit.int .i16 x).wf = true := hF1.2 x hx
  exact Go.bounds_i16 h

end Go.Proofs.Ytcclfndbglgbiaa.Pure
