-- Written by fvprint.py, a program of this session over the kit's print. Not trusted: Lean checks it.
import Derived.Test.YtcclfndbglgbiaaFFnExactSameProgramx0
import Derived.Test.YtcclfndbglgbiaaFFnExactSameProgramx1
import Derived.Test.YtcclfndbglgbiaaFFnExactSameProgramx2
import Derived.Test.YtcclfndbglgbiaaFFnExactSameProgramx3
import Derived.Test.YtcclfndbglgbiaaFFnExactSameProgramx4
namespace Go.Proofs.Ytcclfndbglgbiaa.FFnExactSameProgram
open Go.RowKit Go.Proofs.YtcclfndbglgbiaaW.PrintWords Go.Proofs.YtcclfndbglgbiaaW.PrintLast Go.Proofs.YtcclfndbglgbiaaW.PrintMore
attribute [local go_sem] max2_int min2_int max_two min_two max_three min_three max_four min_four   -- for this text's walks alone
set_option linter.unusedVariables false
set_option linter.unusedSimpArgs false

end Go.Proofs.Ytcclfndbglgbiaa.FFnExactSameProgram
