-- Written by fvprint.py, a program of this session over the kit's print. Not trusted: Lean checks it.
import Derived.Test.YtcclfndbglgbiaaFFnExactValidProgramx0
import Derived.Test.YtcclfndbglgbiaaFFnExactValidProgramx1
import Derived.Test.YtcclfndbglgbiaaFFnExactValidProgramx2
import Derived.Test.YtcclfndbglgbiaaFFnExactValidProgramx3
import Derived.Test.YtcclfndbglgbiaaFFnExactValidProgramx4
namespace Go.Proofs.Ytcclfndbglgbiaa.FFnExactValidProgram
open Go.RowKit Go.Proofs.YtcclfndbglgbiaaW.PrintWords Go.Proofs.YtcclfndbglgbiaaW.PrintLast Go.Proofs.YtcclfndbglgbiaaW.PrintMore
attribute [local go_sem] max2_int min2_int max_two min_two max_three min_three max_four min_four   -- for this text's walks alone
set_option linter.unusedVariables false
set_option linter.unusedSimpArgs false

end Go.Proofs.Ytcclfndbglgbiaa.FFnExactValidProgram
