-- Written by fvprint.py, a program of this session over the kit's print. Not trusted: Lean checks it.
import Derived.Test.YtknbbmmmegajoaaFFnExactEasiestLawx0
import Derived.Test.YtknbbmmmegajoaaFFnExactEasiestLawx1
import Derived.Test.YtknbbmmmegajoaaFFnExactEasiestLawx2
import Derived.Test.YtknbbmmmegajoaaFFnExactEasiestLawx3
namespace Go.Proofs.Ytknbbmmmegajoaa.FFnExactEasiestLaw
open Go.RowKit Go.Proofs.YtknbbmmmegajoaaW.PrintWords Go.Proofs.YtknbbmmmegajoaaW.PrintLast Go.Proofs.YtknbbmmmegajoaaW.PrintMore
attribute [local go_sem] max2_int min2_int max_two min_two max_three min_three max_four min_four   -- for this text's walks alone
set_option linter.unusedVariables false
set_option linter.unusedSimpArgs false

end Go.Proofs.Ytknbbmmmegajoaa.FFnExactEasiestLaw
