-- Written by fvprint.py, a program of this session over the kit's print. Not trusted: Lean checks it.
import Derived.Test.YtpkhneodcndlpaaFFnExactPlanStepsx0
import Derived.Test.YtpkhneodcndlpaaFFnExactPlanStepsx1
import Derived.Test.YtpkhneodcndlpaaFFnExactPlanStepsx2
import Derived.Test.YtpkhneodcndlpaaFFnExactPlanStepsx3
import Derived.Test.YtpkhneodcndlpaaFFnExactPlanStepsx4
import Derived.Test.YtpkhneodcndlpaaFFnExactPlanStepsx5
import Derived.Test.YtpkhneodcndlpaaFFnExactPlanStepsx6
import Derived.Test.YtpkhneodcndlpaaFFnExactPlanStepsx7
namespace Go.Proofs.Ytpkhneodcndlpaa.FFnExactPlanSteps
open Go.RowKit Go.Proofs.YtpkhneodcndlpaaW.PrintWords Go.Proofs.YtpkhneodcndlpaaW.PrintLast Go.Proofs.YtpkhneodcndlpaaW.PrintMore
attribute [local go_sem] max2_int min2_int max_two min_two max_three min_three max_four min_four   -- for this text's walks alone
set_option linter.unusedVariables false
set_option linter.unusedSimpArgs false

end Go.Proofs.Ytpkhneodcndlpaa.FFnExactPlanSteps
