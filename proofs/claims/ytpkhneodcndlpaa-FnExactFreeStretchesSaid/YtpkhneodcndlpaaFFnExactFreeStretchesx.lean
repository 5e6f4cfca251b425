-- Written by fvprint.py, a program of this session over the kit's print. Not trusted: Lean checks it.
import Derived.Test.YtpkhneodcndlpaaFFnExactFreeStretchesx0
import Derived.Test.YtpkhneodcndlpaaFFnExactFreeStretchesx1
import Derived.Test.YtpkhneodcndlpaaFFnExactFreeStretchesx2
import Derived.Test.YtpkhneodcndlpaaFFnExactFreeStretchesx3
import Derived.Test.YtpkhneodcndlpaaFFnExactFreeStretchesx4
namespace Go.Proofs.Ytpkhneodcndlpaa.FFnExactFreeStretches
open Go.RowKit Go.Proofs.YtpkhneodcndlpaaW.PrintWords Go.Proofs.YtpkhneodcndlpaaW.PrintLast Go.Proofs.YtpkhneodcndlpaaW.PrintMore
attribute [local go_sem] max2_int min2_int max_two min_two max_three min_three max_four min_four   -- for this text's walks alone
set_option linter.unusedVariables false
set_option linter.unusedSimpArgs false

end Go.Proofs.Ytpkhneodcndlpaa.FFnExactFreeStretches
