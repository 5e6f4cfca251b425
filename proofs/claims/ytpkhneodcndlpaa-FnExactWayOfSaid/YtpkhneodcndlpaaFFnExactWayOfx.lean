-- Written by fvprint.py, a program of this session over the kit's print. Not trusted: Lean checks it.
import Derived.Test.YtpkhneodcndlpaaFFnExactWayOfx0
import Derived.Test.YtpkhneodcndlpaaFFnExactWayOfx1
import Derived.Test.YtpkhneodcndlpaaFFnExactWayOfx2
import Derived.Test.YtpkhneodcndlpaaFFnExactWayOfx3
import Derived.Test.YtpkhneodcndlpaaFFnExactWayOfx4
namespace Go.Proofs.Ytpkhneodcndlpaa.FFnExactWayOf
open Go.RowKit Go.Proofs.YtpkhneodcndlpaaW.PrintWords Go.Proofs.YtpkhneodcndlpaaW.PrintLast Go.Proofs.YtpkhneodcndlpaaW.PrintMore
attribute [local go_sem] max2_int min2_int max_two min_two max_three min_three max_four min_four   -- for this text's walks alone
set_option linter.unusedVariables false
set_option linter.unusedSimpArgs false

end Go.Proofs.Ytpkhneodcndlpaa.FFnExactWayOf
