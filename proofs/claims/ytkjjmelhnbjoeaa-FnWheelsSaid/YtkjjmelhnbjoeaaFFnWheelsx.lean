-- Written by fvprint.py, a program of this session over the kit's print. Not trusted: Lean checks it.
import Derived.Test.YtkjjmelhnbjoeaaFFnWheelsx0
import Derived.Test.YtkjjmelhnbjoeaaFFnWheelsx1
import Derived.Test.YtkjjmelhnbjoeaaFFnWheelsx2
import Derived.Test.YtkjjmelhnbjoeaaFFnWheelsx3
import Derived.Test.YtkjjmelhnbjoeaaFFnWheelsx4
namespace Go.Proofs.Ytkjjmelhnbjoeaa.FFnWheels
open Go.RowKit Go.Proofs.YtkjjmelhnbjoeaaW.PrintWords Go.Proofs.YtkjjmelhnbjoeaaW.PrintLast Go.Proofs.YtkjjmelhnbjoeaaW.PrintMore
attribute [local go_sem] max2_int min2_int max_two min_two max_three min_three max_four min_four   -- for this text's walks alone
set_option linter.unusedVariables false
set_option linter.unusedSimpArgs false

end Go.Proofs.Ytkjjmelhnbjoeaa.FFnWheels
