-- Written by fvprint.py, a program of this session over the kit's print. Not trusted: Lean checks it.
import Derived.Test.YtobngbphmhggkaaFFnShapesx0
import Derived.Test.YtobngbphmhggkaaFFnShapesx1
import Derived.Test.YtobngbphmhggkaaFFnShapesx2
import Derived.Test.YtobngbphmhggkaaFFnShapesx3
namespace Go.Proofs.Ytobngbphmhggkaa.FFnShapes
open Go.RowKit Go.Proofs.YtobngbphmhggkaaW.PrintWords Go.Proofs.YtobngbphmhggkaaW.PrintLast Go.Proofs.YtobngbphmhggkaaW.PrintMore
attribute [local go_sem] max2_int min2_int max_two min_two max_three min_three max_four min_four   -- for this text's walks alone
set_option linter.unusedVariables false
set_option linter.unusedSimpArgs false

end Go.Proofs.Ytobngbphmhggkaa.FFnShapes
