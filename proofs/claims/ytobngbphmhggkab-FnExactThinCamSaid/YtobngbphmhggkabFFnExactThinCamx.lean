-- Written by fvprint.py, a program of this session over the kit's print. Not trusted: Lean checks it.
import Derived.Test.YtobngbphmhggkabFFnExactThinCamx0
import Derived.Test.YtobngbphmhggkabFFnExactThinCamx1
import Derived.Test.YtobngbphmhggkabFFnExactThinCamx2
import Derived.Test.YtobngbphmhggkabFFnExactThinCamx3
namespace Go.Proofs.Ytobngbphmhggkab.FFnExactThinCam
open Go.RowKit Go.Proofs.YtobngbphmhggkabW.PrintWords Go.Proofs.YtobngbphmhggkabW.PrintLast Go.Proofs.YtobngbphmhggkabW.PrintMore
attribute [local go_sem] max2_int min2_int max_two min_two max_three min_three max_four min_four   -- for this text's walks alone
set_option linter.unusedVariables false
set_option linter.unusedSimpArgs false

end Go.Proofs.Ytobngbphmhggkab.FFnExactThinCam
