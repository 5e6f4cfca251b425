-- Written by fvprint.py, a program of this session over the kit's print. Not trusted: Lean checks it.
import Derived.Test.YtcfjdpegllnhfaaDoorFFnExactFollowerTextx0
import Derived.Test.YtcfjdpegllnhfaaDoorFFnExactFollowerTextx1
import Derived.Test.YtcfjdpegllnhfaaDoorFFnExactFollowerTextx2
namespace Go.Proofs.YtcfjdpegllnhfaaDoor.FFnExactFollowerText
open Go.RowKit Go.Proofs.YtcfjdpegllnhfaaDoorW.PrintWords Go.Proofs.YtcfjdpegllnhfaaDoorW.PrintLast Go.Proofs.YtcfjdpegllnhfaaDoorW.PrintMore
attribute [local go_sem] max2_int min2_int max_two min_two max_three min_three max_four min_four   -- for this text's walks alone
set_option linter.unusedVariables false
set_option linter.unusedSimpArgs false

end Go.Proofs.YtcfjdpegllnhfaaDoor.FFnExactFollowerText
