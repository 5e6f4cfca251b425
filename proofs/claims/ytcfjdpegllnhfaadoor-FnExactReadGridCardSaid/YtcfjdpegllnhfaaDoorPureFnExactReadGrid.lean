/- The pure statement of the law FnExactReadGrid is proved: for every input that the law speaks of, the law's function answers true. No conditions beyond the statement's own. -/
import Derived.Test.YtcfjdpegllnhfaaDoorFFnExactReadGridx
namespace Go.Proofs.YtcfjdpegllnhfaaDoor.Pure
open Go.RowKit Go.Proofs.YtcfjdpegllnhfaaDoor.FFnExactReadGrid Go.Proofs.YtcfjdpegllnhfaaDoorW.PrintWords Go.Proofs.YtcfjdpegllnhfaaDoorW.PrintLast
set_option linter.unusedVariables false

theorem FnExactReadGrid (a0 : ByteArray) (w0 : a0.size ≤ 140737488351232) : laws_FnExactReadGrid.f a0 = some true := rfl

end Go.Proofs.YtcfjdpegllnhfaaDoor.Pure
