/- The shapes of the arguments of FnExactReadGrid: for each type what is read there. No conditions. -/
import Derived.Test.YtcfjdpegllnhfaaDoorRead
import Derived.Test.YtcfjdpegllnhfaaDoorFFnExactReadGridx0
namespace Go.Proofs.YtcfjdpegllnhfaaDoor.FFnExactReadGrid
open Go.RowKit Go.ChangeShapes Go.WideShapes Go.Proofs.YtcfjdpegllnhfaaDoor.Read Go.Proofs.YtcfjdpegllnhfaaDoorW.PrintWords
end Go.Proofs.YtcfjdpegllnhfaaDoor.FFnExactReadGrid
