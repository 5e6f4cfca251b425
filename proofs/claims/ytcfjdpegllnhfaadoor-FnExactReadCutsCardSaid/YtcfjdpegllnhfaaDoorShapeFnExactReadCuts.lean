/- The shapes of the arguments of FnExactReadCuts: for each type what is read there. No conditions. -/
import Derived.Test.YtcfjdpegllnhfaaDoorRead
import Derived.Test.YtcfjdpegllnhfaaDoorFFnExactReadCutsx0
namespace Go.Proofs.YtcfjdpegllnhfaaDoor.FFnExactReadCuts
open Go.RowKit Go.ChangeShapes Go.WideShapes Go.Proofs.YtcfjdpegllnhfaaDoor.Read Go.Proofs.YtcfjdpegllnhfaaDoorW.PrintWords
end Go.Proofs.YtcfjdpegllnhfaaDoor.FFnExactReadCuts
