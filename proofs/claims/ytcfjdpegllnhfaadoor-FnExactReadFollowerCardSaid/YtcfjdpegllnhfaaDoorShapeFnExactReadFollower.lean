/- The shapes of the arguments of FnExactReadFollower: for each type what is read there. No conditions. -/
import Derived.Test.YtcfjdpegllnhfaaDoorRead
import Derived.Test.YtcfjdpegllnhfaaDoorFFnExactReadFollowerx0
namespace Go.Proofs.YtcfjdpegllnhfaaDoor.FFnExactReadFollower
open Go.RowKit Go.ChangeShapes Go.WideShapes Go.Proofs.YtcfjdpegllnhfaaDoor.Read Go.Proofs.YtcfjdpegllnhfaaDoorW.PrintWords
end Go.Proofs.YtcfjdpegllnhfaaDoor.FFnExactReadFollower
