/- The pure statement of the law FnExactGridText is proved: for every input that the law speaks of, the law's function answers true. No conditions beyond the statement's own. -/
import Derived.Test.YtcfjdpegllnhfaaDoorFFnExactGridTextx
import Derived.Test.YtcfjdpegllnhfaaDoorShapeFnExactGridText
import Derived.OpenShut
namespace Go.Proofs.YtcfjdpegllnhfaaDoor.Pure
open Go.RowKit Go.Proofs.YtcfjdpegllnhfaaDoor.FFnExactGridText Go.Proofs.YtcfjdpegllnhfaaDoorW.PrintWords Go.Proofs.YtcfjdpegllnhfaaDoorW.PrintLast
set_option linter.unusedVariables false

theorem FnExactGridText (l0 : List Int) (hF0 : F38v l0) : laws_FnExactGridText.f l0 = some true := by
  unfold laws_FnExactGridText.f
  rw [if_pos (fun x hx => by
    have h := hF0.2 x hx
    have h2 := Go.bounds_u64 h
    omega)]

end Go.Proofs.YtcfjdpegllnhfaaDoor.Pure
