/- The shapes of the arguments of FnExactFollowerText: for each type what is read there. No conditions. -/
import Derived.Test.YtcfjdpegllnhfaaDoorRead
import Derived.Test.YtcfjdpegllnhfaaDoorFFnExactFollowerTextx0
namespace Go.Proofs.YtcfjdpegllnhfaaDoor.FFnExactFollowerText
open Go.RowKit Go.ChangeShapes Go.WideShapes Go.Proofs.YtcfjdpegllnhfaaDoor.Read Go.Proofs.YtcfjdpegllnhfaaDoorW.PrintWords
def F2 : Int → Prop := fun a => (Lit.int .i64 a).wf = true
theorem rd2 {H : Type} {enc : TypeId × Value → H} : Rd enc Tryd.prog 2 (Kd.int .i64) F2 := rd_int Tryd.underlying2 (by kernel_rfl)
def F25v : Int × Int → Prop := fun x => F2 x.1 ∧ F2 x.2
theorem rd25v {H : Type} {enc : TypeId × Value → H} : Rd enc Tryd.prog 25 (Kd.pair (Kd.int .i64) (Kd.int .i64)) F25v := rd_struct Tryd.underlying25 (by kernel_rfl) (rdf_cons rfl rd2 (rdf_one rfl rd2))
end Go.Proofs.YtcfjdpegllnhfaaDoor.FFnExactFollowerText
