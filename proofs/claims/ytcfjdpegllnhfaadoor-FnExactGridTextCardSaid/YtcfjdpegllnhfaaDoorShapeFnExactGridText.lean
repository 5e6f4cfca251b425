/- The shapes of the arguments of FnExactGridText: for each type what is read there. No conditions. -/
import Derived.Test.YtcfjdpegllnhfaaDoorRead
import Derived.Test.YtcfjdpegllnhfaaDoorFFnExactGridTextx0
namespace Go.Proofs.YtcfjdpegllnhfaaDoor.FFnExactGridText
open Go.RowKit Go.ChangeShapes Go.WideShapes Go.Proofs.YtcfjdpegllnhfaaDoor.Read Go.Proofs.YtcfjdpegllnhfaaDoorW.PrintWords
def F37 : Int → Prop := fun a => (Lit.int .u64 a).wf = true
theorem rd37 {H : Type} {enc : TypeId × Value → H} : Rd enc Tryd.prog 37 (Kd.int .u64) F37 := rd_int Tryd.underlying37 (by kernel_rfl)
def F38v : List Int → Prop := fun xs => xs.length = 64 ∧ ∀ x ∈ xs, F37 x
theorem rd38v {H : Type} {enc : TypeId × Value → H} : Rd enc Tryd.prog 38 (Kd.arr 64 (Kd.int .u64) (by decide)) F38v := rd_array Tryd.underlying38 (by kernel_rfl) rd37
end Go.Proofs.YtcfjdpegllnhfaaDoor.FFnExactGridText
