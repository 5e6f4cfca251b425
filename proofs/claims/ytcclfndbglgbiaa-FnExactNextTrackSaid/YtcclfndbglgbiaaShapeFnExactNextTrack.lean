/- The shapes of the arguments of FnExactNextTrack: for each type what is read there. No conditions. -/
import Derived.Test.YtcclfndbglgbiaaRead
import Derived.Test.YtcclfndbglgbiaaFFnExactNextTrackx0
namespace Go.Proofs.Ytcclfndbglgbiaa.FFnExactNextTrack
open Go.RowKit Go.ChangeShapes Go.WideShapes Go.Proofs.Ytcclfndbglgbiaa.Read Go.Proofs.YtcclfndbglgbiaaW.PrintWords
def F2 : Int → Prop := fun a => (Lit.int .i64 a).wf = true
theorem rd2 {H : Type} {enc : TypeId × Value → H} : Rd enc Try.prog 2 (Kd.int .i64) F2 := rd_int Try.underlying2 (by kernel_rfl)
def F4 : Bool → Prop := fun _ => True
theorem rd4 {H : Type} {enc : TypeId × Value → H} : Rd enc Try.prog 4 Kd.bool F4 := rd_bool Try.underlying4 (by kernel_rfl)
def F45v : Int × Int × Bool → Prop := fun x => F2 x.1 ∧ F2 x.2.1 ∧ F4 x.2.2
theorem rd45v {H : Type} {enc : TypeId × Value → H} : Rd enc Try.prog 45 (Kd.pair (Kd.int .i64) (Kd.pair (Kd.int .i64) Kd.bool)) F45v := rd_struct Try.underlying45 (by kernel_rfl) (rdf_cons rfl rd2 (rdf_cons rfl rd2 (rdf_one rfl rd4)))
end Go.Proofs.Ytcclfndbglgbiaa.FFnExactNextTrack
