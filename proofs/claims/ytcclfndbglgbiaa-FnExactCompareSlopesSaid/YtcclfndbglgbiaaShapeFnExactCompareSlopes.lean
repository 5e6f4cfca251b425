/- The shapes of the arguments of FnExactCompareSlopes: for each type what is read there. No conditions. -/
import Derived.Test.YtcclfndbglgbiaaRead
import Derived.Test.YtcclfndbglgbiaaFFnExactCompareSlopesx0
namespace Go.Proofs.Ytcclfndbglgbiaa.FFnExactCompareSlopes
open Go.RowKit Go.ChangeShapes Go.WideShapes Go.Proofs.Ytcclfndbglgbiaa.Read Go.Proofs.YtcclfndbglgbiaaW.PrintWords
def F2 : Int → Prop := fun a => (Lit.int .i64 a).wf = true
theorem rd2 {H : Type} {enc : TypeId × Value → H} : Rd enc Try.prog 2 (Kd.int .i64) F2 := rd_int Try.underlying2 (by kernel_rfl)
def F56v : Int × Int → Prop := fun x => F2 x.1 ∧ F2 x.2
theorem rd56v {H : Type} {enc : TypeId × Value → H} : Rd enc Try.prog 56 (Kd.pair (Kd.int .i64) (Kd.int .i64)) F56v := rd_struct Try.underlying56 (by kernel_rfl) (rdf_cons rfl rd2 (rdf_one rfl rd2))
end Go.Proofs.Ytcclfndbglgbiaa.FFnExactCompareSlopes
