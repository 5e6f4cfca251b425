/- The shapes of the arguments of FnExactCountPairs: for each type what is read there. No conditions. -/
import Derived.Test.YtcclfndbglgbiaaRead
import Derived.Test.YtcclfndbglgbiaaFFnExactCountPairsx0
namespace Go.Proofs.Ytcclfndbglgbiaa.FFnExactCountPairs
open Go.RowKit Go.ChangeShapes Go.WideShapes Go.Proofs.Ytcclfndbglgbiaa.Read Go.Proofs.YtcclfndbglgbiaaW.PrintWords
def F28 : Int → Prop := fun a => (Lit.int .u64 a).wf = true
theorem rd28 {H : Type} {enc : TypeId × Value → H} : Rd enc Try.prog 28 (Kd.int .u64) F28 := rd_int Try.underlying28 (by kernel_rfl)
def F29v : List Int → Prop := fun xs => xs.length = 64 ∧ ∀ x ∈ xs, F28 x
theorem rd29v {H : Type} {enc : TypeId × Value → H} : Rd enc Try.prog 29 (Kd.arr 64 (Kd.int .u64) (by decide)) F29v := rd_array Try.underlying29 (by kernel_rfl) rd28
end Go.Proofs.Ytcclfndbglgbiaa.FFnExactCountPairs
