/- The shapes of the arguments of FnExactHasInk: for each type what is read there. No conditions. -/
import Derived.Test.YtcclfndbglgbiaaRead
import Derived.Test.YtcclfndbglgbiaaFFnExactHasInkx0
namespace Go.Proofs.Ytcclfndbglgbiaa.FFnExactHasInk
open Go.RowKit Go.ChangeShapes Go.WideShapes Go.Proofs.Ytcclfndbglgbiaa.Read Go.Proofs.YtcclfndbglgbiaaW.PrintWords
def F28 : Int → Prop := fun a => (Lit.int .u64 a).wf = true
theorem rd28 {H : Type} {enc : TypeId × Value → H} : Rd enc Try.prog 28 (Kd.int .u64) F28 := rd_int Try.underlying28 (by kernel_rfl)
def F29v : List Int → Prop := fun xs => xs.length = 64 ∧ ∀ x ∈ xs, F28 x
theorem rd29v {H : Type} {enc : TypeId × Value → H} : Rd enc Try.prog 29 (Kd.arr 64 (Kd.int .u64) (by decide)) F29v := rd_array Try.underlying29 (by kernel_rfl) rd28
def F34 : Int → Prop := fun a => (Lit.int .i16 a).wf = true
theorem rd34 {H : Type} {enc : TypeId × Value → H} : Rd enc Try.prog 34 (Kd.int .i16) F34 := rd_int Try.underlying34 (by kernel_rfl)
def F35v : List Int → Prop := fun xs => xs.length = 2 ∧ ∀ x ∈ xs, F34 x
theorem rd35v {H : Type} {enc : TypeId × Value → H} : Rd enc Try.prog 35 (Kd.arr 2 (Kd.int .i16) (by decide)) F35v := rd_array Try.underlying35 (by kernel_rfl) rd34
end Go.Proofs.Ytcclfndbglgbiaa.FFnExactHasInk
