/- The shapes of the arguments of FnExactSameMachine: for each type what is read there. No conditions. -/
import Derived.Test.YtcclfndbglgbiaaRead
import Derived.Test.YtcclfndbglgbiaaFFnExactSameMachinex0
namespace Go.Proofs.Ytcclfndbglgbiaa.FFnExactSameMachine
open Go.RowKit Go.ChangeShapes Go.WideShapes Go.Proofs.Ytcclfndbglgbiaa.Read Go.Proofs.YtcclfndbglgbiaaW.PrintWords
def F34 : Int → Prop := fun a => (Lit.int .i16 a).wf = true
theorem rd34 {H : Type} {enc : TypeId × Value → H} : Rd enc Try.prog 34 (Kd.int .i16) F34 := rd_int Try.underlying34 (by kernel_rfl)
def F62 : List Int → Prop := fun xs => xs.length ≤ maxLen ∧ ∀ x ∈ xs, F34 x
theorem rd62 {H : Type} {enc : TypeId × Value → H} : Rd enc Try.prog 62 (Kd.slice 34 (Kd.int .i16)) F62 := rd_slice Try.underlying62 (by kernel_rfl) rd34
def F64v : (List Int) × (List Int) × (List Int) → Prop := fun x => F62 x.1 ∧ F62 x.2.1 ∧ F62 x.2.2
theorem rd64v {H : Type} {enc : TypeId × Value → H} : Rd enc Try.prog 64 (Kd.pair (Kd.slice 34 (Kd.int .i16)) (Kd.pair (Kd.slice 34 (Kd.int .i16)) (Kd.slice 34 (Kd.int .i16)))) F64v := rd_struct Try.underlying64 (by kernel_rfl) (rdf_cons rfl rd62 (rdf_cons rfl rd62 (rdf_one rfl rd62)))
end Go.Proofs.Ytcclfndbglgbiaa.FFnExactSameMachine
