/- The shapes of the arguments of FnExactSameProgram: for each type what is read there. No conditions. -/
import Derived.Test.YtcclfndbglgbiaaRead
import Derived.Test.YtcclfndbglgbiaaFFnExactSameProgramx0
namespace Go.Proofs.Ytcclfndbglgbiaa.FFnExactSameProgram
open Go.RowKit Go.ChangeShapes Go.WideShapes Go.Proofs.Ytcclfndbglgbiaa.Read Go.Proofs.YtcclfndbglgbiaaW.PrintWords
def F34 : Int → Prop := fun a => (Lit.int .i16 a).wf = true
theorem rd34 {H : Type} {enc : TypeId × Value → H} : Rd enc Try.prog 34 (Kd.int .i16) F34 := rd_int Try.underlying34 (by kernel_rfl)
def F107 : Int → Prop := fun a => (Lit.int .i8 a).wf = true
theorem rd107 {H : Type} {enc : TypeId × Value → H} : Rd enc Try.prog 107 (Kd.int .i8) F107 := rd_int Try.underlying107 (by kernel_rfl)
def F124 : S124 → Prop := fun x => F107 x.f0 ∧ F34 x.f1 ∧ F34 x.f2
theorem rd124 {H : Type} {enc : TypeId × Value → H} : Rd enc Try.prog 124 k124 F124 := rd_iso (fun x => (⟨x.1, x.2.1, x.2.2⟩ : S124)) (fun _ => rfl) (fun _ h => h) (rd_struct Try.underlying124 (by kernel_rfl) (rdf_cons rfl rd107 (rdf_cons rfl rd34 (rdf_one rfl rd34))))
def F72 : List S124 → Prop := fun xs => xs.length ≤ maxLen ∧ ∀ x ∈ xs, F124 x
theorem rd72 {H : Type} {enc : TypeId × Value → H} : Rd enc Try.prog 72 (Kd.slice 124 k124) F72 := rd_slice Try.underlying72 (by kernel_rfl) rd124
def F74v : Int × (List S124) → Prop := fun x => F34 x.1 ∧ F72 x.2
theorem rd74v {H : Type} {enc : TypeId × Value → H} : Rd enc Try.prog 74 (Kd.pair (Kd.int .i16) (Kd.slice 124 k124)) F74v := rd_struct Try.underlying74 (by kernel_rfl) (rdf_cons rfl rd34 (rdf_one rfl rd72))
end Go.Proofs.Ytcclfndbglgbiaa.FFnExactSameProgram
