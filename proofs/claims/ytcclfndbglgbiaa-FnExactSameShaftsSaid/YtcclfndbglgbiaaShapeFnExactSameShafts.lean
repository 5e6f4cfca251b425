/- The shapes of the arguments of FnExactSameShafts: for each type what is read there. No conditions. -/
import Derived.Test.YtcclfndbglgbiaaRead
import Derived.Test.YtcclfndbglgbiaaFFnExactSameShaftsx0
namespace Go.Proofs.Ytcclfndbglgbiaa.FFnExactSameShafts
open Go.RowKit Go.ChangeShapes Go.WideShapes Go.Proofs.Ytcclfndbglgbiaa.Read Go.Proofs.YtcclfndbglgbiaaW.PrintWords
def F34 : Int → Prop := fun a => (Lit.int .i16 a).wf = true
theorem rd34 {H : Type} {enc : TypeId × Value → H} : Rd enc Try.prog 34 (Kd.int .i16) F34 := rd_int Try.underlying34 (by kernel_rfl)
def F62 : List Int → Prop := fun xs => xs.length ≤ maxLen ∧ ∀ x ∈ xs, F34 x
theorem rd62 {H : Type} {enc : TypeId × Value → H} : Rd enc Try.prog 62 (Kd.slice 34 (Kd.int .i16)) F62 := rd_slice Try.underlying62 (by kernel_rfl) rd34
def F116 : S116 → Prop := fun x => F34 x.f0 ∧ F34 x.f1 ∧ F34 x.f2 ∧ F62 x.f3
theorem rd116 {H : Type} {enc : TypeId × Value → H} : Rd enc Try.prog 116 k116 F116 := rd_iso (fun x => (⟨x.1, x.2.1, x.2.2.1, x.2.2.2⟩ : S116)) (fun _ => rfl) (fun _ h => h) (rd_struct Try.underlying116 (by kernel_rfl) (rdf_cons rfl rd34 (rdf_cons rfl rd34 (rdf_cons rfl rd34 (rdf_one rfl rd62)))))
def F84 : List S116 → Prop := fun xs => xs.length ≤ maxLen ∧ ∀ x ∈ xs, F116 x
theorem rd84 {H : Type} {enc : TypeId × Value → H} : Rd enc Try.prog 84 (Kd.slice 116 k116) F84 := rd_slice Try.underlying84 (by kernel_rfl) rd116
abbrev by_116 : Nat := 32
end Go.Proofs.Ytcclfndbglgbiaa.FFnExactSameShafts
