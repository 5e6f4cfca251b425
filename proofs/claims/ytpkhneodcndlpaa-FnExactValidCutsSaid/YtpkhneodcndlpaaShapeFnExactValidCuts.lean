/- The shapes of the arguments of FnExactValidCuts: for each type what is read there. No conditions. -/
import Derived.Test.YtpkhneodcndlpaaRead
import Derived.Test.YtpkhneodcndlpaaFFnExactValidCutsx0
namespace Go.Proofs.Ytpkhneodcndlpaa.FFnExactValidCuts
open Go.RowKit Go.ChangeShapes Go.WideShapes Go.Proofs.Ytpkhneodcndlpaa.Read Go.Proofs.YtpkhneodcndlpaaW.PrintWords
def F47 : Int → Prop := fun a => (Lit.int .i16 a).wf = true
theorem rd47 {H : Type} {enc : TypeId × Value → H} : Rd enc Try.prog 47 (Kd.int .i16) F47 := rd_int Try.underlying47 (by kernel_rfl)
def F48 : Int → Prop := fun a => (Lit.int .i8 a).wf = true
theorem rd48 {H : Type} {enc : TypeId × Value → H} : Rd enc Try.prog 48 (Kd.int .i8) F48 := rd_int Try.underlying48 (by kernel_rfl)
def F74 : S74 → Prop := fun x => F47 x.f0 ∧ F47 x.f1 ∧ F48 x.f2
theorem rd74 {H : Type} {enc : TypeId × Value → H} : Rd enc Try.prog 74 k74 F74 := rd_iso (fun x => (⟨x.1, x.2.1, x.2.2⟩ : S74)) (fun _ => rfl) (fun _ h => h) (rd_struct Try.underlying74 (by kernel_rfl) (rdf_cons rfl rd47 (rdf_cons rfl rd47 (rdf_one rfl rd48))))
def F22 : List S74 → Prop := fun xs => xs.length ≤ maxLen ∧ ∀ x ∈ xs, F74 x
theorem rd22 {H : Type} {enc : TypeId × Value → H} : Rd enc Try.prog 22 (Kd.slice 74 k74) F22 := rd_slice Try.underlying22 (by kernel_rfl) rd74
abbrev by_74 : Nat := 6
def F78 : List Int → Prop := fun xs => xs.length ≤ maxLen ∧ ∀ x ∈ xs, F47 x
theorem rd78 {H : Type} {enc : TypeId × Value → H} : Rd enc Try.prog 78 (Kd.slice 47 (Kd.int .i16)) F78 := rd_slice Try.underlying78 (by kernel_rfl) rd47
def F30 : List (List Int) → Prop := fun xs => xs.length ≤ maxLen ∧ ∀ x ∈ xs, F78 x
theorem rd30 {H : Type} {enc : TypeId × Value → H} : Rd enc Try.prog 30 (Kd.slice 78 (Kd.slice 47 (Kd.int .i16))) F30 := rd_slice Try.underlying30 (by kernel_rfl) rd78
abbrev by_78 : Nat := 24
end Go.Proofs.Ytpkhneodcndlpaa.FFnExactValidCuts
