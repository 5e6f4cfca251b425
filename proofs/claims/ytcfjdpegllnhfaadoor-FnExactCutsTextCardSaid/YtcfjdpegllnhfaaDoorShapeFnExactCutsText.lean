/- The shapes of the arguments of FnExactCutsText: for each type what is read there. No conditions. -/
import Derived.Test.YtcfjdpegllnhfaaDoorRead
import Derived.Test.YtcfjdpegllnhfaaDoorFFnExactCutsTextx0
namespace Go.Proofs.YtcfjdpegllnhfaaDoor.FFnExactCutsText
open Go.RowKit Go.ChangeShapes Go.WideShapes Go.Proofs.YtcfjdpegllnhfaaDoor.Read Go.Proofs.YtcfjdpegllnhfaaDoorW.PrintWords
def F59 : Int → Prop := fun a => (Lit.int .i16 a).wf = true
theorem rd59 {H : Type} {enc : TypeId × Value → H} : Rd enc Tryd.prog 59 (Kd.int .i16) F59 := rd_int Tryd.underlying59 (by kernel_rfl)
def F60 : Int → Prop := fun a => (Lit.int .i8 a).wf = true
theorem rd60 {H : Type} {enc : TypeId × Value → H} : Rd enc Tryd.prog 60 (Kd.int .i8) F60 := rd_int Tryd.underlying60 (by kernel_rfl)
def F64 : S64 → Prop := fun x => F59 x.f0 ∧ F59 x.f1 ∧ F60 x.f2
theorem rd64 {H : Type} {enc : TypeId × Value → H} : Rd enc Tryd.prog 64 k64 F64 := rd_iso (fun x => (⟨x.1, x.2.1, x.2.2⟩ : S64)) (fun _ => rfl) (fun _ h => h) (rd_struct Tryd.underlying64 (by kernel_rfl) (rdf_cons rfl rd59 (rdf_cons rfl rd59 (rdf_one rfl rd60))))
def F30 : List S64 → Prop := fun xs => xs.length ≤ maxLen ∧ ∀ x ∈ xs, F64 x
theorem rd30 {H : Type} {enc : TypeId × Value → H} : Rd enc Tryd.prog 30 (Kd.slice 64 k64) F30 := rd_slice Tryd.underlying30 (by kernel_rfl) rd64
abbrev by_64 : Nat := 6
end Go.Proofs.YtcfjdpegllnhfaaDoor.FFnExactCutsText
