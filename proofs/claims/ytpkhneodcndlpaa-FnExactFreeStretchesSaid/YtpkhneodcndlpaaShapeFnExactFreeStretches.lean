/- The shapes of the arguments of FnExactFreeStretches: for each type what is read there. No conditions. -/
import Derived.Test.YtpkhneodcndlpaaRead
import Derived.Test.YtpkhneodcndlpaaFFnExactFreeStretchesx0
namespace Go.Proofs.Ytpkhneodcndlpaa.FFnExactFreeStretches
open Go.RowKit Go.ChangeShapes Go.WideShapes Go.Proofs.Ytpkhneodcndlpaa.Read Go.Proofs.YtpkhneodcndlpaaW.PrintWords
def F4 : Bool → Prop := fun _ => True
theorem rd4 {H : Type} {enc : TypeId × Value → H} : Rd enc Try.prog 4 Kd.bool F4 := rd_bool Try.underlying4 (by kernel_rfl)
def F60 : List Bool → Prop := fun xs => xs.length ≤ maxLen ∧ ∀ x ∈ xs, F4 x
theorem rd60 {H : Type} {enc : TypeId × Value → H} : Rd enc Try.prog 60 (Kd.slice 4 Kd.bool) F60 := rd_slice Try.underlying60 (by kernel_rfl) rd4
abbrev by_4 : Nat := 1
end Go.Proofs.Ytpkhneodcndlpaa.FFnExactFreeStretches
