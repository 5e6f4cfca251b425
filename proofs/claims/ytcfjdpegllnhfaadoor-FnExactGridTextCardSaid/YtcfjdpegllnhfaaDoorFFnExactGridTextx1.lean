import Derived.Test.YtcfjdpegllnhfaaDoorFFnExactGridTextx0
namespace Go.Proofs.YtcfjdpegllnhfaaDoor.FFnExactGridText
open Go.RowKit Go.Proofs.YtcfjdpegllnhfaaDoorW.PrintWords Go.Proofs.YtcfjdpegllnhfaaDoor.GT
set_option linter.unusedVariables false
def laws_FnExactGridText.f (l0 : List Int) : Option (Bool) := if (∀ x ∈ l0, 0 ≤ x ∧ x < 18446744073709551616) then some true else none
theorem laws_FnExactGridText.calls (l0 : List Int) (hl0 : l0.length = 64) (r : Bool) (w : World) (htab : GF w) (h : laws_FnExactGridText.f l0 = some r) :
    Calls Tryd.prog 6 #[.agg (encs (Value.int .u64) l0).toArray] w fun e w' => e = .returned (.bool r) ∧ Below w.heap.size w w' := by
  unfold laws_FnExactGridText.f at h
  split at h
  · obtain rfl := Option.some.inj h
    exact law l0 ⟨hl0, by assumption⟩ w htab
  · exact absurd h (by simp)
end Go.Proofs.YtcfjdpegllnhfaaDoor.FFnExactGridText
