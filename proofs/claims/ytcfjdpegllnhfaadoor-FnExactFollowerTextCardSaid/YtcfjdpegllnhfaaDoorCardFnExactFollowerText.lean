/- The card of FnExactFollowerText (door seat): the row's statement and the given tie. No conditions beyond the statement's own. -/
import Derived.Test.YtcfjdpegllnhfaaDoorRowFnExactFollowerText
import Derived.Test.YtcfjdpegllnhfaaDoorTie
import Derived.Test.YtcfjdpegllnhfaaDoorCards
import Derived.SevenTiedAt
namespace Go.Proofs.YtcfjdpegllnhfaaDoor
open Go
theorem fnExactFollowerText_card : Rows.FnExactFollowerTextCardSaid :=
  Claim7.holds_tied_plain_at .later [] [.data, .data, .data] true (true, "a2b906efb331917fd94e5a87f6c35ce2dfa5e441200a978f6ea36e3282cb18cb") true
    fnExactFollowerText.proved (fun _ h => by cases h) (by kernel_rfl) (fun _ h => by cases h) fnExactFollowerText_row_tie rfl ⟨rfl, rfl⟩ (by kernel_rfl) rfl
    (fun f fn hf hfn => by
      obtain rfl : f = 4 := Option.some.inj ((show Tryd.prog.funcNamed "loop.example/g01264/laws.FnExactFollowerText" = some 4 by kernel_rfl).symm.trans hf) |>.symm
      obtain rfl : fn = Tryd.f4 := (Option.some.inj (Tryd.func4.symm.trans hfn)).symm
      exact ⟨by kernel_rfl, fun j t ht => by
        rw [Tryd.params4] at ht
        have hm : t ∈ [25] := by simpa using Array.mem_of_getElem? ht
        have hall : ([25].all fun u => !Tryd.prog.wantsStandIn u) = true := by kernel_rfl
        exact (show Tryd.prog.wantsStandIn t = false by simpa using List.all_eq_true.1 hall t hm)⟩)
    (by kernel_rfl)
#print axioms fnExactFollowerText_card
end Go.Proofs.YtcfjdpegllnhfaaDoor
