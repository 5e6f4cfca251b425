/- The card of FnExactGridText (door seat): the row's statement and the given tie. No conditions beyond the statement's own. -/
import Derived.Test.YtcfjdpegllnhfaaDoorRowFnExactGridText
import Derived.Test.YtcfjdpegllnhfaaDoorTie
import Derived.Test.YtcfjdpegllnhfaaDoorCards
import Derived.SevenTiedAt
namespace Go.Proofs.YtcfjdpegllnhfaaDoor
open Go
theorem fnExactGridText_card : Rows.FnExactGridTextCardSaid :=
  Claim7.holds_tied_plain_at .later [] [.data, .data, .data] true (true, "a2b906efb331917fd94e5a87f6c35ce2dfa5e441200a978f6ea36e3282cb18cb") true
    fnExactGridText.proved (fun _ h => by cases h) (by kernel_rfl) (fun _ h => by cases h) fnExactGridText_row_tie rfl ⟨rfl, rfl⟩ (by kernel_rfl) rfl
    (fun f fn hf hfn => by
      obtain rfl : f = 6 := Option.some.inj ((show Tryd.prog.funcNamed "loop.example/g01264/laws.FnExactGridText" = some 6 by kernel_rfl).symm.trans hf) |>.symm
      obtain rfl : fn = Tryd.f6 := (Option.some.inj (Tryd.func6.symm.trans hfn)).symm
      exact ⟨by kernel_rfl, fun j t ht => by
        rw [Tryd.params6] at ht
        have hm : t ∈ [38] := by simpa using Array.mem_of_getElem? ht
        have hall : ([38].all fun u => !Tryd.prog.wantsStandIn u) = true := by kernel_rfl
        exact (show Tryd.prog.wantsStandIn t = false by simpa using List.all_eq_true.1 hall t hm)⟩)
    (by kernel_rfl)
#print axioms fnExactGridText_card
end Go.Proofs.YtcfjdpegllnhfaaDoor
