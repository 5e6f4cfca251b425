/- The card of FnExactReadCuts (door seat): the row's statement and the given tie. No conditions beyond the statement's own. -/
import Derived.Test.YtcfjdpegllnhfaaDoorRowFnExactReadCuts
import Derived.Test.YtcfjdpegllnhfaaDoorTie
import Derived.Test.YtcfjdpegllnhfaaDoorCards
import Derived.SevenTiedAt
namespace Go.Proofs.YtcfjdpegllnhfaaDoor
open Go
theorem fnExactReadCuts_card : Rows.FnExactReadCutsCardSaid :=
  Claim7.holds_tied_plain_at .later [] [.data, .data, .data, .data, .sentinel, .sentinel, .pinned] true (true, "a2b906efb331917fd94e5a87f6c35ce2dfa5e441200a978f6ea36e3282cb18cb") true
    fnExactReadCuts.proved (fun _ h => by cases h) (by kernel_rfl) (fun _ h => by cases h) fnExactReadCuts_row_tie rfl ⟨rfl, rfl⟩ (by kernel_rfl) rfl
    (fun f fn hf hfn => by
      obtain rfl : f = 8 := Option.some.inj ((show Tryd.prog.funcNamed "loop.example/g01264/laws.FnExactReadCuts" = some 8 by kernel_rfl).symm.trans hf) |>.symm
      obtain rfl : fn = Tryd.f8 := (Option.some.inj (Tryd.func8.symm.trans hfn)).symm
      exact ⟨by kernel_rfl, fun j t ht => by
        rw [Tryd.params8] at ht
        have hm : t ∈ [9] := by simpa using Array.mem_of_getElem? ht
        have hall : ([9].all fun u => !Tryd.prog.wantsStandIn u) = true := by kernel_rfl
        exact (show Tryd.prog.wantsStandIn t = false by simpa using List.all_eq_true.1 hall t hm)⟩)
    (by kernel_rfl)
#print axioms fnExactReadCuts_card
end Go.Proofs.YtcfjdpegllnhfaaDoor
