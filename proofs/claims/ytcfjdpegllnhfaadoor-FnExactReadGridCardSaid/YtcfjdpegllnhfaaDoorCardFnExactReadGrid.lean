/- The card of FnExactReadGrid (door seat): the row's statement and the given tie. No conditions beyond the statement's own. -/
import Derived.Test.YtcfjdpegllnhfaaDoorRowFnExactReadGrid
import Derived.Test.YtcfjdpegllnhfaaDoorTie
import Derived.Test.YtcfjdpegllnhfaaDoorCards
import Derived.SevenTiedAt
namespace Go.Proofs.YtcfjdpegllnhfaaDoor
open Go
theorem fnExactReadGrid_card : Rows.FnExactReadGridCardSaid :=
  Claim7.holds_tied_plain_at .later [] [.data, .data, .data, .data, .sentinel, .sentinel, .pinned] true (true, "a2b906efb331917fd94e5a87f6c35ce2dfa5e441200a978f6ea36e3282cb18cb") true
    fnExactReadGrid.proved (fun _ h => by cases h) (by kernel_rfl) (fun _ h => by cases h) fnExactReadGrid_row_tie rfl ⟨rfl, rfl⟩ (by kernel_rfl) rfl
    (fun f fn hf hfn => by
      obtain rfl : f = 9 := Option.some.inj ((show Tryd.prog.funcNamed "loop.example/g01264/laws.FnExactReadGrid" = some 9 by kernel_rfl).symm.trans hf) |>.symm
      obtain rfl : fn = Tryd.f9 := (Option.some.inj (Tryd.func9.symm.trans hfn)).symm
      exact ⟨by kernel_rfl, fun j t ht => by
        rw [Tryd.params9] at ht
        have hm : t ∈ [9] := by simpa using Array.mem_of_getElem? ht
        have hall : ([9].all fun u => !Tryd.prog.wantsStandIn u) = true := by kernel_rfl
        exact (show Tryd.prog.wantsStandIn t = false by simpa using List.all_eq_true.1 hall t hm)⟩)
    (by kernel_rfl)
#print axioms fnExactReadGrid_card
end Go.Proofs.YtcfjdpegllnhfaaDoor
