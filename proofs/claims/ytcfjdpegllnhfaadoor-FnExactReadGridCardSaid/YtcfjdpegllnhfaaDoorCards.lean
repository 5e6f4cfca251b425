/-
  DERIVED. GIVEN WITH THE SEED: THE CARDS: each row of YtcfjdpegllnhfaaDoorRows.lean that lists a variable, with what it lists TIED to the program's text (the seventh form; the later family's looks); each row that meets fmt, with fmt's text TOLD by the authors' own Lean function (tested against real Go, not proved from fmt's source: count such statements apart). THE CARD IS WHAT COUNTS. Prove the row's statement (the work); the ties are given (YtcfjdpegllnhfaaDoorTie.lean); close each card by the builder's one call (the guide's Derived/Test/ToyasCard.lean, 'card_holds'). Laid BY PROGRAM, IN A SANDBOX (cutbox-door.mjs). By AI agents, Wed Nov 11 2026. No macro, syntax, notation, axiom, sorry.
-/
import Derived.Test.YtcfjdpegllnhfaaDoorRows
import GoSem.ClaimSeven
namespace Go.Proofs.YtcfjdpegllnhfaaDoor
namespace Rows

/-- THE TIED CARD OF 'laws.FnExactCodeName'. -/
def fnExactCodeNameCard : Claim7 := { stood := { row := fnExactCodeNameRow, standIns := [], harness := (true, "a2b906efb331917fd94e5a87f6c35ce2dfa5e441200a978f6ea36e3282cb18cb"), looks := true }, kinds := [], alts := [], laidByText := true, laidKinds := [.data], laidTests := true, laidLooks := .later }
def FnExactCodeNameCardSaid : Prop := Claim7.holds Tryd.pinned (.plain (OpenSpec.ofChange fnExactCodeNameSpec)) fnExactCodeNameCard

/-- THE TIED CARD OF 'laws.FnExactFollowerText'. -/
def fnExactFollowerTextCard : Claim7 := { stood := { row := fnExactFollowerTextRow, standIns := [], harness := (true, "a2b906efb331917fd94e5a87f6c35ce2dfa5e441200a978f6ea36e3282cb18cb"), looks := true }, kinds := [], alts := [], laidByText := true, laidKinds := [.data, .data, .data], laidTests := true, laidLooks := .later }
def FnExactFollowerTextCardSaid : Prop := Claim7.holds Tryd.pinned (.plain (OpenSpec.ofChange fnExactFollowerTextSpec)) fnExactFollowerTextCard

/-- THE TIED CARD OF 'laws.FnExactCutsText'. -/
def fnExactCutsTextCard : Claim7 := { stood := { row := fnExactCutsTextRow, standIns := [], harness := (true, "a2b906efb331917fd94e5a87f6c35ce2dfa5e441200a978f6ea36e3282cb18cb"), looks := true }, kinds := [], alts := [], laidByText := true, laidKinds := [.data, .data, .data], laidTests := true, laidLooks := .later }
def FnExactCutsTextCardSaid : Prop := Claim7.holds Tryd.pinned (.plain (OpenSpec.ofChange fnExactCutsTextSpec)) fnExactCutsTextCard

/-- THE TIED CARD OF 'laws.FnExactGridText'. -/
def fnExactGridTextCard : Claim7 := { stood := { row := fnExactGridTextRow, standIns := [], harness := (true, "a2b906efb331917fd94e5a87f6c35ce2dfa5e441200a978f6ea36e3282cb18cb"), looks := true }, kinds := [], alts := [], laidByText := true, laidKinds := [.data, .data, .data], laidTests := true, laidLooks := .later }
def FnExactGridTextCardSaid : Prop := Claim7.holds Tryd.pinned (.plain (OpenSpec.ofChange fnExactGridTextSpec)) fnExactGridTextCard

/-- THE TIED CARD OF 'laws.FnExactReadFollower'. -/
def fnExactReadFollowerCard : Claim7 := { stood := { row := fnExactReadFollowerRow, standIns := [], harness := (true, "a2b906efb331917fd94e5a87f6c35ce2dfa5e441200a978f6ea36e3282cb18cb"), looks := true }, kinds := [], alts := [], laidByText := true, laidKinds := [.data, .data, .data, .data, .sentinel, .sentinel, .pinned], laidTests := true, laidLooks := .later }
def FnExactReadFollowerCardSaid : Prop := Claim7.holds Tryd.pinned (.plain (OpenSpec.ofChange fnExactReadFollowerSpec)) fnExactReadFollowerCard

/-- THE TIED CARD OF 'laws.FnExactReadCuts'. -/
def fnExactReadCutsCard : Claim7 := { stood := { row := fnExactReadCutsRow, standIns := [], harness := (true, "a2b906efb331917fd94e5a87f6c35ce2dfa5e441200a978f6ea36e3282cb18cb"), looks := true }, kinds := [], alts := [], laidByText := true, laidKinds := [.data, .data, .data, .data, .sentinel, .sentinel, .pinned], laidTests := true, laidLooks := .later }
def FnExactReadCutsCardSaid : Prop := Claim7.holds Tryd.pinned (.plain (OpenSpec.ofChange fnExactReadCutsSpec)) fnExactReadCutsCard

/-- THE TIED CARD OF 'laws.FnExactReadGrid'. -/
def fnExactReadGridCard : Claim7 := { stood := { row := fnExactReadGridRow, standIns := [], harness := (true, "a2b906efb331917fd94e5a87f6c35ce2dfa5e441200a978f6ea36e3282cb18cb"), looks := true }, kinds := [], alts := [], laidByText := true, laidKinds := [.data, .data, .data, .data, .sentinel, .sentinel, .pinned], laidTests := true, laidLooks := .later }
def FnExactReadGridCardSaid : Prop := Claim7.holds Tryd.pinned (.plain (OpenSpec.ofChange fnExactReadGridSpec)) fnExactReadGridCard

/-- THE SECOND FORM's CARD OF 'laws.FnExactCodeName'. -/
def fnExactCodeNameUptoCard : Claim7 := { stood := { row := fnExactCodeNameUptoRow, standIns := [], harness := (true, "a2b906efb331917fd94e5a87f6c35ce2dfa5e441200a978f6ea36e3282cb18cb"), looks := true }, kinds := [], alts := [], laidByText := true, laidKinds := [.data], laidTests := true, laidLooks := .later }
def FnExactCodeNameUptoCardSaid : Prop := Claim7.holds Tryd.pinned (.plain (OpenSpec.upto fnExactCodeNameSpec)) fnExactCodeNameUptoCard

/-- THE SECOND FORM's CARD OF 'laws.FnExactFollowerText'. -/
def fnExactFollowerTextUptoCard : Claim7 := { stood := { row := fnExactFollowerTextUptoRow, standIns := [], harness := (true, "a2b906efb331917fd94e5a87f6c35ce2dfa5e441200a978f6ea36e3282cb18cb"), looks := true }, kinds := [], alts := [], laidByText := true, laidKinds := [.data, .data, .data], laidTests := true, laidLooks := .later }
def FnExactFollowerTextUptoCardSaid : Prop := Claim7.holds Tryd.pinned (.plain (OpenSpec.upto fnExactFollowerTextSpec)) fnExactFollowerTextUptoCard

/-- THE SECOND FORM's CARD OF 'laws.FnExactCutsText'. -/
def fnExactCutsTextUptoCard : Claim7 := { stood := { row := fnExactCutsTextUptoRow, standIns := [], harness := (true, "a2b906efb331917fd94e5a87f6c35ce2dfa5e441200a978f6ea36e3282cb18cb"), looks := true }, kinds := [], alts := [], laidByText := true, laidKinds := [.data, .data, .data], laidTests := true, laidLooks := .later }
def FnExactCutsTextUptoCardSaid : Prop := Claim7.holds Tryd.pinned (.plain (OpenSpec.upto fnExactCutsTextSpec)) fnExactCutsTextUptoCard

/-- THE SECOND FORM's CARD OF 'laws.FnExactGridText'. -/
def fnExactGridTextUptoCard : Claim7 := { stood := { row := fnExactGridTextUptoRow, standIns := [], harness := (true, "a2b906efb331917fd94e5a87f6c35ce2dfa5e441200a978f6ea36e3282cb18cb"), looks := true }, kinds := [], alts := [], laidByText := true, laidKinds := [.data, .data, .data], laidTests := true, laidLooks := .later }
def FnExactGridTextUptoCardSaid : Prop := Claim7.holds Tryd.pinned (.plain (OpenSpec.upto fnExactGridTextSpec)) fnExactGridTextUptoCard

/-- THE SECOND FORM's CARD OF 'laws.FnExactReadFollower'. -/
def fnExactReadFollowerUptoCard : Claim7 := { stood := { row := fnExactReadFollowerUptoRow, standIns := [], harness := (true, "a2b906efb331917fd94e5a87f6c35ce2dfa5e441200a978f6ea36e3282cb18cb"), looks := true }, kinds := [], alts := [], laidByText := true, laidKinds := [.data, .data, .data, .data, .sentinel, .sentinel, .pinned], laidTests := true, laidLooks := .later }
def FnExactReadFollowerUptoCardSaid : Prop := Claim7.holds Tryd.pinned (.plain (OpenSpec.upto fnExactReadFollowerSpec)) fnExactReadFollowerUptoCard

/-- THE SECOND FORM's CARD OF 'laws.FnExactReadCuts'. -/
def fnExactReadCutsUptoCard : Claim7 := { stood := { row := fnExactReadCutsUptoRow, standIns := [], harness := (true, "a2b906efb331917fd94e5a87f6c35ce2dfa5e441200a978f6ea36e3282cb18cb"), looks := true }, kinds := [], alts := [], laidByText := true, laidKinds := [.data, .data, .data, .data, .sentinel, .sentinel, .pinned], laidTests := true, laidLooks := .later }
def FnExactReadCutsUptoCardSaid : Prop := Claim7.holds Tryd.pinned (.plain (OpenSpec.upto fnExactReadCutsSpec)) fnExactReadCutsUptoCard

/-- THE SECOND FORM's CARD OF 'laws.FnExactReadGrid'. -/
def fnExactReadGridUptoCard : Claim7 := { stood := { row := fnExactReadGridUptoRow, standIns := [], harness := (true, "a2b906efb331917fd94e5a87f6c35ce2dfa5e441200a978f6ea36e3282cb18cb"), looks := true }, kinds := [], alts := [], laidByText := true, laidKinds := [.data, .data, .data, .data, .sentinel, .sentinel, .pinned], laidTests := true, laidLooks := .later }
def FnExactReadGridUptoCardSaid : Prop := Claim7.holds Tryd.pinned (.plain (OpenSpec.upto fnExactReadGridSpec)) fnExactReadGridUptoCard
end Rows
end Go.Proofs.YtcfjdpegllnhfaaDoor
