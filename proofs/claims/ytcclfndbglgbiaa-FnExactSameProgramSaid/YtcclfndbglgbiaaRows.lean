/-
  No cell of these rows narrows 'for every input' (looked for: loops, veiled, ifaces, maps, wideKeys, modest, calm, conditions, laid).
  DERIVED. THE GIVEN ROWS OF THIS SEAT. 12 by the template 'for every input the law returns true; each argument reads behind the call as it read before'; 0 by the template 'total and deterministic' (their statements: YtcclfndbglgbiaaTotals.lean).
  GIVEN WITH THE SEED: the statements are not yours to turn. If you find one false, say at which input.
  Laid BY PROGRAM, IN A SANDBOX (cutbox-rows.mjs): the forced cells as the released guide's own fill.sh prints them over the translation ace53e4f9a287ffd… (all of the seat's roots in one cut). By AI agents, Wed Nov 11 2026. No macro, syntax, notation, axiom, sorry.
-/
import Derived.Test.YtcclfndbglgbiaaChecked
import GoSem.Claim
import GoSem.ClaimJoined
import GoSem.ClaimMapViews
import Derived.JoinedTies
import Derived.KernelRfl
namespace Go.Proofs.Ytcclfndbglgbiaa
/- THE CELL 'sum', in the pinned program and in every row, IS THE sha256 OF THE DUMP (.gsa) THAT YtcclfndbglgbiaaProg.lean LOADS. Nothing in Lean hashes anything: it is a label: what it is worth is what the hold of that sum in a sandbox is worth. -/
noncomputable def Try.pinned : Pinned := { name := "ytcclfndbglgbiaa", sum := "ace53e4f9a287ffd245f61ab0f1252fe2283b2b19c7e93bcd1dc5c34d6f259bc", checked := Try.checked }
namespace Rows
def none {H : Type} : Left H := { results := [], args := [] }

/-- 'laws.FnExactValidFollower': WHATEVER THE INPUT: true; the input reads as it did. -/
def fnExactValidFollowerSpec : ChangeSpec := { name := "fnExactValidFollower", fn := fun _ => fun
  | [d] => { results := [.lit (.bool true)], args := [d] }
  | _ => none }
def fnExactValidFollowerRow : OpenClaim := { program := "ytcclfndbglgbiaa", sum := "ace53e4f9a287ffd245f61ab0f1252fe2283b2b19c7e93bcd1dc5c34d6f259bc", func := "loop.example/g01264/laws.FnExactValidFollower", spec := "fnExactValidFollower", apart := false }
def FnExactValidFollowerSaid : Prop := fnExactValidFollowerRow.holds Try.pinned (OpenSpec.ofChange fnExactValidFollowerSpec)

/-- ITS FALSE NEIGHBOUR: 'it returns false'. Refute it at one input. -/
def fnExactValidFollowerWrong : ChangeSpec := { name := "fnExactValidFollower", fn := fun _ => fun
  | [d] => { results := [.lit (.bool false)], args := [d] }
  | _ => none }
def FnExactValidFollowerWrongFalsely : Prop := fnExactValidFollowerRow.holds Try.pinned (OpenSpec.ofChange fnExactValidFollowerWrong)

/-- 'laws.FnExactHasPair': WHATEVER THE INPUT: true; the input reads as it did. -/
def fnExactHasPairSpec : ChangeSpec := { name := "fnExactHasPair", fn := fun _ => fun
  | [d1, d2, d3] => { results := [.lit (.bool true)], args := [d1, d2, d3] }
  | _ => none }
def fnExactHasPairRow : OpenClaim := { program := "ytcclfndbglgbiaa", sum := "ace53e4f9a287ffd245f61ab0f1252fe2283b2b19c7e93bcd1dc5c34d6f259bc", func := "loop.example/g01264/laws.FnExactHasPair", spec := "fnExactHasPair", apart := false }
def FnExactHasPairSaid : Prop := fnExactHasPairRow.holds Try.pinned (OpenSpec.ofChange fnExactHasPairSpec)

/-- ITS FALSE NEIGHBOUR: 'it returns false'. Refute it at one input. -/
def fnExactHasPairWrong : ChangeSpec := { name := "fnExactHasPair", fn := fun _ => fun
  | [d1, d2, d3] => { results := [.lit (.bool false)], args := [d1, d2, d3] }
  | _ => none }
def FnExactHasPairWrongFalsely : Prop := fnExactHasPairRow.holds Try.pinned (OpenSpec.ofChange fnExactHasPairWrong)

/-- 'laws.FnExactValidMark': WHATEVER THE INPUT: true; the input reads as it did. -/
def fnExactValidMarkSpec : ChangeSpec := { name := "fnExactValidMark", fn := fun _ => fun
  | [d] => { results := [.lit (.bool true)], args := [d] }
  | _ => none }
def fnExactValidMarkRow : OpenClaim := { program := "ytcclfndbglgbiaa", sum := "ace53e4f9a287ffd245f61ab0f1252fe2283b2b19c7e93bcd1dc5c34d6f259bc", func := "loop.example/g01264/laws.FnExactValidMark", spec := "fnExactValidMark", apart := false }
def FnExactValidMarkSaid : Prop := fnExactValidMarkRow.holds Try.pinned (OpenSpec.ofChange fnExactValidMarkSpec)

/-- ITS FALSE NEIGHBOUR: 'it returns false'. Refute it at one input. -/
def fnExactValidMarkWrong : ChangeSpec := { name := "fnExactValidMark", fn := fun _ => fun
  | [d] => { results := [.lit (.bool false)], args := [d] }
  | _ => none }
def FnExactValidMarkWrongFalsely : Prop := fnExactValidMarkRow.holds Try.pinned (OpenSpec.ofChange fnExactValidMarkWrong)

/-- 'laws.FnExactHasInk': WHATEVER THE INPUT: true; the input reads as it did. -/
def fnExactHasInkSpec : ChangeSpec := { name := "fnExactHasInk", fn := fun _ => fun
  | [d1, d2] => { results := [.lit (.bool true)], args := [d1, d2] }
  | _ => none }
def fnExactHasInkRow : OpenClaim := { program := "ytcclfndbglgbiaa", sum := "ace53e4f9a287ffd245f61ab0f1252fe2283b2b19c7e93bcd1dc5c34d6f259bc", func := "loop.example/g01264/laws.FnExactHasInk", spec := "fnExactHasInk", apart := false }
def FnExactHasInkSaid : Prop := fnExactHasInkRow.holds Try.pinned (OpenSpec.ofChange fnExactHasInkSpec)

/-- ITS FALSE NEIGHBOUR: 'it returns false'. Refute it at one input. -/
def fnExactHasInkWrong : ChangeSpec := { name := "fnExactHasInk", fn := fun _ => fun
  | [d1, d2] => { results := [.lit (.bool false)], args := [d1, d2] }
  | _ => none }
def FnExactHasInkWrongFalsely : Prop := fnExactHasInkRow.holds Try.pinned (OpenSpec.ofChange fnExactHasInkWrong)

/-- 'laws.FnExactNextTrack': WHATEVER THE INPUT: true; the input reads as it did. -/
def fnExactNextTrackSpec : ChangeSpec := { name := "fnExactNextTrack", fn := fun _ => fun
  | [d1, d2, d3] => { results := [.lit (.bool true)], args := [d1, d2, d3] }
  | _ => none }
def fnExactNextTrackRow : OpenClaim := { program := "ytcclfndbglgbiaa", sum := "ace53e4f9a287ffd245f61ab0f1252fe2283b2b19c7e93bcd1dc5c34d6f259bc", func := "loop.example/g01264/laws.FnExactNextTrack", spec := "fnExactNextTrack", apart := false }
def FnExactNextTrackSaid : Prop := fnExactNextTrackRow.holds Try.pinned (OpenSpec.ofChange fnExactNextTrackSpec)

/-- ITS FALSE NEIGHBOUR: 'it returns false'. Refute it at one input. -/
def fnExactNextTrackWrong : ChangeSpec := { name := "fnExactNextTrack", fn := fun _ => fun
  | [d1, d2, d3] => { results := [.lit (.bool false)], args := [d1, d2, d3] }
  | _ => none }
def FnExactNextTrackWrongFalsely : Prop := fnExactNextTrackRow.holds Try.pinned (OpenSpec.ofChange fnExactNextTrackWrong)

/-- 'laws.FnExactCountInk': WHATEVER THE INPUT: true; the input reads as it did. -/
def fnExactCountInkSpec : ChangeSpec := { name := "fnExactCountInk", fn := fun _ => fun
  | [d] => { results := [.lit (.bool true)], args := [d] }
  | _ => none }
def fnExactCountInkRow : OpenClaim := { program := "ytcclfndbglgbiaa", sum := "ace53e4f9a287ffd245f61ab0f1252fe2283b2b19c7e93bcd1dc5c34d6f259bc", func := "loop.example/g01264/laws.FnExactCountInk", spec := "fnExactCountInk", apart := false }
def FnExactCountInkSaid : Prop := fnExactCountInkRow.holds Try.pinned (OpenSpec.ofChange fnExactCountInkSpec)

/-- ITS FALSE NEIGHBOUR: 'it returns false'. Refute it at one input. -/
def fnExactCountInkWrong : ChangeSpec := { name := "fnExactCountInk", fn := fun _ => fun
  | [d] => { results := [.lit (.bool false)], args := [d] }
  | _ => none }
def FnExactCountInkWrongFalsely : Prop := fnExactCountInkRow.holds Try.pinned (OpenSpec.ofChange fnExactCountInkWrong)

/-- 'laws.FnExactCountPairs': WHATEVER THE INPUT: true; the input reads as it did. -/
def fnExactCountPairsSpec : ChangeSpec := { name := "fnExactCountPairs", fn := fun _ => fun
  | [d] => { results := [.lit (.bool true)], args := [d] }
  | _ => none }
def fnExactCountPairsRow : OpenClaim := { program := "ytcclfndbglgbiaa", sum := "ace53e4f9a287ffd245f61ab0f1252fe2283b2b19c7e93bcd1dc5c34d6f259bc", func := "loop.example/g01264/laws.FnExactCountPairs", spec := "fnExactCountPairs", apart := false }
def FnExactCountPairsSaid : Prop := fnExactCountPairsRow.holds Try.pinned (OpenSpec.ofChange fnExactCountPairsSpec)

/-- ITS FALSE NEIGHBOUR: 'it returns false'. Refute it at one input. -/
def fnExactCountPairsWrong : ChangeSpec := { name := "fnExactCountPairs", fn := fun _ => fun
  | [d] => { results := [.lit (.bool false)], args := [d] }
  | _ => none }
def FnExactCountPairsWrongFalsely : Prop := fnExactCountPairsRow.holds Try.pinned (OpenSpec.ofChange fnExactCountPairsWrong)

/-- 'laws.FnExactCompareSlopes': WHATEVER THE INPUT: true; the input reads as it did. -/
def fnExactCompareSlopesSpec : ChangeSpec := { name := "fnExactCompareSlopes", fn := fun _ => fun
  | [d1, d2] => { results := [.lit (.bool true)], args := [d1, d2] }
  | _ => none }
def fnExactCompareSlopesRow : OpenClaim := { program := "ytcclfndbglgbiaa", sum := "ace53e4f9a287ffd245f61ab0f1252fe2283b2b19c7e93bcd1dc5c34d6f259bc", func := "loop.example/g01264/laws.FnExactCompareSlopes", spec := "fnExactCompareSlopes", apart := false }
def FnExactCompareSlopesSaid : Prop := fnExactCompareSlopesRow.holds Try.pinned (OpenSpec.ofChange fnExactCompareSlopesSpec)

/-- ITS FALSE NEIGHBOUR: 'it returns false'. Refute it at one input. -/
def fnExactCompareSlopesWrong : ChangeSpec := { name := "fnExactCompareSlopes", fn := fun _ => fun
  | [d1, d2] => { results := [.lit (.bool false)], args := [d1, d2] }
  | _ => none }
def FnExactCompareSlopesWrongFalsely : Prop := fnExactCompareSlopesRow.holds Try.pinned (OpenSpec.ofChange fnExactCompareSlopesWrong)

/-- 'laws.FnExactSameMachine': WHATEVER THE INPUT: true; the input reads as it did. -/
def fnExactSameMachineSpec : ChangeSpec := { name := "fnExactSameMachine", fn := fun _ => fun
  | [d1, d2] => { results := [.lit (.bool true)], args := [d1, d2] }
  | _ => none }
def fnExactSameMachineRow : OpenClaim := { program := "ytcclfndbglgbiaa", sum := "ace53e4f9a287ffd245f61ab0f1252fe2283b2b19c7e93bcd1dc5c34d6f259bc", func := "loop.example/g01264/laws.FnExactSameMachine", spec := "fnExactSameMachine", apart := false }
def FnExactSameMachineSaid : Prop := fnExactSameMachineRow.holds Try.pinned (OpenSpec.ofChange fnExactSameMachineSpec)

/-- ITS FALSE NEIGHBOUR: 'it returns false'. Refute it at one input. -/
def fnExactSameMachineWrong : ChangeSpec := { name := "fnExactSameMachine", fn := fun _ => fun
  | [d1, d2] => { results := [.lit (.bool false)], args := [d1, d2] }
  | _ => none }
def FnExactSameMachineWrongFalsely : Prop := fnExactSameMachineRow.holds Try.pinned (OpenSpec.ofChange fnExactSameMachineWrong)

/-- 'laws.FnExactSameProgram': WHATEVER THE INPUT: true; the input reads as it did. -/
def fnExactSameProgramSpec : ChangeSpec := { name := "fnExactSameProgram", fn := fun _ => fun
  | [d1, d2] => { results := [.lit (.bool true)], args := [d1, d2] }
  | _ => none }
def fnExactSameProgramRow : OpenClaim := { program := "ytcclfndbglgbiaa", sum := "ace53e4f9a287ffd245f61ab0f1252fe2283b2b19c7e93bcd1dc5c34d6f259bc", func := "loop.example/g01264/laws.FnExactSameProgram", spec := "fnExactSameProgram", apart := false }
def FnExactSameProgramSaid : Prop := fnExactSameProgramRow.holds Try.pinned (OpenSpec.ofChange fnExactSameProgramSpec)

/-- ITS FALSE NEIGHBOUR: 'it returns false'. Refute it at one input. -/
def fnExactSameProgramWrong : ChangeSpec := { name := "fnExactSameProgram", fn := fun _ => fun
  | [d1, d2] => { results := [.lit (.bool false)], args := [d1, d2] }
  | _ => none }
def FnExactSameProgramWrongFalsely : Prop := fnExactSameProgramRow.holds Try.pinned (OpenSpec.ofChange fnExactSameProgramWrong)

/-- 'laws.FnExactValidProgram': WHATEVER THE INPUT: true; the input reads as it did. -/
def fnExactValidProgramSpec : ChangeSpec := { name := "fnExactValidProgram", fn := fun _ => fun
  | [d] => { results := [.lit (.bool true)], args := [d] }
  | _ => none }
def fnExactValidProgramRow : OpenClaim := { program := "ytcclfndbglgbiaa", sum := "ace53e4f9a287ffd245f61ab0f1252fe2283b2b19c7e93bcd1dc5c34d6f259bc", func := "loop.example/g01264/laws.FnExactValidProgram", spec := "fnExactValidProgram", unfollowed := true, recurses := true, apart := false }
def FnExactValidProgramSaid : Prop := fnExactValidProgramRow.holds Try.pinned (OpenSpec.ofChange fnExactValidProgramSpec)

/-- ITS FALSE NEIGHBOUR: 'it returns false'. Refute it at one input. -/
def fnExactValidProgramWrong : ChangeSpec := { name := "fnExactValidProgram", fn := fun _ => fun
  | [d] => { results := [.lit (.bool false)], args := [d] }
  | _ => none }
def FnExactValidProgramWrongFalsely : Prop := fnExactValidProgramRow.holds Try.pinned (OpenSpec.ofChange fnExactValidProgramWrong)

/-- 'laws.FnExactSameShafts': WHATEVER THE INPUT: true; the input reads as it did. -/
def fnExactSameShaftsSpec : ChangeSpec := { name := "fnExactSameShafts", fn := fun _ => fun
  | [d1, d2] => { results := [.lit (.bool true)], args := [d1, d2] }
  | _ => none }
def fnExactSameShaftsRow : OpenClaim := { program := "ytcclfndbglgbiaa", sum := "ace53e4f9a287ffd245f61ab0f1252fe2283b2b19c7e93bcd1dc5c34d6f259bc", func := "loop.example/g01264/laws.FnExactSameShafts", spec := "fnExactSameShafts", unfollowed := true, recurses := true, apart := false }
def FnExactSameShaftsSaid : Prop := fnExactSameShaftsRow.holds Try.pinned (OpenSpec.ofChange fnExactSameShaftsSpec)

/-- ITS FALSE NEIGHBOUR: 'it returns false'. Refute it at one input. -/
def fnExactSameShaftsWrong : ChangeSpec := { name := "fnExactSameShafts", fn := fun _ => fun
  | [d1, d2] => { results := [.lit (.bool false)], args := [d1, d2] }
  | _ => none }
def FnExactSameShaftsWrongFalsely : Prop := fnExactSameShaftsRow.holds Try.pinned (OpenSpec.ofChange fnExactSameShaftsWrong)

/- THE SECOND FORM. 'bulk': how many values and letters a reading holds, each counted each time it is reached (what is shared counts as often as it is met; a slice's spare places count too). A statement '..UptoSaid' is the law's where the arguments, and the package variables that the reading takes, are together of bulk at most 1048576: NARROWER than '..Said'. Prove '..Said' where nothing that the law and all that it calls make is longer than what came in: it says more and counts as full. Else prove '..UptoSaid'. A law counts once. -/
mutual
def uptoBulk {H : Type} : DataW H → Nat
  | .lit (.string bytes) => bytes.length + 1
  | .lit _ => 1
  | .nil => 1
  | .ptr d => uptoBulk d + 1
  | .slice elems spare => uptoBulkAll elems + uptoBulkAll spare + 1
  | .agg parts => uptoBulkAll parts + 1
  | .iface _ d => uptoBulk d + 1
  | .map entries => uptoBulkEntries entries + 1
  | .held _ => 1
def uptoBulkAll {H : Type} : List (DataW H) → Nat
  | [] => 0
  | d :: r => uptoBulk d + uptoBulkAll r
def uptoBulkEntries {H : Type} : List (Lit × DataW H) → Nat
  | [] => 0
  | x :: r => uptoBulkEntry x + uptoBulkEntries r
def uptoBulkEntry {H : Type} : Lit × DataW H → Nat
  | (.string bytes, d) => bytes.length + uptoBulk d + 1
  | (_, d) => uptoBulk d + 1
 end
def uptoSmall : (H : Type) → List (DataW H) → Bool := fun _ ds => decide (uptoBulkAll ds ≤ 1048576)
def OpenSpec.upto (s : _root_.Go.ChangeSpec) : _root_.Go.OpenSpec := { _root_.Go.OpenSpec.ofChange s with cond := some uptoSmall }

/-- 'laws.FnExactValidFollower', WHERE WHAT IT READS IS OF BULK AT MOST 1048576: true; the input reads as it did. -/
def fnExactValidFollowerUptoRow : OpenClaim := { program := "ytcclfndbglgbiaa", sum := "ace53e4f9a287ffd245f61ab0f1252fe2283b2b19c7e93bcd1dc5c34d6f259bc", func := "loop.example/g01264/laws.FnExactValidFollower", spec := "fnExactValidFollower", apart := false, narrowed := true }
def FnExactValidFollowerUptoSaid : Prop := fnExactValidFollowerUptoRow.holds Try.pinned (OpenSpec.upto fnExactValidFollowerSpec)

/-- 'laws.FnExactHasPair', WHERE WHAT IT READS IS OF BULK AT MOST 1048576: true; the input reads as it did. -/
def fnExactHasPairUptoRow : OpenClaim := { program := "ytcclfndbglgbiaa", sum := "ace53e4f9a287ffd245f61ab0f1252fe2283b2b19c7e93bcd1dc5c34d6f259bc", func := "loop.example/g01264/laws.FnExactHasPair", spec := "fnExactHasPair", apart := false, narrowed := true }
def FnExactHasPairUptoSaid : Prop := fnExactHasPairUptoRow.holds Try.pinned (OpenSpec.upto fnExactHasPairSpec)

/-- 'laws.FnExactValidMark', WHERE WHAT IT READS IS OF BULK AT MOST 1048576: true; the input reads as it did. -/
def fnExactValidMarkUptoRow : OpenClaim := { program := "ytcclfndbglgbiaa", sum := "ace53e4f9a287ffd245f61ab0f1252fe2283b2b19c7e93bcd1dc5c34d6f259bc", func := "loop.example/g01264/laws.FnExactValidMark", spec := "fnExactValidMark", apart := false, narrowed := true }
def FnExactValidMarkUptoSaid : Prop := fnExactValidMarkUptoRow.holds Try.pinned (OpenSpec.upto fnExactValidMarkSpec)

/-- 'laws.FnExactHasInk', WHERE WHAT IT READS IS OF BULK AT MOST 1048576: true; the input reads as it did. -/
def fnExactHasInkUptoRow : OpenClaim := { program := "ytcclfndbglgbiaa", sum := "ace53e4f9a287ffd245f61ab0f1252fe2283b2b19c7e93bcd1dc5c34d6f259bc", func := "loop.example/g01264/laws.FnExactHasInk", spec := "fnExactHasInk", apart := false, narrowed := true }
def FnExactHasInkUptoSaid : Prop := fnExactHasInkUptoRow.holds Try.pinned (OpenSpec.upto fnExactHasInkSpec)

/-- 'laws.FnExactNextTrack', WHERE WHAT IT READS IS OF BULK AT MOST 1048576: true; the input reads as it did. -/
def fnExactNextTrackUptoRow : OpenClaim := { program := "ytcclfndbglgbiaa", sum := "ace53e4f9a287ffd245f61ab0f1252fe2283b2b19c7e93bcd1dc5c34d6f259bc", func := "loop.example/g01264/laws.FnExactNextTrack", spec := "fnExactNextTrack", apart := false, narrowed := true }
def FnExactNextTrackUptoSaid : Prop := fnExactNextTrackUptoRow.holds Try.pinned (OpenSpec.upto fnExactNextTrackSpec)

/-- 'laws.FnExactCountInk', WHERE WHAT IT READS IS OF BULK AT MOST 1048576: true; the input reads as it did. -/
def fnExactCountInkUptoRow : OpenClaim := { program := "ytcclfndbglgbiaa", sum := "ace53e4f9a287ffd245f61ab0f1252fe2283b2b19c7e93bcd1dc5c34d6f259bc", func := "loop.example/g01264/laws.FnExactCountInk", spec := "fnExactCountInk", apart := false, narrowed := true }
def FnExactCountInkUptoSaid : Prop := fnExactCountInkUptoRow.holds Try.pinned (OpenSpec.upto fnExactCountInkSpec)

/-- 'laws.FnExactCountPairs', WHERE WHAT IT READS IS OF BULK AT MOST 1048576: true; the input reads as it did. -/
def fnExactCountPairsUptoRow : OpenClaim := { program := "ytcclfndbglgbiaa", sum := "ace53e4f9a287ffd245f61ab0f1252fe2283b2b19c7e93bcd1dc5c34d6f259bc", func := "loop.example/g01264/laws.FnExactCountPairs", spec := "fnExactCountPairs", apart := false, narrowed := true }
def FnExactCountPairsUptoSaid : Prop := fnExactCountPairsUptoRow.holds Try.pinned (OpenSpec.upto fnExactCountPairsSpec)

/-- 'laws.FnExactCompareSlopes', WHERE WHAT IT READS IS OF BULK AT MOST 1048576: true; the input reads as it did. -/
def fnExactCompareSlopesUptoRow : OpenClaim := { program := "ytcclfndbglgbiaa", sum := "ace53e4f9a287ffd245f61ab0f1252fe2283b2b19c7e93bcd1dc5c34d6f259bc", func := "loop.example/g01264/laws.FnExactCompareSlopes", spec := "fnExactCompareSlopes", apart := false, narrowed := true }
def FnExactCompareSlopesUptoSaid : Prop := fnExactCompareSlopesUptoRow.holds Try.pinned (OpenSpec.upto fnExactCompareSlopesSpec)

/-- 'laws.FnExactSameMachine', WHERE WHAT IT READS IS OF BULK AT MOST 1048576: true; the input reads as it did. -/
def fnExactSameMachineUptoRow : OpenClaim := { program := "ytcclfndbglgbiaa", sum := "ace53e4f9a287ffd245f61ab0f1252fe2283b2b19c7e93bcd1dc5c34d6f259bc", func := "loop.example/g01264/laws.FnExactSameMachine", spec := "fnExactSameMachine", apart := false, narrowed := true }
def FnExactSameMachineUptoSaid : Prop := fnExactSameMachineUptoRow.holds Try.pinned (OpenSpec.upto fnExactSameMachineSpec)

/-- 'laws.FnExactSameProgram', WHERE WHAT IT READS IS OF BULK AT MOST 1048576: true; the input reads as it did. -/
def fnExactSameProgramUptoRow : OpenClaim := { program := "ytcclfndbglgbiaa", sum := "ace53e4f9a287ffd245f61ab0f1252fe2283b2b19c7e93bcd1dc5c34d6f259bc", func := "loop.example/g01264/laws.FnExactSameProgram", spec := "fnExactSameProgram", apart := false, narrowed := true }
def FnExactSameProgramUptoSaid : Prop := fnExactSameProgramUptoRow.holds Try.pinned (OpenSpec.upto fnExactSameProgramSpec)

/-- 'laws.FnExactValidProgram', WHERE WHAT IT READS IS OF BULK AT MOST 1048576: true; the input reads as it did. -/
def fnExactValidProgramUptoRow : OpenClaim := { program := "ytcclfndbglgbiaa", sum := "ace53e4f9a287ffd245f61ab0f1252fe2283b2b19c7e93bcd1dc5c34d6f259bc", func := "loop.example/g01264/laws.FnExactValidProgram", spec := "fnExactValidProgram", unfollowed := true, recurses := true, apart := false, narrowed := true }
def FnExactValidProgramUptoSaid : Prop := fnExactValidProgramUptoRow.holds Try.pinned (OpenSpec.upto fnExactValidProgramSpec)

/-- 'laws.FnExactSameShafts', WHERE WHAT IT READS IS OF BULK AT MOST 1048576: true; the input reads as it did. -/
def fnExactSameShaftsUptoRow : OpenClaim := { program := "ytcclfndbglgbiaa", sum := "ace53e4f9a287ffd245f61ab0f1252fe2283b2b19c7e93bcd1dc5c34d6f259bc", func := "loop.example/g01264/laws.FnExactSameShafts", spec := "fnExactSameShafts", unfollowed := true, recurses := true, apart := false, narrowed := true }
def FnExactSameShaftsUptoSaid : Prop := fnExactSameShaftsUptoRow.holds Try.pinned (OpenSpec.upto fnExactSameShaftsSpec)

end Rows
end Go.Proofs.Ytcclfndbglgbiaa
