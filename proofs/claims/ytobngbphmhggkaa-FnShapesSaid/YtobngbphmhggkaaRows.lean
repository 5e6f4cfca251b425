/-
  No cell of these rows narrows 'for every input' (looked for: loops, veiled, ifaces, maps, wideKeys, modest, calm, conditions, laid).
  DERIVED. THE GIVEN ROWS OF THIS SEAT. 12 by the template 'for every input the law returns true; each argument reads behind the call as it read before'; 0 by the template 'total and deterministic' (their statements: YtobngbphmhggkaaTotals.lean).
  GIVEN WITH THE SEED: the statements are not yours to turn. If you find one false, say at which input.
  Laid BY PROGRAM, IN A SANDBOX (cutbox-rows.mjs): the forced cells as the released guide's own fill.sh prints them over the translation 3c805b76baf788d5… (all of the seat's roots in one cut). By AI agents, Wed Nov 11 2026. No macro, syntax, notation, axiom, sorry.
-/
import Derived.Test.YtobngbphmhggkaaChecked
import GoSem.Claim
import GoSem.ClaimJoined
import GoSem.ClaimMapViews
import Derived.JoinedTies
import Derived.KernelRfl
namespace Go.Proofs.Ytobngbphmhggkaa
/- THE CELL 'sum', in the pinned program and in every row, IS THE sha256 OF THE DUMP (.gsa) THAT YtobngbphmhggkaaProg.lean LOADS. Nothing in Lean hashes anything: it is a label: what it is worth is what the hold of that sum in a sandbox is worth. -/
noncomputable def Try.pinned : Pinned := { name := "ytobngbphmhggkaa", sum := "3c805b76baf788d5a692274a82da89bedbd9921f71d5559151af0b79b50fb8fd", checked := Try.checked }
namespace Rows
def none {H : Type} : Left H := { results := [], args := [] }

/-- 'laws.FnExactNextTrack': WHATEVER THE INPUT: true; the input reads as it did. -/
def fnExactNextTrackSpec : ChangeSpec := { name := "fnExactNextTrack", fn := fun _ => fun
  | [d1, d2, d3] => { results := [.lit (.bool true)], args := [d1, d2, d3] }
  | _ => none }
def fnExactNextTrackRow : OpenClaim := { program := "ytobngbphmhggkaa", sum := "3c805b76baf788d5a692274a82da89bedbd9921f71d5559151af0b79b50fb8fd", func := "loop.example/g01264/laws.FnExactNextTrack", spec := "fnExactNextTrack", apart := false }
def FnExactNextTrackSaid : Prop := fnExactNextTrackRow.holds Try.pinned (OpenSpec.ofChange fnExactNextTrackSpec)

/-- ITS FALSE NEIGHBOUR: 'it returns false'. Refute it at one input. -/
def fnExactNextTrackWrong : ChangeSpec := { name := "fnExactNextTrack", fn := fun _ => fun
  | [d1, d2, d3] => { results := [.lit (.bool false)], args := [d1, d2, d3] }
  | _ => none }
def FnExactNextTrackWrongFalsely : Prop := fnExactNextTrackRow.holds Try.pinned (OpenSpec.ofChange fnExactNextTrackWrong)

/-- 'laws.FnExactValidCam': WHATEVER THE INPUT: true; the input reads as it did. -/
def fnExactValidCamSpec : ChangeSpec := { name := "fnExactValidCam", fn := fun _ => fun
  | [d] => { results := [.lit (.bool true)], args := [d] }
  | _ => none }
def fnExactValidCamRow : OpenClaim := { program := "ytobngbphmhggkaa", sum := "3c805b76baf788d5a692274a82da89bedbd9921f71d5559151af0b79b50fb8fd", func := "loop.example/g01264/laws.FnExactValidCam", spec := "fnExactValidCam", unfollowed := true, recurses := true, apart := false }
def FnExactValidCamSaid : Prop := fnExactValidCamRow.holds Try.pinned (OpenSpec.ofChange fnExactValidCamSpec)

/-- ITS FALSE NEIGHBOUR: 'it returns false'. Refute it at one input. -/
def fnExactValidCamWrong : ChangeSpec := { name := "fnExactValidCam", fn := fun _ => fun
  | [d] => { results := [.lit (.bool false)], args := [d] }
  | _ => none }
def FnExactValidCamWrongFalsely : Prop := fnExactValidCamRow.holds Try.pinned (OpenSpec.ofChange fnExactValidCamWrong)

/-- 'laws.FnExactCountInk': WHATEVER THE INPUT: true; the input reads as it did. -/
def fnExactCountInkSpec : ChangeSpec := { name := "fnExactCountInk", fn := fun _ => fun
  | [d] => { results := [.lit (.bool true)], args := [d] }
  | _ => none }
def fnExactCountInkRow : OpenClaim := { program := "ytobngbphmhggkaa", sum := "3c805b76baf788d5a692274a82da89bedbd9921f71d5559151af0b79b50fb8fd", func := "loop.example/g01264/laws.FnExactCountInk", spec := "fnExactCountInk", apart := false }
def FnExactCountInkSaid : Prop := fnExactCountInkRow.holds Try.pinned (OpenSpec.ofChange fnExactCountInkSpec)

/-- ITS FALSE NEIGHBOUR: 'it returns false'. Refute it at one input. -/
def fnExactCountInkWrong : ChangeSpec := { name := "fnExactCountInk", fn := fun _ => fun
  | [d] => { results := [.lit (.bool false)], args := [d] }
  | _ => none }
def FnExactCountInkWrongFalsely : Prop := fnExactCountInkRow.holds Try.pinned (OpenSpec.ofChange fnExactCountInkWrong)

/-- 'laws.FnExactCountPairs': WHATEVER THE INPUT: true; the input reads as it did. -/
def fnExactCountPairsSpec : ChangeSpec := { name := "fnExactCountPairs", fn := fun _ => fun
  | [d] => { results := [.lit (.bool true)], args := [d] }
  | _ => none }
def fnExactCountPairsRow : OpenClaim := { program := "ytobngbphmhggkaa", sum := "3c805b76baf788d5a692274a82da89bedbd9921f71d5559151af0b79b50fb8fd", func := "loop.example/g01264/laws.FnExactCountPairs", spec := "fnExactCountPairs", apart := false }
def FnExactCountPairsSaid : Prop := fnExactCountPairsRow.holds Try.pinned (OpenSpec.ofChange fnExactCountPairsSpec)

/-- ITS FALSE NEIGHBOUR: 'it returns false'. Refute it at one input. -/
def fnExactCountPairsWrong : ChangeSpec := { name := "fnExactCountPairs", fn := fun _ => fun
  | [d] => { results := [.lit (.bool false)], args := [d] }
  | _ => none }
def FnExactCountPairsWrongFalsely : Prop := fnExactCountPairsRow.holds Try.pinned (OpenSpec.ofChange fnExactCountPairsWrong)

/-- 'laws.FnExactCompareSlopes': WHATEVER THE INPUT: true; the input reads as it did. -/
def fnExactCompareSlopesSpec : ChangeSpec := { name := "fnExactCompareSlopes", fn := fun _ => fun
  | [d1, d2] => { results := [.lit (.bool true)], args := [d1, d2] }
  | _ => none }
def fnExactCompareSlopesRow : OpenClaim := { program := "ytobngbphmhggkaa", sum := "3c805b76baf788d5a692274a82da89bedbd9921f71d5559151af0b79b50fb8fd", func := "loop.example/g01264/laws.FnExactCompareSlopes", spec := "fnExactCompareSlopes", apart := false }
def FnExactCompareSlopesSaid : Prop := fnExactCompareSlopesRow.holds Try.pinned (OpenSpec.ofChange fnExactCompareSlopesSpec)

/-- ITS FALSE NEIGHBOUR: 'it returns false'. Refute it at one input. -/
def fnExactCompareSlopesWrong : ChangeSpec := { name := "fnExactCompareSlopes", fn := fun _ => fun
  | [d1, d2] => { results := [.lit (.bool false)], args := [d1, d2] }
  | _ => none }
def FnExactCompareSlopesWrongFalsely : Prop := fnExactCompareSlopesRow.holds Try.pinned (OpenSpec.ofChange fnExactCompareSlopesWrong)

/-- 'laws.FnExactFlatCam': WHATEVER THE INPUT: true; the input reads as it did. -/
def fnExactFlatCamSpec : ChangeSpec := { name := "fnExactFlatCam", fn := fun _ => fun
  | [d1, d2] => { results := [.lit (.bool true)], args := [d1, d2] }
  | _ => none }
def fnExactFlatCamRow : OpenClaim := { program := "ytobngbphmhggkaa", sum := "3c805b76baf788d5a692274a82da89bedbd9921f71d5559151af0b79b50fb8fd", func := "loop.example/g01264/laws.FnExactFlatCam", spec := "fnExactFlatCam", unfollowed := true, recurses := true, apart := false }
def FnExactFlatCamSaid : Prop := fnExactFlatCamRow.holds Try.pinned (OpenSpec.ofChange fnExactFlatCamSpec)

/-- ITS FALSE NEIGHBOUR: 'it returns false'. Refute it at one input. -/
def fnExactFlatCamWrong : ChangeSpec := { name := "fnExactFlatCam", fn := fun _ => fun
  | [d1, d2] => { results := [.lit (.bool false)], args := [d1, d2] }
  | _ => none }
def FnExactFlatCamWrongFalsely : Prop := fnExactFlatCamRow.holds Try.pinned (OpenSpec.ofChange fnExactFlatCamWrong)

/-- 'laws.FnExactLiftIn': WHATEVER THE INPUT: true; the input reads as it did. -/
def fnExactLiftInSpec : ChangeSpec := { name := "fnExactLiftIn", fn := fun _ => fun
  | [d1, d2, d3, d4, d5] => { results := [.lit (.bool true)], args := [d1, d2, d3, d4, d5] }
  | _ => none }
def fnExactLiftInRow : OpenClaim := { program := "ytobngbphmhggkaa", sum := "3c805b76baf788d5a692274a82da89bedbd9921f71d5559151af0b79b50fb8fd", func := "loop.example/g01264/laws.FnExactLiftIn", spec := "fnExactLiftIn", apart := false }
def FnExactLiftInSaid : Prop := fnExactLiftInRow.holds Try.pinned (OpenSpec.ofChange fnExactLiftInSpec)

/-- ITS FALSE NEIGHBOUR: 'it returns false'. Refute it at one input. -/
def fnExactLiftInWrong : ChangeSpec := { name := "fnExactLiftIn", fn := fun _ => fun
  | [d1, d2, d3, d4, d5] => { results := [.lit (.bool false)], args := [d1, d2, d3, d4, d5] }
  | _ => none }
def FnExactLiftInWrongFalsely : Prop := fnExactLiftInRow.holds Try.pinned (OpenSpec.ofChange fnExactLiftInWrong)

/-- 'laws.FnExactNearestWheels': WHATEVER THE INPUT: true; the input reads as it did. -/
def fnExactNearestWheelsSpec : ChangeSpec := { name := "fnExactNearestWheels", fn := fun _ => fun
  | [d1, d2, d3] => { results := [.lit (.bool true)], args := [d1, d2, d3] }
  | _ => none }
def fnExactNearestWheelsRow : OpenClaim := { program := "ytobngbphmhggkaa", sum := "3c805b76baf788d5a692274a82da89bedbd9921f71d5559151af0b79b50fb8fd", func := "loop.example/g01264/laws.FnExactNearestWheels", spec := "fnExactNearestWheels", apart := false }
def FnExactNearestWheelsSaid : Prop := fnExactNearestWheelsRow.holds Try.pinned (OpenSpec.ofChange fnExactNearestWheelsSpec)

/-- ITS FALSE NEIGHBOUR: 'it returns false'. Refute it at one input. -/
def fnExactNearestWheelsWrong : ChangeSpec := { name := "fnExactNearestWheels", fn := fun _ => fun
  | [d1, d2, d3] => { results := [.lit (.bool false)], args := [d1, d2, d3] }
  | _ => none }
def FnExactNearestWheelsWrongFalsely : Prop := fnExactNearestWheelsRow.holds Try.pinned (OpenSpec.ofChange fnExactNearestWheelsWrong)

/-- 'laws.FnExactLiftAt': WHATEVER THE INPUT: true; the input reads as it did. -/
def fnExactLiftAtSpec : ChangeSpec := { name := "fnExactLiftAt", fn := fun _ => fun
  | [d1, d2] => { results := [.lit (.bool true)], args := [d1, d2] }
  | _ => none }
def fnExactLiftAtRow : OpenClaim := { program := "ytobngbphmhggkaa", sum := "3c805b76baf788d5a692274a82da89bedbd9921f71d5559151af0b79b50fb8fd", func := "loop.example/g01264/laws.FnExactLiftAt", spec := "fnExactLiftAt", unfollowed := true, recurses := true, apart := false }
def FnExactLiftAtSaid : Prop := fnExactLiftAtRow.holds Try.pinned (OpenSpec.ofChange fnExactLiftAtSpec)

/-- ITS FALSE NEIGHBOUR: 'it returns false'. Refute it at one input. -/
def fnExactLiftAtWrong : ChangeSpec := { name := "fnExactLiftAt", fn := fun _ => fun
  | [d1, d2] => { results := [.lit (.bool false)], args := [d1, d2] }
  | _ => none }
def FnExactLiftAtWrongFalsely : Prop := fnExactLiftAtRow.holds Try.pinned (OpenSpec.ofChange fnExactLiftAtWrong)

/-- 'laws.FnExactSameMachine': WHATEVER THE INPUT: true; the input reads as it did. -/
def fnExactSameMachineSpec : ChangeSpec := { name := "fnExactSameMachine", fn := fun _ => fun
  | [d1, d2] => { results := [.lit (.bool true)], args := [d1, d2] }
  | _ => none }
def fnExactSameMachineRow : OpenClaim := { program := "ytobngbphmhggkaa", sum := "3c805b76baf788d5a692274a82da89bedbd9921f71d5559151af0b79b50fb8fd", func := "loop.example/g01264/laws.FnExactSameMachine", spec := "fnExactSameMachine", apart := false }
def FnExactSameMachineSaid : Prop := fnExactSameMachineRow.holds Try.pinned (OpenSpec.ofChange fnExactSameMachineSpec)

/-- ITS FALSE NEIGHBOUR: 'it returns false'. Refute it at one input. -/
def fnExactSameMachineWrong : ChangeSpec := { name := "fnExactSameMachine", fn := fun _ => fun
  | [d1, d2] => { results := [.lit (.bool false)], args := [d1, d2] }
  | _ => none }
def FnExactSameMachineWrongFalsely : Prop := fnExactSameMachineRow.holds Try.pinned (OpenSpec.ofChange fnExactSameMachineWrong)

/-- 'laws.FnExactSameProgram': WHATEVER THE INPUT: true; the input reads as it did. -/
def fnExactSameProgramSpec : ChangeSpec := { name := "fnExactSameProgram", fn := fun _ => fun
  | [d1, d2] => { results := [.lit (.bool true)], args := [d1, d2] }
  | _ => none }
def fnExactSameProgramRow : OpenClaim := { program := "ytobngbphmhggkaa", sum := "3c805b76baf788d5a692274a82da89bedbd9921f71d5559151af0b79b50fb8fd", func := "loop.example/g01264/laws.FnExactSameProgram", spec := "fnExactSameProgram", apart := false }
def FnExactSameProgramSaid : Prop := fnExactSameProgramRow.holds Try.pinned (OpenSpec.ofChange fnExactSameProgramSpec)

/-- ITS FALSE NEIGHBOUR: 'it returns false'. Refute it at one input. -/
def fnExactSameProgramWrong : ChangeSpec := { name := "fnExactSameProgram", fn := fun _ => fun
  | [d1, d2] => { results := [.lit (.bool false)], args := [d1, d2] }
  | _ => none }
def FnExactSameProgramWrongFalsely : Prop := fnExactSameProgramRow.holds Try.pinned (OpenSpec.ofChange fnExactSameProgramWrong)

/-- 'laws.FnShapes': WHATEVER THE INPUT: true; the input reads as it did. -/
def fnShapesSpec : ChangeSpec := { name := "fnShapes", fn := fun _ => fun
  | [d1, d2] => { results := [.lit (.bool true)], args := [d1, d2] }
  | _ => none }
def fnShapesRow : OpenClaim := { program := "ytobngbphmhggkaa", sum := "3c805b76baf788d5a692274a82da89bedbd9921f71d5559151af0b79b50fb8fd", func := "loop.example/g01264/laws.FnShapes", spec := "fnShapes", apart := false }
def FnShapesSaid : Prop := fnShapesRow.holds Try.pinned (OpenSpec.ofChange fnShapesSpec)

/-- ITS FALSE NEIGHBOUR: 'it returns false'. Refute it at one input. -/
def fnShapesWrong : ChangeSpec := { name := "fnShapes", fn := fun _ => fun
  | [d1, d2] => { results := [.lit (.bool false)], args := [d1, d2] }
  | _ => none }
def FnShapesWrongFalsely : Prop := fnShapesRow.holds Try.pinned (OpenSpec.ofChange fnShapesWrong)

/- THE SECOND FORM. 'bulk': how many values and letters a reading holds, each counted each time it is reached (what is shared counts as often as it is met; a slice's spare places count too). A statement '..UptoSaid' is the law's where the arguments, and the package variables that the reading takes, are together of bulk at most 1048576: NARROWER than '..Said'. Prove '..Said' where nothing that the law and all that it calls make is longer than what came in: it says more and counts as full. Else prove '..UptoSaid'. A law counts once. -/
mutual
def uptoBulk {H : Type} : DataW H → Nat
  | .lit (.string bytes) => bytes.length + 1
  | .lit _ => 1
  | .nil => 1
  | .ptr d => uptoBulk d + 1
  | .slice elems spare => uptoBulkAll elems + uptoBulkAll spare + 1
  | .agg parts => uptoBulkAll parts + 1
  | .iface _ d => uptoBulk d + 1
  | .map entries => uptoBulkEntries entries + 1
  | .held _ => 1
def uptoBulkAll {H : Type} : List (DataW H) → Nat
  | [] => 0
  | d :: r => uptoBulk d + uptoBulkAll r
def uptoBulkEntries {H : Type} : List (Lit × DataW H) → Nat
  | [] => 0
  | x :: r => uptoBulkEntry x + uptoBulkEntries r
def uptoBulkEntry {H : Type} : Lit × DataW H → Nat
  | (.string bytes, d) => bytes.length + uptoBulk d + 1
  | (_, d) => uptoBulk d + 1
 end
def uptoSmall : (H : Type) → List (DataW H) → Bool := fun _ ds => decide (uptoBulkAll ds ≤ 1048576)
def OpenSpec.upto (s : _root_.Go.ChangeSpec) : _root_.Go.OpenSpec := { _root_.Go.OpenSpec.ofChange s with cond := some uptoSmall }

/-- 'laws.FnExactNextTrack', WHERE WHAT IT READS IS OF BULK AT MOST 1048576: true; the input reads as it did. -/
def fnExactNextTrackUptoRow : OpenClaim := { program := "ytobngbphmhggkaa", sum := "3c805b76baf788d5a692274a82da89bedbd9921f71d5559151af0b79b50fb8fd", func := "loop.example/g01264/laws.FnExactNextTrack", spec := "fnExactNextTrack", apart := false, narrowed := true }
def FnExactNextTrackUptoSaid : Prop := fnExactNextTrackUptoRow.holds Try.pinned (OpenSpec.upto fnExactNextTrackSpec)

/-- 'laws.FnExactValidCam', WHERE WHAT IT READS IS OF BULK AT MOST 1048576: true; the input reads as it did. -/
def fnExactValidCamUptoRow : OpenClaim := { program := "ytobngbphmhggkaa", sum := "3c805b76baf788d5a692274a82da89bedbd9921f71d5559151af0b79b50fb8fd", func := "loop.example/g01264/laws.FnExactValidCam", spec := "fnExactValidCam", unfollowed := true, recurses := true, apart := false, narrowed := true }
def FnExactValidCamUptoSaid : Prop := fnExactValidCamUptoRow.holds Try.pinned (OpenSpec.upto fnExactValidCamSpec)

/-- 'laws.FnExactCountInk', WHERE WHAT IT READS IS OF BULK AT MOST 1048576: true; the input reads as it did. -/
def fnExactCountInkUptoRow : OpenClaim := { program := "ytobngbphmhggkaa", sum := "3c805b76baf788d5a692274a82da89bedbd9921f71d5559151af0b79b50fb8fd", func := "loop.example/g01264/laws.FnExactCountInk", spec := "fnExactCountInk", apart := false, narrowed := true }
def FnExactCountInkUptoSaid : Prop := fnExactCountInkUptoRow.holds Try.pinned (OpenSpec.upto fnExactCountInkSpec)

/-- 'laws.FnExactCountPairs', WHERE WHAT IT READS IS OF BULK AT MOST 1048576: true; the input reads as it did. -/
def fnExactCountPairsUptoRow : OpenClaim := { program := "ytobngbphmhggkaa", sum := "3c805b76baf788d5a692274a82da89bedbd9921f71d5559151af0b79b50fb8fd", func := "loop.example/g01264/laws.FnExactCountPairs", spec := "fnExactCountPairs", apart := false, narrowed := true }
def FnExactCountPairsUptoSaid : Prop := fnExactCountPairsUptoRow.holds Try.pinned (OpenSpec.upto fnExactCountPairsSpec)

/-- 'laws.FnExactCompareSlopes', WHERE WHAT IT READS IS OF BULK AT MOST 1048576: true; the input reads as it did. -/
def fnExactCompareSlopesUptoRow : OpenClaim := { program := "ytobngbphmhggkaa", sum := "3c805b76baf788d5a692274a82da89bedbd9921f71d5559151af0b79b50fb8fd", func := "loop.example/g01264/laws.FnExactCompareSlopes", spec := "fnExactCompareSlopes", apart := false, narrowed := true }
def FnExactCompareSlopesUptoSaid : Prop := fnExactCompareSlopesUptoRow.holds Try.pinned (OpenSpec.upto fnExactCompareSlopesSpec)

/-- 'laws.FnExactFlatCam', WHERE WHAT IT READS IS OF BULK AT MOST 1048576: true; the input reads as it did. -/
def fnExactFlatCamUptoRow : OpenClaim := { program := "ytobngbphmhggkaa", sum := "3c805b76baf788d5a692274a82da89bedbd9921f71d5559151af0b79b50fb8fd", func := "loop.example/g01264/laws.FnExactFlatCam", spec := "fnExactFlatCam", unfollowed := true, recurses := true, apart := false, narrowed := true }
def FnExactFlatCamUptoSaid : Prop := fnExactFlatCamUptoRow.holds Try.pinned (OpenSpec.upto fnExactFlatCamSpec)

/-- 'laws.FnExactLiftIn', WHERE WHAT IT READS IS OF BULK AT MOST 1048576: true; the input reads as it did. -/
def fnExactLiftInUptoRow : OpenClaim := { program := "ytobngbphmhggkaa", sum := "3c805b76baf788d5a692274a82da89bedbd9921f71d5559151af0b79b50fb8fd", func := "loop.example/g01264/laws.FnExactLiftIn", spec := "fnExactLiftIn", apart := false, narrowed := true }
def FnExactLiftInUptoSaid : Prop := fnExactLiftInUptoRow.holds Try.pinned (OpenSpec.upto fnExactLiftInSpec)

/-- 'laws.FnExactNearestWheels', WHERE WHAT IT READS IS OF BULK AT MOST 1048576: true; the input reads as it did. -/
def fnExactNearestWheelsUptoRow : OpenClaim := { program := "ytobngbphmhggkaa", sum := "3c805b76baf788d5a692274a82da89bedbd9921f71d5559151af0b79b50fb8fd", func := "loop.example/g01264/laws.FnExactNearestWheels", spec := "fnExactNearestWheels", apart := false, narrowed := true }
def FnExactNearestWheelsUptoSaid : Prop := fnExactNearestWheelsUptoRow.holds Try.pinned (OpenSpec.upto fnExactNearestWheelsSpec)

/-- 'laws.FnExactLiftAt', WHERE WHAT IT READS IS OF BULK AT MOST 1048576: true; the input reads as it did. -/
def fnExactLiftAtUptoRow : OpenClaim := { program := "ytobngbphmhggkaa", sum := "3c805b76baf788d5a692274a82da89bedbd9921f71d5559151af0b79b50fb8fd", func := "loop.example/g01264/laws.FnExactLiftAt", spec := "fnExactLiftAt", unfollowed := true, recurses := true, apart := false, narrowed := true }
def FnExactLiftAtUptoSaid : Prop := fnExactLiftAtUptoRow.holds Try.pinned (OpenSpec.upto fnExactLiftAtSpec)

/-- 'laws.FnExactSameMachine', WHERE WHAT IT READS IS OF BULK AT MOST 1048576: true; the input reads as it did. -/
def fnExactSameMachineUptoRow : OpenClaim := { program := "ytobngbphmhggkaa", sum := "3c805b76baf788d5a692274a82da89bedbd9921f71d5559151af0b79b50fb8fd", func := "loop.example/g01264/laws.FnExactSameMachine", spec := "fnExactSameMachine", apart := false, narrowed := true }
def FnExactSameMachineUptoSaid : Prop := fnExactSameMachineUptoRow.holds Try.pinned (OpenSpec.upto fnExactSameMachineSpec)

/-- 'laws.FnExactSameProgram', WHERE WHAT IT READS IS OF BULK AT MOST 1048576: true; the input reads as it did. -/
def fnExactSameProgramUptoRow : OpenClaim := { program := "ytobngbphmhggkaa", sum := "3c805b76baf788d5a692274a82da89bedbd9921f71d5559151af0b79b50fb8fd", func := "loop.example/g01264/laws.FnExactSameProgram", spec := "fnExactSameProgram", apart := false, narrowed := true }
def FnExactSameProgramUptoSaid : Prop := fnExactSameProgramUptoRow.holds Try.pinned (OpenSpec.upto fnExactSameProgramSpec)

/-- 'laws.FnShapes', WHERE WHAT IT READS IS OF BULK AT MOST 1048576: true; the input reads as it did. -/
def fnShapesUptoRow : OpenClaim := { program := "ytobngbphmhggkaa", sum := "3c805b76baf788d5a692274a82da89bedbd9921f71d5559151af0b79b50fb8fd", func := "loop.example/g01264/laws.FnShapes", spec := "fnShapes", apart := false, narrowed := true }
def FnShapesUptoSaid : Prop := fnShapesUptoRow.holds Try.pinned (OpenSpec.upto fnShapesSpec)

end Rows
end Go.Proofs.Ytobngbphmhggkaa
