/-
  No cell of these rows narrows 'for every input' (looked for: loops, veiled, ifaces, maps, wideKeys, modest, calm, conditions, laid).
  DERIVED. THE GIVEN ROWS OF THIS SEAT. 12 by the template 'for every input the law returns true; each argument reads behind the call as it read before'; 0 by the template 'total and deterministic' (their statements: YtobngbphmhggkabTotals.lean).
  GIVEN WITH THE SEED: the statements are not yours to turn. If you find one false, say at which input.
  Laid BY PROGRAM, IN A SANDBOX (cutbox-rows.mjs): the forced cells as the released guide's own fill.sh prints them over the translation d48129513b2b3940… (all of the seat's roots in one cut). By AI agents, Wed Nov 11 2026. No macro, syntax, notation, axiom, sorry.
-/
import Derived.Test.YtobngbphmhggkabChecked
import GoSem.Claim
import GoSem.ClaimJoined
import GoSem.ClaimMapViews
import Derived.JoinedTies
import Derived.KernelRfl
namespace Go.Proofs.Ytobngbphmhggkab
/- THE CELL 'sum', in the pinned program and in every row, IS THE sha256 OF THE DUMP (.gsa) THAT YtobngbphmhggkabProg.lean LOADS. Nothing in Lean hashes anything: it is a label: what it is worth is what the hold of that sum in a sandbox is worth. -/
noncomputable def Try.pinned : Pinned := { name := "ytobngbphmhggkab", sum := "d48129513b2b3940e23e037aa0f5f1c4b2145562fc3a15aa09751220a25d5890", checked := Try.checked }
namespace Rows
def none {H : Type} : Left H := { results := [], args := [] }

/-- 'laws.FnExactSquaresOf': WHATEVER THE INPUT: true; the input reads as it did. -/
def fnExactSquaresOfSpec : ChangeSpec := { name := "fnExactSquaresOf", fn := fun _ => fun
  | [d] => { results := [.lit (.bool true)], args := [d] }
  | _ => none }
def fnExactSquaresOfRow : OpenClaim := { program := "ytobngbphmhggkab", sum := "d48129513b2b3940e23e037aa0f5f1c4b2145562fc3a15aa09751220a25d5890", func := "loop.example/g01264/laws.FnExactSquaresOf", spec := "fnExactSquaresOf", unfollowed := true, recurses := true, apart := false }
def FnExactSquaresOfSaid : Prop := fnExactSquaresOfRow.holds Try.pinned (OpenSpec.ofChange fnExactSquaresOfSpec)

/-- ITS FALSE NEIGHBOUR: 'it returns false'. Refute it at one input. -/
def fnExactSquaresOfWrong : ChangeSpec := { name := "fnExactSquaresOf", fn := fun _ => fun
  | [d] => { results := [.lit (.bool false)], args := [d] }
  | _ => none }
def FnExactSquaresOfWrongFalsely : Prop := fnExactSquaresOfRow.holds Try.pinned (OpenSpec.ofChange fnExactSquaresOfWrong)

/-- 'laws.FnExactRangeOf': WHATEVER THE INPUT: true; the input reads as it did. -/
def fnExactRangeOfSpec : ChangeSpec := { name := "fnExactRangeOf", fn := fun _ => fun
  | [d] => { results := [.lit (.bool true)], args := [d] }
  | _ => none }
def fnExactRangeOfRow : OpenClaim := { program := "ytobngbphmhggkab", sum := "d48129513b2b3940e23e037aa0f5f1c4b2145562fc3a15aa09751220a25d5890", func := "loop.example/g01264/laws.FnExactRangeOf", spec := "fnExactRangeOf", unfollowed := true, recurses := true, apart := false }
def FnExactRangeOfSaid : Prop := fnExactRangeOfRow.holds Try.pinned (OpenSpec.ofChange fnExactRangeOfSpec)

/-- ITS FALSE NEIGHBOUR: 'it returns false'. Refute it at one input. -/
def fnExactRangeOfWrong : ChangeSpec := { name := "fnExactRangeOf", fn := fun _ => fun
  | [d] => { results := [.lit (.bool false)], args := [d] }
  | _ => none }
def FnExactRangeOfWrongFalsely : Prop := fnExactRangeOfRow.holds Try.pinned (OpenSpec.ofChange fnExactRangeOfWrong)

/-- 'laws.FnExactMirrorCam': WHATEVER THE INPUT: true; the input reads as it did. -/
def fnExactMirrorCamSpec : ChangeSpec := { name := "fnExactMirrorCam", fn := fun _ => fun
  | [d] => { results := [.lit (.bool true)], args := [d] }
  | _ => none }
def fnExactMirrorCamRow : OpenClaim := { program := "ytobngbphmhggkab", sum := "d48129513b2b3940e23e037aa0f5f1c4b2145562fc3a15aa09751220a25d5890", func := "loop.example/g01264/laws.FnExactMirrorCam", spec := "fnExactMirrorCam", unfollowed := true, recurses := true, apart := false }
def FnExactMirrorCamSaid : Prop := fnExactMirrorCamRow.holds Try.pinned (OpenSpec.ofChange fnExactMirrorCamSpec)

/-- ITS FALSE NEIGHBOUR: 'it returns false'. Refute it at one input. -/
def fnExactMirrorCamWrong : ChangeSpec := { name := "fnExactMirrorCam", fn := fun _ => fun
  | [d] => { results := [.lit (.bool false)], args := [d] }
  | _ => none }
def FnExactMirrorCamWrongFalsely : Prop := fnExactMirrorCamRow.holds Try.pinned (OpenSpec.ofChange fnExactMirrorCamWrong)

/-- 'laws.FnExactCanReplace': WHATEVER THE INPUT: true; the input reads as it did. -/
def fnExactCanReplaceSpec : ChangeSpec := { name := "fnExactCanReplace", fn := fun _ => fun
  | [d1, d2] => { results := [.lit (.bool true)], args := [d1, d2] }
  | _ => none }
def fnExactCanReplaceRow : OpenClaim := { program := "ytobngbphmhggkab", sum := "d48129513b2b3940e23e037aa0f5f1c4b2145562fc3a15aa09751220a25d5890", func := "loop.example/g01264/laws.FnExactCanReplace", spec := "fnExactCanReplace", apart := false }
def FnExactCanReplaceSaid : Prop := fnExactCanReplaceRow.holds Try.pinned (OpenSpec.ofChange fnExactCanReplaceSpec)

/-- ITS FALSE NEIGHBOUR: 'it returns false'. Refute it at one input. -/
def fnExactCanReplaceWrong : ChangeSpec := { name := "fnExactCanReplace", fn := fun _ => fun
  | [d1, d2] => { results := [.lit (.bool false)], args := [d1, d2] }
  | _ => none }
def FnExactCanReplaceWrongFalsely : Prop := fnExactCanReplaceRow.holds Try.pinned (OpenSpec.ofChange fnExactCanReplaceWrong)

/-- 'laws.FnExactLeastRate': WHATEVER THE INPUT: true; the input reads as it did. -/
def fnExactLeastRateSpec : ChangeSpec := { name := "fnExactLeastRate", fn := fun _ => fun
  | [d] => { results := [.lit (.bool true)], args := [d] }
  | _ => none }
def fnExactLeastRateRow : OpenClaim := { program := "ytobngbphmhggkab", sum := "d48129513b2b3940e23e037aa0f5f1c4b2145562fc3a15aa09751220a25d5890", func := "loop.example/g01264/laws.FnExactLeastRate", spec := "fnExactLeastRate", unfollowed := true, recurses := true, apart := false }
def FnExactLeastRateSaid : Prop := fnExactLeastRateRow.holds Try.pinned (OpenSpec.ofChange fnExactLeastRateSpec)

/-- ITS FALSE NEIGHBOUR: 'it returns false'. Refute it at one input. -/
def fnExactLeastRateWrong : ChangeSpec := { name := "fnExactLeastRate", fn := fun _ => fun
  | [d] => { results := [.lit (.bool false)], args := [d] }
  | _ => none }
def FnExactLeastRateWrongFalsely : Prop := fnExactLeastRateRow.holds Try.pinned (OpenSpec.ofChange fnExactLeastRateWrong)

/-- 'laws.FnExactLeastSpring': WHATEVER THE INPUT: true; the input reads as it did. -/
def fnExactLeastSpringSpec : ChangeSpec := { name := "fnExactLeastSpring", fn := fun _ => fun
  | [d] => { results := [.lit (.bool true)], args := [d] }
  | _ => none }
def fnExactLeastSpringRow : OpenClaim := { program := "ytobngbphmhggkab", sum := "d48129513b2b3940e23e037aa0f5f1c4b2145562fc3a15aa09751220a25d5890", func := "loop.example/g01264/laws.FnExactLeastSpring", spec := "fnExactLeastSpring", unfollowed := true, recurses := true, apart := false }
def FnExactLeastSpringSaid : Prop := fnExactLeastSpringRow.holds Try.pinned (OpenSpec.ofChange fnExactLeastSpringSpec)

/-- ITS FALSE NEIGHBOUR: 'it returns false'. Refute it at one input. -/
def fnExactLeastSpringWrong : ChangeSpec := { name := "fnExactLeastSpring", fn := fun _ => fun
  | [d] => { results := [.lit (.bool false)], args := [d] }
  | _ => none }
def FnExactLeastSpringWrongFalsely : Prop := fnExactLeastSpringRow.holds Try.pinned (OpenSpec.ofChange fnExactLeastSpringWrong)

/-- 'laws.FnExactLeastSteps': WHATEVER THE INPUT: true; the input reads as it did. -/
def fnExactLeastStepsSpec : ChangeSpec := { name := "fnExactLeastSteps", fn := fun _ => fun
  | [d1, d2, d3] => { results := [.lit (.bool true)], args := [d1, d2, d3] }
  | _ => none }
def fnExactLeastStepsRow : OpenClaim := { program := "ytobngbphmhggkab", sum := "d48129513b2b3940e23e037aa0f5f1c4b2145562fc3a15aa09751220a25d5890", func := "loop.example/g01264/laws.FnExactLeastSteps", spec := "fnExactLeastSteps", apart := false }
def FnExactLeastStepsSaid : Prop := fnExactLeastStepsRow.holds Try.pinned (OpenSpec.ofChange fnExactLeastStepsSpec)

/-- ITS FALSE NEIGHBOUR: 'it returns false'. Refute it at one input. -/
def fnExactLeastStepsWrong : ChangeSpec := { name := "fnExactLeastSteps", fn := fun _ => fun
  | [d1, d2, d3] => { results := [.lit (.bool false)], args := [d1, d2, d3] }
  | _ => none }
def FnExactLeastStepsWrongFalsely : Prop := fnExactLeastStepsRow.holds Try.pinned (OpenSpec.ofChange fnExactLeastStepsWrong)

/-- 'laws.FnExactValidProgram': WHATEVER THE INPUT: true; the input reads as it did. -/
def fnExactValidProgramSpec : ChangeSpec := { name := "fnExactValidProgram", fn := fun _ => fun
  | [d] => { results := [.lit (.bool true)], args := [d] }
  | _ => none }
def fnExactValidProgramRow : OpenClaim := { program := "ytobngbphmhggkab", sum := "d48129513b2b3940e23e037aa0f5f1c4b2145562fc3a15aa09751220a25d5890", func := "loop.example/g01264/laws.FnExactValidProgram", spec := "fnExactValidProgram", unfollowed := true, recurses := true, apart := false }
def FnExactValidProgramSaid : Prop := fnExactValidProgramRow.holds Try.pinned (OpenSpec.ofChange fnExactValidProgramSpec)

/-- ITS FALSE NEIGHBOUR: 'it returns false'. Refute it at one input. -/
def fnExactValidProgramWrong : ChangeSpec := { name := "fnExactValidProgram", fn := fun _ => fun
  | [d] => { results := [.lit (.bool false)], args := [d] }
  | _ => none }
def FnExactValidProgramWrongFalsely : Prop := fnExactValidProgramRow.holds Try.pinned (OpenSpec.ofChange fnExactValidProgramWrong)

/-- 'laws.FnExactSteepestOf': WHATEVER THE INPUT: true; the input reads as it did. -/
def fnExactSteepestOfSpec : ChangeSpec := { name := "fnExactSteepestOf", fn := fun _ => fun
  | [d] => { results := [.lit (.bool true)], args := [d] }
  | _ => none }
def fnExactSteepestOfRow : OpenClaim := { program := "ytobngbphmhggkab", sum := "d48129513b2b3940e23e037aa0f5f1c4b2145562fc3a15aa09751220a25d5890", func := "loop.example/g01264/laws.FnExactSteepestOf", spec := "fnExactSteepestOf", unfollowed := true, recurses := true, apart := false }
def FnExactSteepestOfSaid : Prop := fnExactSteepestOfRow.holds Try.pinned (OpenSpec.ofChange fnExactSteepestOfSpec)

/-- ITS FALSE NEIGHBOUR: 'it returns false'. Refute it at one input. -/
def fnExactSteepestOfWrong : ChangeSpec := { name := "fnExactSteepestOf", fn := fun _ => fun
  | [d] => { results := [.lit (.bool false)], args := [d] }
  | _ => none }
def FnExactSteepestOfWrongFalsely : Prop := fnExactSteepestOfRow.holds Try.pinned (OpenSpec.ofChange fnExactSteepestOfWrong)

/-- 'laws.FnExactRaiseCam': WHATEVER THE INPUT: true; the input reads as it did. -/
def fnExactRaiseCamSpec : ChangeSpec := { name := "fnExactRaiseCam", fn := fun _ => fun
  | [d1, d2] => { results := [.lit (.bool true)], args := [d1, d2] }
  | _ => none }
def fnExactRaiseCamRow : OpenClaim := { program := "ytobngbphmhggkab", sum := "d48129513b2b3940e23e037aa0f5f1c4b2145562fc3a15aa09751220a25d5890", func := "loop.example/g01264/laws.FnExactRaiseCam", spec := "fnExactRaiseCam", unfollowed := true, recurses := true, apart := false }
def FnExactRaiseCamSaid : Prop := fnExactRaiseCamRow.holds Try.pinned (OpenSpec.ofChange fnExactRaiseCamSpec)

/-- ITS FALSE NEIGHBOUR: 'it returns false'. Refute it at one input. -/
def fnExactRaiseCamWrong : ChangeSpec := { name := "fnExactRaiseCam", fn := fun _ => fun
  | [d1, d2] => { results := [.lit (.bool false)], args := [d1, d2] }
  | _ => none }
def FnExactRaiseCamWrongFalsely : Prop := fnExactRaiseCamRow.holds Try.pinned (OpenSpec.ofChange fnExactRaiseCamWrong)

/-- 'laws.FnExactRoughestOf': WHATEVER THE INPUT: true; the input reads as it did. -/
def fnExactRoughestOfSpec : ChangeSpec := { name := "fnExactRoughestOf", fn := fun _ => fun
  | [d] => { results := [.lit (.bool true)], args := [d] }
  | _ => none }
def fnExactRoughestOfRow : OpenClaim := { program := "ytobngbphmhggkab", sum := "d48129513b2b3940e23e037aa0f5f1c4b2145562fc3a15aa09751220a25d5890", func := "loop.example/g01264/laws.FnExactRoughestOf", spec := "fnExactRoughestOf", unfollowed := true, recurses := true, apart := false }
def FnExactRoughestOfSaid : Prop := fnExactRoughestOfRow.holds Try.pinned (OpenSpec.ofChange fnExactRoughestOfSpec)

/-- ITS FALSE NEIGHBOUR: 'it returns false'. Refute it at one input. -/
def fnExactRoughestOfWrong : ChangeSpec := { name := "fnExactRoughestOf", fn := fun _ => fun
  | [d] => { results := [.lit (.bool false)], args := [d] }
  | _ => none }
def FnExactRoughestOfWrongFalsely : Prop := fnExactRoughestOfRow.holds Try.pinned (OpenSpec.ofChange fnExactRoughestOfWrong)

/-- 'laws.FnExactThinCam': WHATEVER THE INPUT: true; the input reads as it did. -/
def fnExactThinCamSpec : ChangeSpec := { name := "fnExactThinCam", fn := fun _ => fun
  | [d1, d2] => { results := [.lit (.bool true)], args := [d1, d2] }
  | _ => none }
def fnExactThinCamRow : OpenClaim := { program := "ytobngbphmhggkab", sum := "d48129513b2b3940e23e037aa0f5f1c4b2145562fc3a15aa09751220a25d5890", func := "loop.example/g01264/laws.FnExactThinCam", spec := "fnExactThinCam", unfollowed := true, recurses := true, apart := false }
def FnExactThinCamSaid : Prop := fnExactThinCamRow.holds Try.pinned (OpenSpec.ofChange fnExactThinCamSpec)

/-- ITS FALSE NEIGHBOUR: 'it returns false'. Refute it at one input. -/
def fnExactThinCamWrong : ChangeSpec := { name := "fnExactThinCam", fn := fun _ => fun
  | [d1, d2] => { results := [.lit (.bool false)], args := [d1, d2] }
  | _ => none }
def FnExactThinCamWrongFalsely : Prop := fnExactThinCamRow.holds Try.pinned (OpenSpec.ofChange fnExactThinCamWrong)

/- THE SECOND FORM. 'bulk': how many values and letters a reading holds, each counted each time it is reached (what is shared counts as often as it is met; a slice's spare places count too). A statement '..UptoSaid' is the law's where the arguments, and the package variables that the reading takes, are together of bulk at most 1048576: NARROWER than '..Said'. Prove '..Said' where nothing that the law and all that it calls make is longer than what came in: it says more and counts as full. Else prove '..UptoSaid'. A law counts once. -/
mutual
def uptoBulk {H : Type} : DataW H → Nat
  | .lit (.string bytes) => bytes.length + 1
  | .lit _ => 1
  | .nil => 1
  | .ptr d => uptoBulk d + 1
  | .slice elems spare => uptoBulkAll elems + uptoBulkAll spare + 1
  | .agg parts => uptoBulkAll parts + 1
  | .iface _ d => uptoBulk d + 1
  | .map entries => uptoBulkEntries entries + 1
  | .held _ => 1
def uptoBulkAll {H : Type} : List (DataW H) → Nat
  | [] => 0
  | d :: r => uptoBulk d + uptoBulkAll r
def uptoBulkEntries {H : Type} : List (Lit × DataW H) → Nat
  | [] => 0
  | x :: r => uptoBulkEntry x + uptoBulkEntries r
def uptoBulkEntry {H : Type} : Lit × DataW H → Nat
  | (.string bytes, d) => bytes.length + uptoBulk d + 1
  | (_, d) => uptoBulk d + 1
 end
def uptoSmall : (H : Type) → List (DataW H) → Bool := fun _ ds => decide (uptoBulkAll ds ≤ 1048576)
def OpenSpec.upto (s : _root_.Go.ChangeSpec) : _root_.Go.OpenSpec := { _root_.Go.OpenSpec.ofChange s with cond := some uptoSmall }

/-- 'laws.FnExactSquaresOf', WHERE WHAT IT READS IS OF BULK AT MOST 1048576: true; the input reads as it did. -/
def fnExactSquaresOfUptoRow : OpenClaim := { program := "ytobngbphmhggkab", sum := "d48129513b2b3940e23e037aa0f5f1c4b2145562fc3a15aa09751220a25d5890", func := "loop.example/g01264/laws.FnExactSquaresOf", spec := "fnExactSquaresOf", unfollowed := true, recurses := true, apart := false, narrowed := true }
def FnExactSquaresOfUptoSaid : Prop := fnExactSquaresOfUptoRow.holds Try.pinned (OpenSpec.upto fnExactSquaresOfSpec)

/-- 'laws.FnExactRangeOf', WHERE WHAT IT READS IS OF BULK AT MOST 1048576: true; the input reads as it did. -/
def fnExactRangeOfUptoRow : OpenClaim := { program := "ytobngbphmhggkab", sum := "d48129513b2b3940e23e037aa0f5f1c4b2145562fc3a15aa09751220a25d5890", func := "loop.example/g01264/laws.FnExactRangeOf", spec := "fnExactRangeOf", unfollowed := true, recurses := true, apart := false, narrowed := true }
def FnExactRangeOfUptoSaid : Prop := fnExactRangeOfUptoRow.holds Try.pinned (OpenSpec.upto fnExactRangeOfSpec)

/-- 'laws.FnExactMirrorCam', WHERE WHAT IT READS IS OF BULK AT MOST 1048576: true; the input reads as it did. -/
def fnExactMirrorCamUptoRow : OpenClaim := { program := "ytobngbphmhggkab", sum := "d48129513b2b3940e23e037aa0f5f1c4b2145562fc3a15aa09751220a25d5890", func := "loop.example/g01264/laws.FnExactMirrorCam", spec := "fnExactMirrorCam", unfollowed := true, recurses := true, apart := false, narrowed := true }
def FnExactMirrorCamUptoSaid : Prop := fnExactMirrorCamUptoRow.holds Try.pinned (OpenSpec.upto fnExactMirrorCamSpec)

/-- 'laws.FnExactCanReplace', WHERE WHAT IT READS IS OF BULK AT MOST 1048576: true; the input reads as it did. -/
def fnExactCanReplaceUptoRow : OpenClaim := { program := "ytobngbphmhggkab", sum := "d48129513b2b3940e23e037aa0f5f1c4b2145562fc3a15aa09751220a25d5890", func := "loop.example/g01264/laws.FnExactCanReplace", spec := "fnExactCanReplace", apart := false, narrowed := true }
def FnExactCanReplaceUptoSaid : Prop := fnExactCanReplaceUptoRow.holds Try.pinned (OpenSpec.upto fnExactCanReplaceSpec)

/-- 'laws.FnExactLeastRate', WHERE WHAT IT READS IS OF BULK AT MOST 1048576: true; the input reads as it did. -/
def fnExactLeastRateUptoRow : OpenClaim := { program := "ytobngbphmhggkab", sum := "d48129513b2b3940e23e037aa0f5f1c4b2145562fc3a15aa09751220a25d5890", func := "loop.example/g01264/laws.FnExactLeastRate", spec := "fnExactLeastRate", unfollowed := true, recurses := true, apart := false, narrowed := true }
def FnExactLeastRateUptoSaid : Prop := fnExactLeastRateUptoRow.holds Try.pinned (OpenSpec.upto fnExactLeastRateSpec)

/-- 'laws.FnExactLeastSpring', WHERE WHAT IT READS IS OF BULK AT MOST 1048576: true; the input reads as it did. -/
def fnExactLeastSpringUptoRow : OpenClaim := { program := "ytobngbphmhggkab", sum := "d48129513b2b3940e23e037aa0f5f1c4b2145562fc3a15aa09751220a25d5890", func := "loop.example/g01264/laws.FnExactLeastSpring", spec := "fnExactLeastSpring", unfollowed := true, recurses := true, apart := false, narrowed := true }
def FnExactLeastSpringUptoSaid : Prop := fnExactLeastSpringUptoRow.holds Try.pinned (OpenSpec.upto fnExactLeastSpringSpec)

/-- 'laws.FnExactLeastSteps', WHERE WHAT IT READS IS OF BULK AT MOST 1048576: true; the input reads as it did. -/
def fnExactLeastStepsUptoRow : OpenClaim := { program := "ytobngbphmhggkab", sum := "d48129513b2b3940e23e037aa0f5f1c4b2145562fc3a15aa09751220a25d5890", func := "loop.example/g01264/laws.FnExactLeastSteps", spec := "fnExactLeastSteps", apart := false, narrowed := true }
def FnExactLeastStepsUptoSaid : Prop := fnExactLeastStepsUptoRow.holds Try.pinned (OpenSpec.upto fnExactLeastStepsSpec)

/-- 'laws.FnExactValidProgram', WHERE WHAT IT READS IS OF BULK AT MOST 1048576: true; the input reads as it did. -/
def fnExactValidProgramUptoRow : OpenClaim := { program := "ytobngbphmhggkab", sum := "d48129513b2b3940e23e037aa0f5f1c4b2145562fc3a15aa09751220a25d5890", func := "loop.example/g01264/laws.FnExactValidProgram", spec := "fnExactValidProgram", unfollowed := true, recurses := true, apart := false, narrowed := true }
def FnExactValidProgramUptoSaid : Prop := fnExactValidProgramUptoRow.holds Try.pinned (OpenSpec.upto fnExactValidProgramSpec)

/-- 'laws.FnExactSteepestOf', WHERE WHAT IT READS IS OF BULK AT MOST 1048576: true; the input reads as it did. -/
def fnExactSteepestOfUptoRow : OpenClaim := { program := "ytobngbphmhggkab", sum := "d48129513b2b3940e23e037aa0f5f1c4b2145562fc3a15aa09751220a25d5890", func := "loop.example/g01264/laws.FnExactSteepestOf", spec := "fnExactSteepestOf", unfollowed := true, recurses := true, apart := false, narrowed := true }
def FnExactSteepestOfUptoSaid : Prop := fnExactSteepestOfUptoRow.holds Try.pinned (OpenSpec.upto fnExactSteepestOfSpec)

/-- 'laws.FnExactRaiseCam', WHERE WHAT IT READS IS OF BULK AT MOST 1048576: true; the input reads as it did. -/
def fnExactRaiseCamUptoRow : OpenClaim := { program := "ytobngbphmhggkab", sum := "d48129513b2b3940e23e037aa0f5f1c4b2145562fc3a15aa09751220a25d5890", func := "loop.example/g01264/laws.FnExactRaiseCam", spec := "fnExactRaiseCam", unfollowed := true, recurses := true, apart := false, narrowed := true }
def FnExactRaiseCamUptoSaid : Prop := fnExactRaiseCamUptoRow.holds Try.pinned (OpenSpec.upto fnExactRaiseCamSpec)

/-- 'laws.FnExactRoughestOf', WHERE WHAT IT READS IS OF BULK AT MOST 1048576: true; the input reads as it did. -/
def fnExactRoughestOfUptoRow : OpenClaim := { program := "ytobngbphmhggkab", sum := "d48129513b2b3940e23e037aa0f5f1c4b2145562fc3a15aa09751220a25d5890", func := "loop.example/g01264/laws.FnExactRoughestOf", spec := "fnExactRoughestOf", unfollowed := true, recurses := true, apart := false, narrowed := true }
def FnExactRoughestOfUptoSaid : Prop := fnExactRoughestOfUptoRow.holds Try.pinned (OpenSpec.upto fnExactRoughestOfSpec)

/-- 'laws.FnExactThinCam', WHERE WHAT IT READS IS OF BULK AT MOST 1048576: true; the input reads as it did. -/
def fnExactThinCamUptoRow : OpenClaim := { program := "ytobngbphmhggkab", sum := "d48129513b2b3940e23e037aa0f5f1c4b2145562fc3a15aa09751220a25d5890", func := "loop.example/g01264/laws.FnExactThinCam", spec := "fnExactThinCam", unfollowed := true, recurses := true, apart := false, narrowed := true }
def FnExactThinCamUptoSaid : Prop := fnExactThinCamUptoRow.holds Try.pinned (OpenSpec.upto fnExactThinCamSpec)

end Rows
end Go.Proofs.Ytobngbphmhggkab
