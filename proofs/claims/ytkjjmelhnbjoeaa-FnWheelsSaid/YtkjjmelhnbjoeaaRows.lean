/-
  No cell of these rows narrows 'for every input' (looked for: loops, veiled, ifaces, maps, wideKeys, modest, calm, conditions, laid).
  DERIVED. THE GIVEN ROWS OF THIS SEAT. 12 by the template 'for every input the law returns true; each argument reads behind the call as it read before'; 0 by the template 'total and deterministic' (their statements: YtkjjmelhnbjoeaaTotals.lean).
  GIVEN WITH THE SEED: the statements are not yours to turn. If you find one false, say at which input.
  Laid BY PROGRAM, IN A SANDBOX (cutbox-rows.mjs): the forced cells as the released guide's own fill.sh prints them over the translation 6240ead5dca2346d… (all of the seat's roots in one cut). By AI agents, Wed Nov 11 2026. No macro, syntax, notation, axiom, sorry.
-/
import Derived.Test.YtkjjmelhnbjoeaaChecked
import GoSem.Claim
import GoSem.ClaimJoined
import GoSem.ClaimMapViews
import Derived.JoinedTies
import Derived.KernelRfl
namespace Go.Proofs.Ytkjjmelhnbjoeaa
/- THE CELL 'sum', in the pinned program and in every row, IS THE sha256 OF THE DUMP (.gsa) THAT YtkjjmelhnbjoeaaProg.lean LOADS. Nothing in Lean hashes anything: it is a label: what it is worth is what the hold of that sum in a sandbox is worth. -/
noncomputable def Try.pinned : Pinned := { name := "ytkjjmelhnbjoeaa", sum := "6240ead5dca2346d3f70d2efef1e0efb7994d84d5b2218fa474517f1e39e851b", checked := Try.checked }
namespace Rows
def none {H : Type} : Left H := { results := [], args := [] }

/-- 'laws.FnExactConstants': WHATEVER THE INPUT: true; the input reads as it did. -/
def fnExactConstantsSpec : ChangeSpec := { name := "fnExactConstants", fn := fun _ => fun
  | [] => { results := [.lit (.bool true)], args := [] }
  | _ => none }
def fnExactConstantsRow : OpenClaim := { program := "ytkjjmelhnbjoeaa", sum := "6240ead5dca2346d3f70d2efef1e0efb7994d84d5b2218fa474517f1e39e851b", func := "loop.example/g01264/laws.FnExactConstants", spec := "fnExactConstants", apart := false }
def FnExactConstantsSaid : Prop := fnExactConstantsRow.holds Try.pinned (OpenSpec.ofChange fnExactConstantsSpec)

/-- ITS FALSE NEIGHBOUR: 'it returns false'. Refute it at one input. -/
def fnExactConstantsWrong : ChangeSpec := { name := "fnExactConstants", fn := fun _ => fun
  | [] => { results := [.lit (.bool false)], args := [] }
  | _ => none }
def FnExactConstantsWrongFalsely : Prop := fnExactConstantsRow.holds Try.pinned (OpenSpec.ofChange fnExactConstantsWrong)

/-- 'laws.FnExactValidFollower': WHATEVER THE INPUT: true; the input reads as it did. -/
def fnExactValidFollowerSpec : ChangeSpec := { name := "fnExactValidFollower", fn := fun _ => fun
  | [d] => { results := [.lit (.bool true)], args := [d] }
  | _ => none }
def fnExactValidFollowerRow : OpenClaim := { program := "ytkjjmelhnbjoeaa", sum := "6240ead5dca2346d3f70d2efef1e0efb7994d84d5b2218fa474517f1e39e851b", func := "loop.example/g01264/laws.FnExactValidFollower", spec := "fnExactValidFollower", apart := false }
def FnExactValidFollowerSaid : Prop := fnExactValidFollowerRow.holds Try.pinned (OpenSpec.ofChange fnExactValidFollowerSpec)

/-- ITS FALSE NEIGHBOUR: 'it returns false'. Refute it at one input. -/
def fnExactValidFollowerWrong : ChangeSpec := { name := "fnExactValidFollower", fn := fun _ => fun
  | [d] => { results := [.lit (.bool false)], args := [d] }
  | _ => none }
def FnExactValidFollowerWrongFalsely : Prop := fnExactValidFollowerRow.holds Try.pinned (OpenSpec.ofChange fnExactValidFollowerWrong)

/-- 'laws.FnExactHasPair': WHATEVER THE INPUT: true; the input reads as it did. -/
def fnExactHasPairSpec : ChangeSpec := { name := "fnExactHasPair", fn := fun _ => fun
  | [d1, d2, d3] => { results := [.lit (.bool true)], args := [d1, d2, d3] }
  | _ => none }
def fnExactHasPairRow : OpenClaim := { program := "ytkjjmelhnbjoeaa", sum := "6240ead5dca2346d3f70d2efef1e0efb7994d84d5b2218fa474517f1e39e851b", func := "loop.example/g01264/laws.FnExactHasPair", spec := "fnExactHasPair", apart := false }
def FnExactHasPairSaid : Prop := fnExactHasPairRow.holds Try.pinned (OpenSpec.ofChange fnExactHasPairSpec)

/-- ITS FALSE NEIGHBOUR: 'it returns false'. Refute it at one input. -/
def fnExactHasPairWrong : ChangeSpec := { name := "fnExactHasPair", fn := fun _ => fun
  | [d1, d2, d3] => { results := [.lit (.bool false)], args := [d1, d2, d3] }
  | _ => none }
def FnExactHasPairWrongFalsely : Prop := fnExactHasPairRow.holds Try.pinned (OpenSpec.ofChange fnExactHasPairWrong)

/-- 'laws.FnExactValidMark': WHATEVER THE INPUT: true; the input reads as it did. -/
def fnExactValidMarkSpec : ChangeSpec := { name := "fnExactValidMark", fn := fun _ => fun
  | [d] => { results := [.lit (.bool true)], args := [d] }
  | _ => none }
def fnExactValidMarkRow : OpenClaim := { program := "ytkjjmelhnbjoeaa", sum := "6240ead5dca2346d3f70d2efef1e0efb7994d84d5b2218fa474517f1e39e851b", func := "loop.example/g01264/laws.FnExactValidMark", spec := "fnExactValidMark", apart := false }
def FnExactValidMarkSaid : Prop := fnExactValidMarkRow.holds Try.pinned (OpenSpec.ofChange fnExactValidMarkSpec)

/-- ITS FALSE NEIGHBOUR: 'it returns false'. Refute it at one input. -/
def fnExactValidMarkWrong : ChangeSpec := { name := "fnExactValidMark", fn := fun _ => fun
  | [d] => { results := [.lit (.bool false)], args := [d] }
  | _ => none }
def FnExactValidMarkWrongFalsely : Prop := fnExactValidMarkRow.holds Try.pinned (OpenSpec.ofChange fnExactValidMarkWrong)

/-- 'laws.FnExactHasInk': WHATEVER THE INPUT: true; the input reads as it did. -/
def fnExactHasInkSpec : ChangeSpec := { name := "fnExactHasInk", fn := fun _ => fun
  | [d1, d2] => { results := [.lit (.bool true)], args := [d1, d2] }
  | _ => none }
def fnExactHasInkRow : OpenClaim := { program := "ytkjjmelhnbjoeaa", sum := "6240ead5dca2346d3f70d2efef1e0efb7994d84d5b2218fa474517f1e39e851b", func := "loop.example/g01264/laws.FnExactHasInk", spec := "fnExactHasInk", apart := false }
def FnExactHasInkSaid : Prop := fnExactHasInkRow.holds Try.pinned (OpenSpec.ofChange fnExactHasInkSpec)

/-- ITS FALSE NEIGHBOUR: 'it returns false'. Refute it at one input. -/
def fnExactHasInkWrong : ChangeSpec := { name := "fnExactHasInk", fn := fun _ => fun
  | [d1, d2] => { results := [.lit (.bool false)], args := [d1, d2] }
  | _ => none }
def FnExactHasInkWrongFalsely : Prop := fnExactHasInkRow.holds Try.pinned (OpenSpec.ofChange fnExactHasInkWrong)

/-- 'laws.FnWheels': WHATEVER THE INPUT: true; the input reads as it did. -/
def fnWheelsSpec : ChangeSpec := { name := "fnWheels", fn := fun _ => fun
  | [d1, d2] => { results := [.lit (.bool true)], args := [d1, d2] }
  | _ => none }
def fnWheelsRow : OpenClaim := { program := "ytkjjmelhnbjoeaa", sum := "6240ead5dca2346d3f70d2efef1e0efb7994d84d5b2218fa474517f1e39e851b", func := "loop.example/g01264/laws.FnWheels", spec := "fnWheels", recurses := true, apart := false }
def FnWheelsSaid : Prop := fnWheelsRow.holds Try.pinned (OpenSpec.ofChange fnWheelsSpec)

/-- ITS FALSE NEIGHBOUR: 'it returns false'. Refute it at one input. -/
def fnWheelsWrong : ChangeSpec := { name := "fnWheels", fn := fun _ => fun
  | [d1, d2] => { results := [.lit (.bool false)], args := [d1, d2] }
  | _ => none }
def FnWheelsWrongFalsely : Prop := fnWheelsRow.holds Try.pinned (OpenSpec.ofChange fnWheelsWrong)

/-- 'laws.FnExactFlatCutter': WHATEVER THE INPUT: true; the input reads as it did. -/
def fnExactFlatCutterSpec : ChangeSpec := { name := "fnExactFlatCutter", fn := fun _ => fun
  | [d] => { results := [.lit (.bool true)], args := [d] }
  | _ => none }
def fnExactFlatCutterRow : OpenClaim := { program := "ytkjjmelhnbjoeaa", sum := "6240ead5dca2346d3f70d2efef1e0efb7994d84d5b2218fa474517f1e39e851b", func := "loop.example/g01264/laws.FnExactFlatCutter", spec := "fnExactFlatCutter", apart := false }
def FnExactFlatCutterSaid : Prop := fnExactFlatCutterRow.holds Try.pinned (OpenSpec.ofChange fnExactFlatCutterSpec)

/-- ITS FALSE NEIGHBOUR: 'it returns false'. Refute it at one input. -/
def fnExactFlatCutterWrong : ChangeSpec := { name := "fnExactFlatCutter", fn := fun _ => fun
  | [d] => { results := [.lit (.bool false)], args := [d] }
  | _ => none }
def FnExactFlatCutterWrongFalsely : Prop := fnExactFlatCutterRow.holds Try.pinned (OpenSpec.ofChange fnExactFlatCutterWrong)

/-- 'laws.FnExactSameCam': WHATEVER THE INPUT: true; the input reads as it did. -/
def fnExactSameCamSpec : ChangeSpec := { name := "fnExactSameCam", fn := fun _ => fun
  | [d1, d2] => { results := [.lit (.bool true)], args := [d1, d2] }
  | _ => none }
def fnExactSameCamRow : OpenClaim := { program := "ytkjjmelhnbjoeaa", sum := "6240ead5dca2346d3f70d2efef1e0efb7994d84d5b2218fa474517f1e39e851b", func := "loop.example/g01264/laws.FnExactSameCam", spec := "fnExactSameCam", apart := false }
def FnExactSameCamSaid : Prop := fnExactSameCamRow.holds Try.pinned (OpenSpec.ofChange fnExactSameCamSpec)

/-- ITS FALSE NEIGHBOUR: 'it returns false'. Refute it at one input. -/
def fnExactSameCamWrong : ChangeSpec := { name := "fnExactSameCam", fn := fun _ => fun
  | [d1, d2] => { results := [.lit (.bool false)], args := [d1, d2] }
  | _ => none }
def FnExactSameCamWrongFalsely : Prop := fnExactSameCamRow.holds Try.pinned (OpenSpec.ofChange fnExactSameCamWrong)

/-- 'laws.FnExactValidCutter': WHATEVER THE INPUT: true; the input reads as it did. -/
def fnExactValidCutterSpec : ChangeSpec := { name := "fnExactValidCutter", fn := fun _ => fun
  | [d] => { results := [.lit (.bool true)], args := [d] }
  | _ => none }
def fnExactValidCutterRow : OpenClaim := { program := "ytkjjmelhnbjoeaa", sum := "6240ead5dca2346d3f70d2efef1e0efb7994d84d5b2218fa474517f1e39e851b", func := "loop.example/g01264/laws.FnExactValidCutter", spec := "fnExactValidCutter", apart := false }
def FnExactValidCutterSaid : Prop := fnExactValidCutterRow.holds Try.pinned (OpenSpec.ofChange fnExactValidCutterSpec)

/-- ITS FALSE NEIGHBOUR: 'it returns false'. Refute it at one input. -/
def fnExactValidCutterWrong : ChangeSpec := { name := "fnExactValidCutter", fn := fun _ => fun
  | [d] => { results := [.lit (.bool false)], args := [d] }
  | _ => none }
def FnExactValidCutterWrongFalsely : Prop := fnExactValidCutterRow.holds Try.pinned (OpenSpec.ofChange fnExactValidCutterWrong)

/-- 'laws.FnExactWheelsFor': WHATEVER THE INPUT: true; the input reads as it did. -/
def fnExactWheelsForSpec : ChangeSpec := { name := "fnExactWheelsFor", fn := fun _ => fun
  | [d1, d2] => { results := [.lit (.bool true)], args := [d1, d2] }
  | _ => none }
def fnExactWheelsForRow : OpenClaim := { program := "ytkjjmelhnbjoeaa", sum := "6240ead5dca2346d3f70d2efef1e0efb7994d84d5b2218fa474517f1e39e851b", func := "loop.example/g01264/laws.FnExactWheelsFor", spec := "fnExactWheelsFor", recurses := true, apart := false }
def FnExactWheelsForSaid : Prop := fnExactWheelsForRow.holds Try.pinned (OpenSpec.ofChange fnExactWheelsForSpec)

/-- ITS FALSE NEIGHBOUR: 'it returns false'. Refute it at one input. -/
def fnExactWheelsForWrong : ChangeSpec := { name := "fnExactWheelsFor", fn := fun _ => fun
  | [d1, d2] => { results := [.lit (.bool false)], args := [d1, d2] }
  | _ => none }
def FnExactWheelsForWrongFalsely : Prop := fnExactWheelsForRow.holds Try.pinned (OpenSpec.ofChange fnExactWheelsForWrong)

/-- 'laws.FnExactRoundCutter': WHATEVER THE INPUT: true; the input reads as it did. -/
def fnExactRoundCutterSpec : ChangeSpec := { name := "fnExactRoundCutter", fn := fun _ => fun
  | [d] => { results := [.lit (.bool true)], args := [d] }
  | _ => none }
def fnExactRoundCutterRow : OpenClaim := { program := "ytkjjmelhnbjoeaa", sum := "6240ead5dca2346d3f70d2efef1e0efb7994d84d5b2218fa474517f1e39e851b", func := "loop.example/g01264/laws.FnExactRoundCutter", spec := "fnExactRoundCutter", apart := false }
def FnExactRoundCutterSaid : Prop := fnExactRoundCutterRow.holds Try.pinned (OpenSpec.ofChange fnExactRoundCutterSpec)

/-- ITS FALSE NEIGHBOUR: 'it returns false'. Refute it at one input. -/
def fnExactRoundCutterWrong : ChangeSpec := { name := "fnExactRoundCutter", fn := fun _ => fun
  | [d] => { results := [.lit (.bool false)], args := [d] }
  | _ => none }
def FnExactRoundCutterWrongFalsely : Prop := fnExactRoundCutterRow.holds Try.pinned (OpenSpec.ofChange fnExactRoundCutterWrong)

/-- 'laws.FnExactShapeOf': WHATEVER THE INPUT: true; the input reads as it did. -/
def fnExactShapeOfSpec : ChangeSpec := { name := "fnExactShapeOf", fn := fun _ => fun
  | [d1, d2, d3] => { results := [.lit (.bool true)], args := [d1, d2, d3] }
  | _ => none }
def fnExactShapeOfRow : OpenClaim := { program := "ytkjjmelhnbjoeaa", sum := "6240ead5dca2346d3f70d2efef1e0efb7994d84d5b2218fa474517f1e39e851b", func := "loop.example/g01264/laws.FnExactShapeOf", spec := "fnExactShapeOf", apart := false }
def FnExactShapeOfSaid : Prop := fnExactShapeOfRow.holds Try.pinned (OpenSpec.ofChange fnExactShapeOfSpec)

/-- ITS FALSE NEIGHBOUR: 'it returns false'. Refute it at one input. -/
def fnExactShapeOfWrong : ChangeSpec := { name := "fnExactShapeOf", fn := fun _ => fun
  | [d1, d2, d3] => { results := [.lit (.bool false)], args := [d1, d2, d3] }
  | _ => none }
def FnExactShapeOfWrongFalsely : Prop := fnExactShapeOfRow.holds Try.pinned (OpenSpec.ofChange fnExactShapeOfWrong)

/- THE SECOND FORM. 'bulk': how many values and letters a reading holds, each counted each time it is reached (what is shared counts as often as it is met; a slice's spare places count too). A statement '..UptoSaid' is the law's where the arguments, and the package variables that the reading takes, are together of bulk at most 1048576: NARROWER than '..Said'. Prove '..Said' where nothing that the law and all that it calls make is longer than what came in: it says more and counts as full. Else prove '..UptoSaid'. A law counts once. -/
mutual
def uptoBulk {H : Type} : DataW H → Nat
  | .lit (.string bytes) => bytes.length + 1
  | .lit _ => 1
  | .nil => 1
  | .ptr d => uptoBulk d + 1
  | .slice elems spare => uptoBulkAll elems + uptoBulkAll spare + 1
  | .agg parts => uptoBulkAll parts + 1
  | .iface _ d => uptoBulk d + 1
  | .map entries => uptoBulkEntries entries + 1
  | .held _ => 1
def uptoBulkAll {H : Type} : List (DataW H) → Nat
  | [] => 0
  | d :: r => uptoBulk d + uptoBulkAll r
def uptoBulkEntries {H : Type} : List (Lit × DataW H) → Nat
  | [] => 0
  | x :: r => uptoBulkEntry x + uptoBulkEntries r
def uptoBulkEntry {H : Type} : Lit × DataW H → Nat
  | (.string bytes, d) => bytes.length + uptoBulk d + 1
  | (_, d) => uptoBulk d + 1
 end
def uptoSmall : (H : Type) → List (DataW H) → Bool := fun _ ds => decide (uptoBulkAll ds ≤ 1048576)
def OpenSpec.upto (s : _root_.Go.ChangeSpec) : _root_.Go.OpenSpec := { _root_.Go.OpenSpec.ofChange s with cond := some uptoSmall }

/-- 'laws.FnExactConstants', WHERE WHAT IT READS IS OF BULK AT MOST 1048576: true; the input reads as it did. -/
def fnExactConstantsUptoRow : OpenClaim := { program := "ytkjjmelhnbjoeaa", sum := "6240ead5dca2346d3f70d2efef1e0efb7994d84d5b2218fa474517f1e39e851b", func := "loop.example/g01264/laws.FnExactConstants", spec := "fnExactConstants", apart := false, narrowed := true }
def FnExactConstantsUptoSaid : Prop := fnExactConstantsUptoRow.holds Try.pinned (OpenSpec.upto fnExactConstantsSpec)

/-- 'laws.FnExactValidFollower', WHERE WHAT IT READS IS OF BULK AT MOST 1048576: true; the input reads as it did. -/
def fnExactValidFollowerUptoRow : OpenClaim := { program := "ytkjjmelhnbjoeaa", sum := "6240ead5dca2346d3f70d2efef1e0efb7994d84d5b2218fa474517f1e39e851b", func := "loop.example/g01264/laws.FnExactValidFollower", spec := "fnExactValidFollower", apart := false, narrowed := true }
def FnExactValidFollowerUptoSaid : Prop := fnExactValidFollowerUptoRow.holds Try.pinned (OpenSpec.upto fnExactValidFollowerSpec)

/-- 'laws.FnExactHasPair', WHERE WHAT IT READS IS OF BULK AT MOST 1048576: true; the input reads as it did. -/
def fnExactHasPairUptoRow : OpenClaim := { program := "ytkjjmelhnbjoeaa", sum := "6240ead5dca2346d3f70d2efef1e0efb7994d84d5b2218fa474517f1e39e851b", func := "loop.example/g01264/laws.FnExactHasPair", spec := "fnExactHasPair", apart := false, narrowed := true }
def FnExactHasPairUptoSaid : Prop := fnExactHasPairUptoRow.holds Try.pinned (OpenSpec.upto fnExactHasPairSpec)

/-- 'laws.FnExactValidMark', WHERE WHAT IT READS IS OF BULK AT MOST 1048576: true; the input reads as it did. -/
def fnExactValidMarkUptoRow : OpenClaim := { program := "ytkjjmelhnbjoeaa", sum := "6240ead5dca2346d3f70d2efef1e0efb7994d84d5b2218fa474517f1e39e851b", func := "loop.example/g01264/laws.FnExactValidMark", spec := "fnExactValidMark", apart := false, narrowed := true }
def FnExactValidMarkUptoSaid : Prop := fnExactValidMarkUptoRow.holds Try.pinned (OpenSpec.upto fnExactValidMarkSpec)

/-- 'laws.FnExactHasInk', WHERE WHAT IT READS IS OF BULK AT MOST 1048576: true; the input reads as it did. -/
def fnExactHasInkUptoRow : OpenClaim := { program := "ytkjjmelhnbjoeaa", sum := "6240ead5dca2346d3f70d2efef1e0efb7994d84d5b2218fa474517f1e39e851b", func := "loop.example/g01264/laws.FnExactHasInk", spec := "fnExactHasInk", apart := false, narrowed := true }
def FnExactHasInkUptoSaid : Prop := fnExactHasInkUptoRow.holds Try.pinned (OpenSpec.upto fnExactHasInkSpec)

/-- 'laws.FnWheels', WHERE WHAT IT READS IS OF BULK AT MOST 1048576: true; the input reads as it did. -/
def fnWheelsUptoRow : OpenClaim := { program := "ytkjjmelhnbjoeaa", sum := "6240ead5dca2346d3f70d2efef1e0efb7994d84d5b2218fa474517f1e39e851b", func := "loop.example/g01264/laws.FnWheels", spec := "fnWheels", recurses := true, apart := false, narrowed := true }
def FnWheelsUptoSaid : Prop := fnWheelsUptoRow.holds Try.pinned (OpenSpec.upto fnWheelsSpec)

/-- 'laws.FnExactFlatCutter', WHERE WHAT IT READS IS OF BULK AT MOST 1048576: true; the input reads as it did. -/
def fnExactFlatCutterUptoRow : OpenClaim := { program := "ytkjjmelhnbjoeaa", sum := "6240ead5dca2346d3f70d2efef1e0efb7994d84d5b2218fa474517f1e39e851b", func := "loop.example/g01264/laws.FnExactFlatCutter", spec := "fnExactFlatCutter", apart := false, narrowed := true }
def FnExactFlatCutterUptoSaid : Prop := fnExactFlatCutterUptoRow.holds Try.pinned (OpenSpec.upto fnExactFlatCutterSpec)

/-- 'laws.FnExactSameCam', WHERE WHAT IT READS IS OF BULK AT MOST 1048576: true; the input reads as it did. -/
def fnExactSameCamUptoRow : OpenClaim := { program := "ytkjjmelhnbjoeaa", sum := "6240ead5dca2346d3f70d2efef1e0efb7994d84d5b2218fa474517f1e39e851b", func := "loop.example/g01264/laws.FnExactSameCam", spec := "fnExactSameCam", apart := false, narrowed := true }
def FnExactSameCamUptoSaid : Prop := fnExactSameCamUptoRow.holds Try.pinned (OpenSpec.upto fnExactSameCamSpec)

/-- 'laws.FnExactValidCutter', WHERE WHAT IT READS IS OF BULK AT MOST 1048576: true; the input reads as it did. -/
def fnExactValidCutterUptoRow : OpenClaim := { program := "ytkjjmelhnbjoeaa", sum := "6240ead5dca2346d3f70d2efef1e0efb7994d84d5b2218fa474517f1e39e851b", func := "loop.example/g01264/laws.FnExactValidCutter", spec := "fnExactValidCutter", apart := false, narrowed := true }
def FnExactValidCutterUptoSaid : Prop := fnExactValidCutterUptoRow.holds Try.pinned (OpenSpec.upto fnExactValidCutterSpec)

/-- 'laws.FnExactWheelsFor', WHERE WHAT IT READS IS OF BULK AT MOST 1048576: true; the input reads as it did. -/
def fnExactWheelsForUptoRow : OpenClaim := { program := "ytkjjmelhnbjoeaa", sum := "6240ead5dca2346d3f70d2efef1e0efb7994d84d5b2218fa474517f1e39e851b", func := "loop.example/g01264/laws.FnExactWheelsFor", spec := "fnExactWheelsFor", recurses := true, apart := false, narrowed := true }
def FnExactWheelsForUptoSaid : Prop := fnExactWheelsForUptoRow.holds Try.pinned (OpenSpec.upto fnExactWheelsForSpec)

/-- 'laws.FnExactRoundCutter', WHERE WHAT IT READS IS OF BULK AT MOST 1048576: true; the input reads as it did. -/
def fnExactRoundCutterUptoRow : OpenClaim := { program := "ytkjjmelhnbjoeaa", sum := "6240ead5dca2346d3f70d2efef1e0efb7994d84d5b2218fa474517f1e39e851b", func := "loop.example/g01264/laws.FnExactRoundCutter", spec := "fnExactRoundCutter", apart := false, narrowed := true }
def FnExactRoundCutterUptoSaid : Prop := fnExactRoundCutterUptoRow.holds Try.pinned (OpenSpec.upto fnExactRoundCutterSpec)

/-- 'laws.FnExactShapeOf', WHERE WHAT IT READS IS OF BULK AT MOST 1048576: true; the input reads as it did. -/
def fnExactShapeOfUptoRow : OpenClaim := { program := "ytkjjmelhnbjoeaa", sum := "6240ead5dca2346d3f70d2efef1e0efb7994d84d5b2218fa474517f1e39e851b", func := "loop.example/g01264/laws.FnExactShapeOf", spec := "fnExactShapeOf", apart := false, narrowed := true }
def FnExactShapeOfUptoSaid : Prop := fnExactShapeOfUptoRow.holds Try.pinned (OpenSpec.upto fnExactShapeOfSpec)

end Rows
end Go.Proofs.Ytkjjmelhnbjoeaa
