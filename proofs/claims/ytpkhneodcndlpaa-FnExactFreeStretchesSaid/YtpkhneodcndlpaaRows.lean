/-
  No cell of these rows narrows 'for every input' (looked for: loops, veiled, ifaces, maps, wideKeys, modest, calm, conditions, laid).
  DERIVED. THE GIVEN ROWS OF THIS SEAT. 6 by the template 'for every input the law returns true; each argument reads behind the call as it read before'; 0 by the template 'total and deterministic' (their statements: YtpkhneodcndlpaaTotals.lean).
  GIVEN WITH THE SEED: the statements are not yours to turn. If you find one false, say at which input.
  Laid BY PROGRAM, IN A SANDBOX (cutbox-rows.mjs): the forced cells as the released guide's own fill.sh prints them over the translation 358150361650fb78… (all of the seat's roots in one cut). By AI agents, Wed Nov 11 2026. No macro, syntax, notation, axiom, sorry.
-/
import Derived.Test.YtpkhneodcndlpaaChecked
import GoSem.Claim
import GoSem.ClaimJoined
import GoSem.ClaimMapViews
import Derived.JoinedTies
import Derived.KernelRfl
namespace Go.Proofs.Ytpkhneodcndlpaa
/- THE CELL 'sum', in the pinned program and in every row, IS THE sha256 OF THE DUMP (.gsa) THAT YtpkhneodcndlpaaProg.lean LOADS. Nothing in Lean hashes anything: it is a label: what it is worth is what the hold of that sum in a sandbox is worth. -/
noncomputable def Try.pinned : Pinned := { name := "ytpkhneodcndlpaa", sum := "358150361650fb786d090bb1f2d22f6e999494f4981200916a1bb1730e7c6892", checked := Try.checked }
namespace Rows
def none {H : Type} : Left H := { results := [], args := [] }

/-- 'laws.FnExactWayOf': WHATEVER THE INPUT: true; the input reads as it did. -/
def fnExactWayOfSpec : ChangeSpec := { name := "fnExactWayOf", fn := fun _ => fun
  | [d1, d2] => { results := [.lit (.bool true)], args := [d1, d2] }
  | _ => none }
def fnExactWayOfRow : OpenClaim := { program := "ytpkhneodcndlpaa", sum := "358150361650fb786d090bb1f2d22f6e999494f4981200916a1bb1730e7c6892", func := "loop.example/g01264/laws.FnExactWayOf", spec := "fnExactWayOf", unfollowed := true, recurses := true, apart := false }
def FnExactWayOfSaid : Prop := fnExactWayOfRow.holds Try.pinned (OpenSpec.ofChange fnExactWayOfSpec)

/-- ITS FALSE NEIGHBOUR: 'it returns false'. Refute it at one input. -/
def fnExactWayOfWrong : ChangeSpec := { name := "fnExactWayOf", fn := fun _ => fun
  | [d1, d2] => { results := [.lit (.bool false)], args := [d1, d2] }
  | _ => none }
def FnExactWayOfWrongFalsely : Prop := fnExactWayOfRow.holds Try.pinned (OpenSpec.ofChange fnExactWayOfWrong)

/-- 'laws.FnExactValidCuts': WHATEVER THE INPUT: true; the input reads as it did. -/
def fnExactValidCutsSpec : ChangeSpec := { name := "fnExactValidCuts", fn := fun _ => fun
  | [d1, d2] => { results := [.lit (.bool true)], args := [d1, d2] }
  | _ => none }
def fnExactValidCutsRow : OpenClaim := { program := "ytpkhneodcndlpaa", sum := "358150361650fb786d090bb1f2d22f6e999494f4981200916a1bb1730e7c6892", func := "loop.example/g01264/laws.FnExactValidCuts", spec := "fnExactValidCuts", unfollowed := true, recurses := true, apart := false }
def FnExactValidCutsSaid : Prop := fnExactValidCutsRow.holds Try.pinned (OpenSpec.ofChange fnExactValidCutsSpec)

/-- ITS FALSE NEIGHBOUR: 'it returns false'. Refute it at one input. -/
def fnExactValidCutsWrong : ChangeSpec := { name := "fnExactValidCuts", fn := fun _ => fun
  | [d1, d2] => { results := [.lit (.bool false)], args := [d1, d2] }
  | _ => none }
def FnExactValidCutsWrongFalsely : Prop := fnExactValidCutsRow.holds Try.pinned (OpenSpec.ofChange fnExactValidCutsWrong)

/-- 'laws.FnExactNearOrder': WHATEVER THE INPUT: true; the input reads as it did. -/
def fnExactNearOrderSpec : ChangeSpec := { name := "fnExactNearOrder", fn := fun _ => fun
  | [d1, d2] => { results := [.lit (.bool true)], args := [d1, d2] }
  | _ => none }
def fnExactNearOrderRow : OpenClaim := { program := "ytpkhneodcndlpaa", sum := "358150361650fb786d090bb1f2d22f6e999494f4981200916a1bb1730e7c6892", func := "loop.example/g01264/laws.FnExactNearOrder", spec := "fnExactNearOrder", unfollowed := true, recurses := true, apart := false }
def FnExactNearOrderSaid : Prop := fnExactNearOrderRow.holds Try.pinned (OpenSpec.ofChange fnExactNearOrderSpec)

/-- ITS FALSE NEIGHBOUR: 'it returns false'. Refute it at one input. -/
def fnExactNearOrderWrong : ChangeSpec := { name := "fnExactNearOrder", fn := fun _ => fun
  | [d1, d2] => { results := [.lit (.bool false)], args := [d1, d2] }
  | _ => none }
def FnExactNearOrderWrongFalsely : Prop := fnExactNearOrderRow.holds Try.pinned (OpenSpec.ofChange fnExactNearOrderWrong)

/-- 'laws.FnWays': WHATEVER THE INPUT: true; the input reads as it did. -/
def fnWaysSpec : ChangeSpec := { name := "fnWays", fn := fun _ => fun
  | [d1, d2] => { results := [.lit (.bool true)], args := [d1, d2] }
  | _ => none }
def fnWaysRow : OpenClaim := { program := "ytpkhneodcndlpaa", sum := "358150361650fb786d090bb1f2d22f6e999494f4981200916a1bb1730e7c6892", func := "loop.example/g01264/laws.FnWays", spec := "fnWays", unfollowed := true, recurses := true, apart := false }
def FnWaysSaid : Prop := fnWaysRow.holds Try.pinned (OpenSpec.ofChange fnWaysSpec)

/-- ITS FALSE NEIGHBOUR: 'it returns false'. Refute it at one input. -/
def fnWaysWrong : ChangeSpec := { name := "fnWays", fn := fun _ => fun
  | [d1, d2] => { results := [.lit (.bool false)], args := [d1, d2] }
  | _ => none }
def FnWaysWrongFalsely : Prop := fnWaysRow.holds Try.pinned (OpenSpec.ofChange fnWaysWrong)

/-- 'laws.FnExactPlanSteps': WHATEVER THE INPUT: true; the input reads as it did. -/
def fnExactPlanStepsSpec : ChangeSpec := { name := "fnExactPlanSteps", fn := fun _ => fun
  | [d1, d2, d3] => { results := [.lit (.bool true)], args := [d1, d2, d3] }
  | _ => none }
def fnExactPlanStepsRow : OpenClaim := { program := "ytpkhneodcndlpaa", sum := "358150361650fb786d090bb1f2d22f6e999494f4981200916a1bb1730e7c6892", func := "loop.example/g01264/laws.FnExactPlanSteps", spec := "fnExactPlanSteps", unfollowed := true, recurses := true, apart := false }
def FnExactPlanStepsSaid : Prop := fnExactPlanStepsRow.holds Try.pinned (OpenSpec.ofChange fnExactPlanStepsSpec)

/-- ITS FALSE NEIGHBOUR: 'it returns false'. Refute it at one input. -/
def fnExactPlanStepsWrong : ChangeSpec := { name := "fnExactPlanSteps", fn := fun _ => fun
  | [d1, d2, d3] => { results := [.lit (.bool false)], args := [d1, d2, d3] }
  | _ => none }
def FnExactPlanStepsWrongFalsely : Prop := fnExactPlanStepsRow.holds Try.pinned (OpenSpec.ofChange fnExactPlanStepsWrong)

/-- 'laws.FnExactFreeStretches': WHATEVER THE INPUT: true; the input reads as it did. -/
def fnExactFreeStretchesSpec : ChangeSpec := { name := "fnExactFreeStretches", fn := fun _ => fun
  | [d] => { results := [.lit (.bool true)], args := [d] }
  | _ => none }
def fnExactFreeStretchesRow : OpenClaim := { program := "ytpkhneodcndlpaa", sum := "358150361650fb786d090bb1f2d22f6e999494f4981200916a1bb1730e7c6892", func := "loop.example/g01264/laws.FnExactFreeStretches", spec := "fnExactFreeStretches", unfollowed := true, recurses := true, apart := false }
def FnExactFreeStretchesSaid : Prop := fnExactFreeStretchesRow.holds Try.pinned (OpenSpec.ofChange fnExactFreeStretchesSpec)

/-- ITS FALSE NEIGHBOUR: 'it returns false'. Refute it at one input. -/
def fnExactFreeStretchesWrong : ChangeSpec := { name := "fnExactFreeStretches", fn := fun _ => fun
  | [d] => { results := [.lit (.bool false)], args := [d] }
  | _ => none }
def FnExactFreeStretchesWrongFalsely : Prop := fnExactFreeStretchesRow.holds Try.pinned (OpenSpec.ofChange fnExactFreeStretchesWrong)

/- THE SECOND FORM. 'bulk': how many values and letters a reading holds, each counted each time it is reached (what is shared counts as often as it is met; a slice's spare places count too). A statement '..UptoSaid' is the law's where the arguments, and the package variables that the reading takes, are together of bulk at most 1048576: NARROWER than '..Said'. Prove '..Said' where nothing that the law and all that it calls make is longer than what came in: it says more and counts as full. Else prove '..UptoSaid'. A law counts once. -/
mutual
def uptoBulk {H : Type} : DataW H → Nat
  | .lit (.string bytes) => bytes.length + 1
  | .lit _ => 1
  | .nil => 1
  | .ptr d => uptoBulk d + 1
  | .slice elems spare => uptoBulkAll elems + uptoBulkAll spare + 1
  | .agg parts => uptoBulkAll parts + 1
  | .iface _ d => uptoBulk d + 1
  | .map entries => uptoBulkEntries entries + 1
  | .held _ => 1
def uptoBulkAll {H : Type} : List (DataW H) → Nat
  | [] => 0
  | d :: r => uptoBulk d + uptoBulkAll r
def uptoBulkEntries {H : Type} : List (Lit × DataW H) → Nat
  | [] => 0
  | x :: r => uptoBulkEntry x + uptoBulkEntries r
def uptoBulkEntry {H : Type} : Lit × DataW H → Nat
  | (.string bytes, d) => bytes.length + uptoBulk d + 1
  | (_, d) => uptoBulk d + 1
 end
def uptoSmall : (H : Type) → List (DataW H) → Bool := fun _ ds => decide (uptoBulkAll ds ≤ 1048576)
def OpenSpec.upto (s : _root_.Go.ChangeSpec) : _root_.Go.OpenSpec := { _root_.Go.OpenSpec.ofChange s with cond := some uptoSmall }

/-- 'laws.FnExactWayOf', WHERE WHAT IT READS IS OF BULK AT MOST 1048576: true; the input reads as it did. -/
def fnExactWayOfUptoRow : OpenClaim := { program := "ytpkhneodcndlpaa", sum := "358150361650fb786d090bb1f2d22f6e999494f4981200916a1bb1730e7c6892", func := "loop.example/g01264/laws.FnExactWayOf", spec := "fnExactWayOf", unfollowed := true, recurses := true, apart := false, narrowed := true }
def FnExactWayOfUptoSaid : Prop := fnExactWayOfUptoRow.holds Try.pinned (OpenSpec.upto fnExactWayOfSpec)

/-- 'laws.FnExactValidCuts', WHERE WHAT IT READS IS OF BULK AT MOST 1048576: true; the input reads as it did. -/
def fnExactValidCutsUptoRow : OpenClaim := { program := "ytpkhneodcndlpaa", sum := "358150361650fb786d090bb1f2d22f6e999494f4981200916a1bb1730e7c6892", func := "loop.example/g01264/laws.FnExactValidCuts", spec := "fnExactValidCuts", unfollowed := true, recurses := true, apart := false, narrowed := true }
def FnExactValidCutsUptoSaid : Prop := fnExactValidCutsUptoRow.holds Try.pinned (OpenSpec.upto fnExactValidCutsSpec)

/-- 'laws.FnExactNearOrder', WHERE WHAT IT READS IS OF BULK AT MOST 1048576: true; the input reads as it did. -/
def fnExactNearOrderUptoRow : OpenClaim := { program := "ytpkhneodcndlpaa", sum := "358150361650fb786d090bb1f2d22f6e999494f4981200916a1bb1730e7c6892", func := "loop.example/g01264/laws.FnExactNearOrder", spec := "fnExactNearOrder", unfollowed := true, recurses := true, apart := false, narrowed := true }
def FnExactNearOrderUptoSaid : Prop := fnExactNearOrderUptoRow.holds Try.pinned (OpenSpec.upto fnExactNearOrderSpec)

/-- 'laws.FnWays', WHERE WHAT IT READS IS OF BULK AT MOST 1048576: true; the input reads as it did. -/
def fnWaysUptoRow : OpenClaim := { program := "ytpkhneodcndlpaa", sum := "358150361650fb786d090bb1f2d22f6e999494f4981200916a1bb1730e7c6892", func := "loop.example/g01264/laws.FnWays", spec := "fnWays", unfollowed := true, recurses := true, apart := false, narrowed := true }
def FnWaysUptoSaid : Prop := fnWaysUptoRow.holds Try.pinned (OpenSpec.upto fnWaysSpec)

/-- 'laws.FnExactPlanSteps', WHERE WHAT IT READS IS OF BULK AT MOST 1048576: true; the input reads as it did. -/
def fnExactPlanStepsUptoRow : OpenClaim := { program := "ytpkhneodcndlpaa", sum := "358150361650fb786d090bb1f2d22f6e999494f4981200916a1bb1730e7c6892", func := "loop.example/g01264/laws.FnExactPlanSteps", spec := "fnExactPlanSteps", unfollowed := true, recurses := true, apart := false, narrowed := true }
def FnExactPlanStepsUptoSaid : Prop := fnExactPlanStepsUptoRow.holds Try.pinned (OpenSpec.upto fnExactPlanStepsSpec)

/-- 'laws.FnExactFreeStretches', WHERE WHAT IT READS IS OF BULK AT MOST 1048576: true; the input reads as it did. -/
def fnExactFreeStretchesUptoRow : OpenClaim := { program := "ytpkhneodcndlpaa", sum := "358150361650fb786d090bb1f2d22f6e999494f4981200916a1bb1730e7c6892", func := "loop.example/g01264/laws.FnExactFreeStretches", spec := "fnExactFreeStretches", unfollowed := true, recurses := true, apart := false, narrowed := true }
def FnExactFreeStretchesUptoSaid : Prop := fnExactFreeStretchesUptoRow.holds Try.pinned (OpenSpec.upto fnExactFreeStretchesSpec)

end Rows
end Go.Proofs.Ytpkhneodcndlpaa
