-- Written by fvprint.py, a program of this session over the kit's print. Not trusted: Lean checks it.
import Derived.Test.YtobngbphmhggkaaProg
import Derived.Below
import Derived.Deep.Draws
import Derived.Deep.AppendLies
import Derived.Maps.AppendAt
import Derived.OwnWalk
import Derived.Laws.BytesArg
import Derived.Laws.MakeOwn
import Derived.Laws.OwnMore
import Derived.Deep.OwnRows
import Derived.Tactics
import Derived.Lib.ConvBytes
import Derived.Laws.Slices
import Derived.WalkKit
import Derived.KernelRfl
import Derived.RowKit3
import Derived.Deep.LoopGhost
import Derived.Deep.QuietTactic
import Derived.BigQuiet
import Derived.WideLaws
import Derived.Deep.DeepCutAuto
import Derived.Deep.CutBlock
import Derived.Deep.RegionHeld3
import Derived.Laws.Rows
import Derived.Lib.AppendStr
import Derived.ArgAppend
import Derived.Laws.IdiomCopy
import Derived.OrdersHeld
import Derived.Laws.BitsLemmas
import Derived.RowKit
import Derived.Test.YtobngbphmhggkaaWWords
import Derived.Test.YtobngbphmhggkaaWLast
import Derived.Test.YtobngbphmhggkaaWTab
import Derived.Test.YtobngbphmhggkaaWFour
import Derived.Test.YtobngbphmhggkaaWQPut
import Derived.Test.YtobngbphmhggkaaWApart
import Derived.Test.YtobngbphmhggkaaWArr
import Derived.Test.YtobngbphmhggkaaWZeros
import Derived.Test.YtobngbphmhggkaaWFoot
import Derived.Test.YtobngbphmhggkaaWKept
import Derived.Test.YtobngbphmhggkaaWShare
import Derived.Test.YtobngbphmhggkaaWN
import Derived.Test.YtobngbphmhggkaaWFootNe
import Derived.Test.YtobngbphmhggkaaWAt
import Derived.Test.YtobngbphmhggkaaWEqStruct
import Derived.Test.YtobngbphmhggkaaWRepsOne
import Derived.Test.YtobngbphmhggkaaWInv
import Derived.Test.YtobngbphmhggkaaWInvWords
import Derived.Test.YtobngbphmhggkaaWGuard
import Derived.Test.YtobngbphmhggkaaWNEv
import Derived.Test.YtobngbphmhggkaaWMore
namespace Go.Proofs.Ytobngbphmhggkaa.FFnExactFlatCam
open Go.RowKit Go.Proofs.YtobngbphmhggkaaW.PrintWords Go.Proofs.YtobngbphmhggkaaW.PrintLast Go.Proofs.YtobngbphmhggkaaW.PrintMore
attribute [local go_sem] max2_int min2_int max_two min_two max_three min_three max_four min_four   -- for this text's walks alone
set_option linter.unusedVariables false
set_option linter.unusedSimpArgs false



def errW : Option Int → Value
  | none => .nilIface
  | some c => .iface 0 (.int .i64 c)
theorem errW_none : errW none = .nilIface := rfl
theorem errW_some (c : Int) : errW (some c) = .iface 0 (.int .i64 c) := rfl

theorem info71 : (Try.prog.info? 71).map (fun i => (i.zero, i.size, i.bytes)) = some (some (.int .i16 0), 1, 2) := by kernel_rfl
-- the values' own types
def rd_L2 (xs : List (List Int)) (i : Int) : (List Int) := xs.getD i.toNat ([] : List Int)
theorem at_L2 {w : World} {A : Option Addr} {n : Nat} {xs : List (List Int)} (h : Kd.C (Kd.slice 71 (Kd.int .i16)) w A n xs) (i : Int) (h0 : 0 ≤ i) (h1 : i < n) : ∃ ad A0 c0, A = some ad ∧ w.cell? (ad.add i.toNat) = some (.slice A0 (rd_L2 xs i).length c0) ∧ (rd_L2 xs i).length ≤ c0 ∧ (Kd.int .i16).C w A0 (rd_L2 xs i).length (rd_L2 xs i) := by
  obtain ⟨ad, c, e, _, hK, hc0⟩ := Kd.C_get h ([] : List Int) i h0 h1
  have hc : ∀ j u, c[j]? = some u → w.cell? (ad.add (i.toNat * 1 + j)) = some u := hc0
  obtain ⟨A0, c0, rfl, l0, g0⟩ := hK
  exact ⟨ad, A0, c0, e, by have hq := hc 0 _ rfl; rwa [Nat.mul_one, Nat.add_zero] at hq, l0, g0⟩

end Go.Proofs.Ytobngbphmhggkaa.FFnExactFlatCam
