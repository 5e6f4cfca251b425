-- Written by fvprint.py, a program of this session over the kit's print. Not trusted: Lean checks it.
import Derived.Test.YtobngbphmhggkaaProg
import Derived.Below
import Derived.Deep.Draws
import Derived.Deep.AppendLies
import Derived.Maps.AppendAt
import Derived.OwnWalk
import Derived.Laws.BytesArg
import Derived.Laws.MakeOwn
import Derived.Laws.OwnMore
import Derived.Deep.OwnRows
import Derived.Tactics
import Derived.Lib.ConvBytes
import Derived.Laws.Slices
import Derived.WalkKit
import Derived.KernelRfl
import Derived.RowKit3
import Derived.Deep.LoopGhost
import Derived.Deep.QuietTactic
import Derived.BigQuiet
import Derived.WideLaws
import Derived.Deep.DeepCutAuto
import Derived.Deep.CutBlock
import Derived.Deep.RegionHeld3
import Derived.Laws.Rows
import Derived.Lib.AppendStr
import Derived.ArgAppend
import Derived.Laws.IdiomCopy
import Derived.OrdersHeld
import Derived.Laws.BitsLemmas
import Derived.RowKit
import Derived.Test.YtobngbphmhggkaaWWords
import Derived.Test.YtobngbphmhggkaaWLast
import Derived.Test.YtobngbphmhggkaaWTab
import Derived.Test.YtobngbphmhggkaaWFour
import Derived.Test.YtobngbphmhggkaaWQPut
import Derived.Test.YtobngbphmhggkaaWApart
import Derived.Test.YtobngbphmhggkaaWArr
import Derived.Test.YtobngbphmhggkaaWZeros
import Derived.Test.YtobngbphmhggkaaWFoot
import Derived.Test.YtobngbphmhggkaaWKept
import Derived.Test.YtobngbphmhggkaaWShare
import Derived.Test.YtobngbphmhggkaaWN
import Derived.Test.YtobngbphmhggkaaWFootNe
import Derived.Test.YtobngbphmhggkaaWAt
import Derived.Test.YtobngbphmhggkaaWEqStruct
import Derived.Test.YtobngbphmhggkaaWRepsOne
import Derived.Test.YtobngbphmhggkaaWInv
import Derived.Test.YtobngbphmhggkaaWInvWords
import Derived.Test.YtobngbphmhggkaaWGuard
import Derived.Test.YtobngbphmhggkaaWNEv
import Derived.Test.YtobngbphmhggkaaWMore
namespace Go.Proofs.Ytobngbphmhggkaa.FFnShapes
open Go.RowKit Go.Proofs.YtobngbphmhggkaaW.PrintWords Go.Proofs.YtobngbphmhggkaaW.PrintLast Go.Proofs.YtobngbphmhggkaaW.PrintMore
attribute [local go_sem] max2_int min2_int max_two min_two max_three min_three max_four min_four   -- for this text's walks alone
set_option linter.unusedVariables false
set_option linter.unusedSimpArgs false



def errW : Option Int → Value
  | none => .nilIface
  | some c => .iface 0 (.int .i64 c)
theorem errW_none : errW none = .nilIface := rfl
theorem errW_some (c : Int) : errW (some c) = .iface 0 (.int .i64 c) := rfl

-- the values' own types

end Go.Proofs.Ytobngbphmhggkaa.FFnShapes
