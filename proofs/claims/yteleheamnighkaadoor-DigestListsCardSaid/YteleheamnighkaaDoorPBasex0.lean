-- Written by gprint.py (this session's own run of the printer, with given contracts).
import Derived.Test.YteleheamnighkaaDoorProg
import Derived.Test.YteleheamnighkaaDoorKit
import Derived.Below
import Derived.Deep.Draws
import Derived.Deep.AppendLies
import Derived.Maps.AppendAt
import Derived.OwnWalk
import Derived.Laws.BytesArg
import Derived.Laws.MakeOwn
import Derived.Laws.OwnMore
import Derived.Deep.OwnRows
import Derived.Tactics
import Derived.Lib.ConvBytes
import Derived.Laws.Slices
import Derived.WalkKit
import Derived.KernelRfl
import Derived.RowKit3
import Derived.Deep.LoopGhost
import Derived.Deep.QuietTactic
import Derived.BigQuiet
import Derived.WideLaws
import Derived.Deep.DeepCutAuto
import Derived.Deep.CutBlock
import Derived.Deep.RegionHeld3
import Derived.Laws.Rows
import Derived.Lib.AppendStr
import Derived.ArgAppend
import Derived.Laws.IdiomCopy
import Derived.OrdersHeld
import Derived.Laws.BitsLemmas
import Derived.RowKit
import Derived.Test.YteleheamnighkaaDoorWWords
import Derived.Test.YteleheamnighkaaDoorWLast
import Derived.Test.YteleheamnighkaaDoorWTab
import Derived.Test.YteleheamnighkaaDoorWFour
import Derived.Test.YteleheamnighkaaDoorWQPut
import Derived.Test.YteleheamnighkaaDoorWApart
import Derived.Test.YteleheamnighkaaDoorWArr
import Derived.Test.YteleheamnighkaaDoorWZeros
import Derived.Test.YteleheamnighkaaDoorWFoot
import Derived.Test.YteleheamnighkaaDoorWKept
import Derived.Test.YteleheamnighkaaDoorWShare
import Derived.Test.YteleheamnighkaaDoorWN
import Derived.Test.YteleheamnighkaaDoorWFootNe
import Derived.Test.YteleheamnighkaaDoorWAt
import Derived.Test.YteleheamnighkaaDoorWEqStruct
import Derived.Test.YteleheamnighkaaDoorWRepsOne
import Derived.Test.YteleheamnighkaaDoorWInv
import Derived.Test.YteleheamnighkaaDoorWInvWords
import Derived.Test.YteleheamnighkaaDoorWGuard
import Derived.Test.YteleheamnighkaaDoorWNEv
import Derived.Test.YteleheamnighkaaDoorWMore
namespace Go.Proofs.YteleheamnighkaaDoor.PBase
open Go.RowKit Go.Proofs.YteleheamnighkaaDoorW.PrintWords Go.Proofs.YteleheamnighkaaDoorW.PrintLast Go.Proofs.YteleheamnighkaaDoorW.PrintMore
attribute [local go_sem] max2_int min2_int max_two min_two max_three min_three max_four min_four   -- for this text's walks alone
set_option linter.unusedVariables false
set_option linter.unusedSimpArgs false



def errW : Option Int → Value
  | none => .nilIface
  | some c => .iface 0 (.int .i64 c)
theorem errW_none : errW none = .nilIface := rfl
theorem errW_some (c : Int) : errW (some c) = .iface 0 (.int .i64 c) := rfl

-- the values' own types

end Go.Proofs.YteleheamnighkaaDoor.PBase
