-- MADE BY xprint.py (this session's own driver; wip/tools) out of the translation. Not trusted: Lean checks it.
import Derived.Test.YtcbdihhnoicabaaDoorProg
import Derived.Below
import Derived.Deep.Draws
import Derived.Deep.AppendLies
import Derived.Maps.AppendAt
import Derived.OwnWalk
import Derived.Laws.BytesArg
import Derived.Laws.MakeOwn
import Derived.Laws.OwnMore
import Derived.Deep.OwnRows
import Derived.Tactics
import Derived.Lib.ConvBytes
import Derived.Laws.Slices
import Derived.WalkKit
import Derived.KernelRfl
import Derived.RowKit3
import Derived.Deep.LoopGhost
import Derived.Deep.QuietTactic
import Derived.BigQuiet
import Derived.WideLaws
import Derived.Deep.DeepCutAuto
import Derived.Deep.CutBlock
import Derived.Deep.RegionHeld3
import Derived.Laws.Rows
import Derived.Lib.AppendStr
import Derived.ArgAppend
import Derived.Laws.IdiomCopy
import Derived.OrdersHeld
import Derived.Laws.BitsLemmas
import Derived.RowKit
import Derived.Test.YtcbdihhnoicabaaDoorShort
import Derived.Test.YtcbdihhnoicabaaDoorEscNames
import Derived.Test.YtcbdihhnoicabaaDoorEscRef
import Derived.Test.YtcbdihhnoicabaaDoorWWords
import Derived.Test.YtcbdihhnoicabaaDoorWLast
import Derived.Test.YtcbdihhnoicabaaDoorWTab
import Derived.Test.YtcbdihhnoicabaaDoorWFour
import Derived.Test.YtcbdihhnoicabaaDoorWQPut
import Derived.Test.YtcbdihhnoicabaaDoorWApart
import Derived.Test.YtcbdihhnoicabaaDoorWArr
import Derived.Test.YtcbdihhnoicabaaDoorWZeros
import Derived.Test.YtcbdihhnoicabaaDoorWFoot
import Derived.Test.YtcbdihhnoicabaaDoorWKept
import Derived.Test.YtcbdihhnoicabaaDoorWShare
import Derived.Test.YtcbdihhnoicabaaDoorWN
import Derived.Test.YtcbdihhnoicabaaDoorWFootNe
import Derived.Test.YtcbdihhnoicabaaDoorWAt
import Derived.Test.YtcbdihhnoicabaaDoorWEqStruct
import Derived.Test.YtcbdihhnoicabaaDoorWRepsOne
import Derived.Test.YtcbdihhnoicabaaDoorWInv
import Derived.Test.YtcbdihhnoicabaaDoorWInvWords
import Derived.Test.YtcbdihhnoicabaaDoorWGuard
import Derived.Test.YtcbdihhnoicabaaDoorWNEv
import Derived.Test.YtcbdihhnoicabaaDoorWMore
namespace Go.Proofs.YtcbdihhnoicabaaDoor.PE
open Go.RowKit Go.Proofs.YtcbdihhnoicabaaDoorW.PrintWords Go.Proofs.YtcbdihhnoicabaaDoorW.PrintLast Go.Proofs.YtcbdihhnoicabaaDoorW.PrintMore Go.Proofs.YtcbdihhnoicabaaDoor.Short Go.Proofs.YtcbdihhnoicabaaDoor.Esc
attribute [local go_sem] max2_int min2_int max_two min_two max_three min_three max_four min_four   -- for this text's walks alone
set_option linter.unusedVariables false
set_option linter.unusedSimpArgs false



def errW : Option Int → Value
  | none => .nilIface
  | some c => .iface 0 (.int .i64 c)
theorem errW_none : errW none = .nilIface := rfl
theorem errW_some (c : Int) : errW (some c) = .iface 0 (.int .i64 c) := rfl

theorem info5 : (Tryd.prog.info? 5).map (fun i => (i.zero, i.size, i.bytes)) = some (some (.int .u8 0), 1, 1) := by kernel_rfl
-- the values' own types

end Go.Proofs.YtcbdihhnoicabaaDoor.PE
