-- Laid by this claim's own program (mprint.py in the repo).
import Derived.Test.YtcccambfcedakaaDoorProg
import Derived.Test.YtcccambfcedakaaDoorShelf
import Derived.ArgAppend
import Derived.Deep.WholeRow
import Derived.Deep.RegionHeld
import Derived.Lib.Hide
import Derived.ScopeJumps
import Derived.StillTailTactics
import Derived.Below
import Derived.Deep.Draws
import Derived.Deep.AppendLies
import Derived.Maps.AppendAt
import Derived.OwnWalk
import Derived.Laws.BytesArg
import Derived.Laws.MakeOwn
import Derived.Laws.OwnMore
import Derived.Deep.OwnRows
import Derived.Tactics
import Derived.Lib.ConvBytes
import Derived.Laws.Slices
import Derived.WalkKit
import Derived.KernelRfl
import Derived.RowKit3
import Derived.Deep.LoopGhost
import Derived.Deep.QuietTactic
import Derived.BigQuiet
import Derived.WideLaws
import Derived.Deep.DeepCutAuto
import Derived.Deep.CutBlock
import Derived.Deep.RegionHeld3
import Derived.Laws.Rows
import Derived.Lib.AppendStr
import Derived.ArgAppend
import Derived.Laws.IdiomCopy
import Derived.OrdersHeld
import Derived.Laws.BitsLemmas
import Derived.RowKit
import Derived.Test.YtcccambfcedakaaDoorWWords
import Derived.Test.YtcccambfcedakaaDoorWLast
import Derived.Test.YtcccambfcedakaaDoorWTab
import Derived.Test.YtcccambfcedakaaDoorWFour
import Derived.Test.YtcccambfcedakaaDoorWQPut
import Derived.Test.YtcccambfcedakaaDoorWApart
import Derived.Test.YtcccambfcedakaaDoorWArr
import Derived.Test.YtcccambfcedakaaDoorWZeros
import Derived.Test.YtcccambfcedakaaDoorWFoot
import Derived.Test.YtcccambfcedakaaDoorWKept
import Derived.Test.YtcccambfcedakaaDoorWShare
import Derived.Test.YtcccambfcedakaaDoorWN
import Derived.Test.YtcccambfcedakaaDoorWFootNe
import Derived.Test.YtcccambfcedakaaDoorWAt
import Derived.Test.YtcccambfcedakaaDoorWEqStruct
import Derived.Test.YtcccambfcedakaaDoorWRepsOne
import Derived.Test.YtcccambfcedakaaDoorWInv
import Derived.Test.YtcccambfcedakaaDoorWInvWords
import Derived.Test.YtcccambfcedakaaDoorWGuard
import Derived.Test.YtcccambfcedakaaDoorWNEv
import Derived.Test.YtcccambfcedakaaDoorWMore
namespace Go.Proofs.YtcccambfcedakaaDoor.QD
open Go.RowKit Go.Proofs.YtcccambfcedakaaDoorW.PrintWords Go.Proofs.YtcccambfcedakaaDoorW.PrintLast Go.Proofs.YtcccambfcedakaaDoorW.PrintMore
attribute [local go_sem] max2_int min2_int max_two min_two max_three min_three max_four min_four   -- for this text's walks alone
set_option linter.unusedVariables false
set_option linter.unusedSimpArgs false



def errW : Option Int → Value
  | none => .nilIface
  | some c => .iface 0 (.int .i64 c)
theorem errW_none : errW none = .nilIface := rfl
theorem errW_some (c : Int) : errW (some c) = .iface 0 (.int .i64 c) := rfl

theorem info9 : (Tryd.prog.info? 9).map (fun i => (i.zero, i.size, i.bytes)) = some (some (.string ⟨#[]⟩), 1, 16) := by kernel_rfl
-- the values' own types

end Go.Proofs.YtcccambfcedakaaDoor.QD
