-- Laid by wip/gprint.py (the session's own program, round the kit's printer) for this claim.
import Derived.Test.YtnlblmadaipheaaProg
import Derived.Below
import Derived.Deep.Draws
import Derived.Deep.AppendLies
import Derived.Maps.AppendAt
import Derived.OwnWalk
import Derived.Laws.BytesArg
import Derived.Laws.MakeOwn
import Derived.Laws.OwnMore
import Derived.Deep.OwnRows
import Derived.Tactics
import Derived.Lib.ConvBytes
import Derived.Laws.Slices
import Derived.WalkKit
import Derived.KernelRfl
import Derived.RowKit3
import Derived.Deep.LoopGhost
import Derived.Deep.QuietTactic
import Derived.BigQuiet
import Derived.WideLaws
import Derived.Deep.DeepCutAuto
import Derived.Deep.CutBlock
import Derived.Deep.RegionHeld3
import Derived.Laws.Rows
import Derived.Lib.AppendStr
import Derived.ArgAppend
import Derived.Laws.IdiomCopy
import Derived.OrdersHeld
import Derived.Laws.BitsLemmas
import Derived.RowKit
import Derived.Shelf.Abstract
import Derived.WalkSpells
import Derived.Test.YtnlblmadaipheaaWWords
import Derived.Test.YtnlblmadaipheaaWLast
import Derived.Test.YtnlblmadaipheaaWTab
import Derived.Test.YtnlblmadaipheaaWFour
import Derived.Test.YtnlblmadaipheaaWQPut
import Derived.Test.YtnlblmadaipheaaWApart
import Derived.Test.YtnlblmadaipheaaWArr
import Derived.Test.YtnlblmadaipheaaWZeros
import Derived.Test.YtnlblmadaipheaaWFoot
import Derived.Test.YtnlblmadaipheaaWKept
import Derived.Test.YtnlblmadaipheaaWShare
import Derived.Test.YtnlblmadaipheaaWN
import Derived.Test.YtnlblmadaipheaaWFootNe
import Derived.Test.YtnlblmadaipheaaWAt
import Derived.Test.YtnlblmadaipheaaWEqStruct
import Derived.Test.YtnlblmadaipheaaWRepsOne
import Derived.Test.YtnlblmadaipheaaWInv
import Derived.Test.YtnlblmadaipheaaWInvWords
import Derived.Test.YtnlblmadaipheaaWGuard
import Derived.Test.YtnlblmadaipheaaWNEv
import Derived.Test.YtnlblmadaipheaaWMore
namespace Go.Proofs.Ytnlblmadaipheaa.G
open Go.RowKit Go.Proofs.YtnlblmadaipheaaW.PrintWords Go.Proofs.YtnlblmadaipheaaW.PrintLast Go.Proofs.YtnlblmadaipheaaW.PrintMore
attribute [local go_sem] max2_int min2_int max_two min_two max_three min_three max_four min_four   -- for this text's walks alone
set_option linter.unusedVariables false
set_option linter.unusedSimpArgs false



def errW : Option Int → Value
  | none => .nilIface
  | some c => .iface 0 (.int .i64 c)
theorem errW_none : errW none = .nilIface := rfl
theorem errW_some (c : Int) : errW (some c) = .iface 0 (.int .i64 c) := rfl

-- the values' own types

end Go.Proofs.Ytnlblmadaipheaa.G
