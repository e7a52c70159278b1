-- Made by a program of this session (wip/tools/pr.py) out of the translation, over the kit's printer. Not trusted: Lean checks it.
import Derived.Test.YtgnfobnlipjedaaDoorProg
import Derived.Below
import Derived.Deep.Draws
import Derived.Deep.AppendLies
import Derived.Maps.AppendAt
import Derived.OwnWalk
import Derived.Laws.BytesArg
import Derived.Laws.MakeOwn
import Derived.Laws.OwnMore
import Derived.Deep.OwnRows
import Derived.Tactics
import Derived.Lib.ConvBytes
import Derived.Laws.Slices
import Derived.WalkKit
import Derived.KernelRfl
import Derived.RowKit3
import Derived.Deep.LoopGhost
import Derived.Deep.QuietTactic
import Derived.BigQuiet
import Derived.WideLaws
import Derived.Deep.DeepCutAuto
import Derived.Deep.CutBlock
import Derived.Deep.RegionHeld3
import Derived.Laws.Rows
import Derived.Lib.AppendStr
import Derived.ArgAppend
import Derived.Laws.IdiomCopy
import Derived.OrdersHeld
import Derived.Laws.BitsLemmas
import Derived.RowKit
import Derived.Test.YtgnfobnlipjedaaDoorWWords
import Derived.Test.YtgnfobnlipjedaaDoorWLast
import Derived.Test.YtgnfobnlipjedaaDoorWTab
import Derived.Test.YtgnfobnlipjedaaDoorWFour
import Derived.Test.YtgnfobnlipjedaaDoorWQPut
import Derived.Test.YtgnfobnlipjedaaDoorWApart
import Derived.Test.YtgnfobnlipjedaaDoorWArr
import Derived.Test.YtgnfobnlipjedaaDoorWZeros
import Derived.Test.YtgnfobnlipjedaaDoorWFoot
import Derived.Test.YtgnfobnlipjedaaDoorWKept
import Derived.Test.YtgnfobnlipjedaaDoorWShare
import Derived.Test.YtgnfobnlipjedaaDoorWN
import Derived.Test.YtgnfobnlipjedaaDoorWFootNe
import Derived.Test.YtgnfobnlipjedaaDoorWAt
import Derived.Test.YtgnfobnlipjedaaDoorWEqStruct
import Derived.Test.YtgnfobnlipjedaaDoorWRepsOne
import Derived.Test.YtgnfobnlipjedaaDoorWInv
import Derived.Test.YtgnfobnlipjedaaDoorWInvWords
import Derived.Test.YtgnfobnlipjedaaDoorWGuard
import Derived.Test.YtgnfobnlipjedaaDoorWNEv
import Derived.Test.YtgnfobnlipjedaaDoorWMore
namespace Go.Proofs.YtgnfobnlipjedaaDoor.Q
open Go.RowKit Go.Proofs.YtgnfobnlipjedaaDoorW.PrintWords Go.Proofs.YtgnfobnlipjedaaDoorW.PrintLast Go.Proofs.YtgnfobnlipjedaaDoorW.PrintMore
attribute [local go_sem] max2_int min2_int max_two min_two max_three min_three max_four min_four   -- for this text's walks alone
set_option linter.unusedVariables false
set_option linter.unusedSimpArgs false



def errW : Option Int → Value
  | none => .nilIface
  | some c => .iface 0 (.int .i64 c)
theorem errW_none : errW none = .nilIface := rfl
theorem errW_some (c : Int) : errW (some c) = .iface 0 (.int .i64 c) := rfl

theorem info5 : (Tryd.prog.info? 5).map (fun i => (i.zero, i.size, i.bytes)) = some (some (.int .u8 0), 1, 1) := by kernel_rfl
-- the values' own types

end Go.Proofs.YtgnfobnlipjedaaDoor.Q
