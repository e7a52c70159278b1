-- Made by a program of this session (wip/tools/pr.py) out of the translation, over the kit's printer. Not trusted: Lean checks it.
import Derived.Test.YtgnfobnlipjedaaProg
import Derived.Below
import Derived.Deep.Draws
import Derived.Deep.AppendLies
import Derived.Maps.AppendAt
import Derived.OwnWalk
import Derived.Laws.BytesArg
import Derived.Laws.MakeOwn
import Derived.Laws.OwnMore
import Derived.Deep.OwnRows
import Derived.Tactics
import Derived.Lib.ConvBytes
import Derived.Laws.Slices
import Derived.WalkKit
import Derived.KernelRfl
import Derived.RowKit3
import Derived.Deep.LoopGhost
import Derived.Deep.QuietTactic
import Derived.BigQuiet
import Derived.WideLaws
import Derived.Deep.DeepCutAuto
import Derived.Deep.CutBlock
import Derived.Deep.RegionHeld3
import Derived.Laws.Rows
import Derived.Lib.AppendStr
import Derived.ArgAppend
import Derived.Laws.IdiomCopy
import Derived.OrdersHeld
import Derived.Laws.BitsLemmas
import Derived.RowKit
import Derived.Test.YtgnfobnlipjedaaWWords
import Derived.Test.YtgnfobnlipjedaaWLast
import Derived.Test.YtgnfobnlipjedaaWTab
import Derived.Test.YtgnfobnlipjedaaWFour
import Derived.Test.YtgnfobnlipjedaaWQPut
import Derived.Test.YtgnfobnlipjedaaWApart
import Derived.Test.YtgnfobnlipjedaaWArr
import Derived.Test.YtgnfobnlipjedaaWZeros
import Derived.Test.YtgnfobnlipjedaaWFoot
import Derived.Test.YtgnfobnlipjedaaWKept
import Derived.Test.YtgnfobnlipjedaaWShare
import Derived.Test.YtgnfobnlipjedaaWN
import Derived.Test.YtgnfobnlipjedaaWFootNe
import Derived.Test.YtgnfobnlipjedaaWAt
import Derived.Test.YtgnfobnlipjedaaWEqStruct
import Derived.Test.YtgnfobnlipjedaaWRepsOne
import Derived.Test.YtgnfobnlipjedaaWInv
import Derived.Test.YtgnfobnlipjedaaWInvWords
import Derived.Test.YtgnfobnlipjedaaWGuard
import Derived.Test.YtgnfobnlipjedaaWNEv
import Derived.Test.YtgnfobnlipjedaaWMore
namespace Go.Proofs.Ytgnfobnlipjedaa.Q
open Go.RowKit Go.Proofs.YtgnfobnlipjedaaW.PrintWords Go.Proofs.YtgnfobnlipjedaaW.PrintLast Go.Proofs.YtgnfobnlipjedaaW.PrintMore
attribute [local go_sem] max2_int min2_int max_two min_two max_three min_three max_four min_four   -- for this text's walks alone
set_option linter.unusedVariables false
set_option linter.unusedSimpArgs false



def errW : Option Int → Value
  | none => .nilIface
  | some c => .iface 0 (.int .i64 c)
theorem errW_none : errW none = .nilIface := rfl
theorem errW_some (c : Int) : errW (some c) = .iface 0 (.int .i64 c) := rfl

-- the values' own types

end Go.Proofs.Ytgnfobnlipjedaa.Q
