
/- Words for a walk by hand: stores into own slices; a string's next rune, whatever it is. -/
import Derived.Test.YtnkbfbhhioemoaaQx0
import Derived.Test.YtnkbfbhhioemoaaAw
import Derived.Test.YtnkbfbhhioemoaaAwSl
--@needs XAw
--@needs XAwSl
import Derived.Laws.RangeAny
import Derived.Laws.Runes
namespace Go.Proofs.Ytnkbfbhhioemoaa.Q
open Go.RowKit Go.Proofs.YtnkbfbhhioemoaaW.PrintWords Go.Proofs.YtnkbfbhhioemoaaW.PrintLast Go.Proofs.YtnkbfbhhioemoaaW.PrintMore
attribute [local go_sem] max2_int min2_int max_two min_two max_three min_three max_four min_four   -- for this text's walks alone
set_option linter.unusedVariables false
set_option linter.unusedSimpArgs false

section
variable {P : Program} {ops : Array Oper} {rest : List Oper} {o : Oper} {a : Act} {Q : Exit → Act → World → Prop} {S : Nat → Prop} {w W : World} {L : List (Nat × Blk)}
end
end Go.Proofs.Ytnkbfbhhioemoaa.Q
