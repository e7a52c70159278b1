
/- Words for a walk by hand: a region that draws its order and writes: one operation of it by the rules of XAw. -/
import Derived.Test.YtaijpfooobcdkaaDoorQx0
import Derived.Test.YtaijpfooobcdkaaDoorAw
import Derived.Test.YtaijpfooobcdkaaDoorAwSl
--@needs XAw
--@needs XAwSl
import Derived.Deep.RegionLaw
namespace Go.Proofs.YtaijpfooobcdkaaDoor.Q
open Go.RowKit Go.Proofs.YtaijpfooobcdkaaDoorW.PrintWords Go.Proofs.YtaijpfooobcdkaaDoorW.PrintLast Go.Proofs.YtaijpfooobcdkaaDoorW.PrintMore
attribute [local go_sem] max2_int min2_int max_two min_two max_three min_three max_four min_four   -- for this text's walks alone
set_option linter.unusedVariables false
set_option linter.unusedSimpArgs false

section
variable {P : Program} {ops : Array Oper} {o : Oper} {a : Act} {K : Act → World → Prop} {Q : Exit → Act → World → Prop} {E : Prop} {S : Nat → Prop} {w W : World} {L : List (Nat × Blk)}
theorem Aw.newD (h : Aw S w W L) (t : TypeId) (l : List Value) : Aw S w (W.alloc (.cells l.toArray t (0, 0))) ((W.heap.size, .c t l) :: L) := by
  obtain ⟨g, W2, rfl, rfl, H⟩ := h.new (b := .c t l) (o := .cells l.toArray t (0, 0)) rfl
  exact H
end
end Go.Proofs.YtaijpfooobcdkaaDoor.Q
