
/- Words for a walk by hand: a region that draws its order and writes: one operation of it by the rules of XAw. -/
import Derived.Test.YtcdeekfgdmckmaaDoorQx0
import Derived.Test.YtcdeekfgdmckmaaDoorAw
import Derived.Test.YtcdeekfgdmckmaaDoorAwSl
--@needs XAw
--@needs XAwSl
import Derived.Deep.RegionLaw
namespace Go.Proofs.YtcdeekfgdmckmaaDoor.Q
open Go.RowKit Go.Proofs.YtcdeekfgdmckmaaDoorW.PrintWords Go.Proofs.YtcdeekfgdmckmaaDoorW.PrintLast Go.Proofs.YtcdeekfgdmckmaaDoorW.PrintMore
attribute [local go_sem] max2_int min2_int max_two min_two max_three min_three max_four min_four   -- for this text's walks alone
set_option linter.unusedVariables false
set_option linter.unusedSimpArgs false

section
variable {P : Program} {ops : Array Oper} {o : Oper} {a : Act} {K : Act → World → Prop} {Q : Exit → Act → World → Prop} {E : Prop} {S : Nat → Prop} {w W : World} {L : List (Nat × Blk)}
theorem Aw.setD (h : Aw S w W L) {i g j : Nat} {T : TypeId} {l : List Value} (v : Value) (hi : L[i]? = some (g, .c T l)) : Aw S w (W.setCell ⟨g, j, none⟩ v) (L.set i (g, .c T (l.set j v))) := by
  have h2 := blk_set (g := g) (h.at hi) j v
  rw [List.setIfInBounds_toArray] at h2
  exact h.put (b' := .c T (l.set j v)) hi ⟨rfl, rfl, rfl⟩ (by simp [World.setCell]) h2 rfl (fun k _ hk => Below.heap_setCell W ⟨g, j, none⟩ v k hk)
end
end Go.Proofs.YtcdeekfgdmckmaaDoor.Q
