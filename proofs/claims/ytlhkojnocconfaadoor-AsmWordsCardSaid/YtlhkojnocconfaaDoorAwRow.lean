
/- Words for a walk by hand: rows of single cells that the call has made by make, copied into. -/
import Derived.Test.YtlhkojnocconfaaDoorQx0
import Derived.Test.YtlhkojnocconfaaDoorAw
import Derived.Test.YtlhkojnocconfaaDoorAwSl
--@needs XAw
--@needs XAwSl
import Derived.Laws.CopyOwn
import Derived.Deep.OwnRows
namespace Go.Proofs.YtlhkojnocconfaaDoor.Q
open Go.RowKit Go.Proofs.YtlhkojnocconfaaDoorW.PrintWords Go.Proofs.YtlhkojnocconfaaDoorW.PrintLast Go.Proofs.YtlhkojnocconfaaDoorW.PrintMore
attribute [local go_sem] max2_int min2_int max_two min_two max_three min_three max_four min_four   -- for this text's walks alone
set_option linter.unusedVariables false
set_option linter.unusedSimpArgs false

section
variable {P : Program} {ops : Array Oper} {rest : List Oper} {o : Oper} {a : Act} {Q : Exit → Act → World → Prop} {S : Nat → Prop} {w W : World} {L : List (Nat × Blk)}
end
theorem Own.apart {S : Nat → Prop} {w W : World} {L Lv : List (Nat × Blk)} {e size n ob : Nat} {b : Blk} {v : Value} {xs : List Value} (h : Own e size v n xs Lv) (HA : Aw S w W ((ob, b) :: L)) (hs : ∀ x ∈ Lv, x ∈ L) : ∀ g, v.ownBlock = some g → g ≠ ob := by
  intro g hg e
  subst e
  obtain ⟨_, ⟨rfl, _, rfl⟩ | ⟨g', cap', rfl, _, rfl⟩⟩ := h
  · cases hg
  · have e2 : g' = g := by simpa [Value.ownBlock] using hg
    subst e2
    have hm := hs _ (List.mem_singleton.2 rfl)
    have := HA.2.2
    rw [List.map_cons, List.nodup_cons] at this
    exact this.1 (List.mem_map.2 ⟨_, hm, rfl⟩)
end Go.Proofs.YtlhkojnocconfaaDoor.Q
