
/- gc: what was copied is reached in the same order. -/
import Derived.Test.YtnkbfbhhioemoaaQx0
import Derived.Test.YtnkbfbhhioemoaaGcBlk
import Derived.Test.YtnkbfbhhioemoaaGcModel
import Derived.Test.YtnkbfbhhioemoaaGcMove
import Derived.Test.YtnkbfbhhioemoaaGcSim
--@needs XGcSim
namespace Go.Proofs.Ytnkbfbhhioemoaa.Q
open Go.RowKit Go.Proofs.YtnkbfbhhioemoaaW.PrintWords Go.Proofs.YtnkbfbhhioemoaaW.PrintLast Go.Proofs.YtnkbfbhhioemoaaW.PrintMore
attribute [local go_sem] max2_int min2_int max_two min_two max_three min_three max_four min_four   -- for this text's walks alone
set_option linter.unusedVariables false
set_option linter.unusedSimpArgs false

section
variable {m : List Int} {F T t : Int} {l : List Int} (H : GCop m F T t l)
include H
end
theorem gLay_vals {m : List Int} {blk chg : Int → Int} (hv : ∀ x ∈ m, 0 ≤ x ∧ x < 4294967296) : ∀ {l : List Int} {t : Int} {O : List Int}, (∀ b ∈ l, ∀ x ∈ gKids m blk b, 0 ≤ chg x ∧ chg x < 4294967296) → (∀ x ∈ O, 0 ≤ x ∧ x < 4294967296) → ∀ x ∈ gLay m blk chg t l O, 0 ≤ x ∧ x < 4294967296
  | [], t, O, hc, hO, x, hx => hO x hx
  | b :: r, t, O, hc, hO, x, hx => by
    rw [gLay] at hx
    refine gLay_vals hv (fun c hcr => hc c (by simp [hcr])) (fun y hy => ?_) x hx
    unfold splice at hy
    rcases List.mem_append.1 hy with hy | hy
    · exact hO y (List.mem_of_mem_take hy)
    rcases List.mem_append.1 hy with hy | hy
    · unfold gCells at hy
      rcases List.mem_cons.1 hy with rfl | hy
      · exact rd_val hv b
      · obtain ⟨z, hz, rfl⟩ := List.mem_map.1 hy
        exact hc b (by simp) z hz
    · exact hO y (List.mem_of_mem_drop hy)
theorem GCop.chg_val {m l : List Int} {F T t : Int} (H : GCop m F T t l) {x : Int} (h0 : 0 ≤ x ∧ x < 4294967296) (hx : x % 2 = 1 ∨ (gLeads F T x = true ∧ x / 4 ∈ l)) : 0 ≤ gChg m F T t l x ∧ gChg m F T t l x < 4294967296 := by
  rcases hx with hx | ⟨hx, hxl⟩
  · rw [H.chg_odd hx]; exact h0
  · have hs := H.pos_span hxl
    have hm := H.inv.mem _ hxl
    have ht0 := H.t0
    have ht1 := H.t1
    have hlen := H.len
    rw [H.chg_leads hx]
    unfold gEnd at hs
    omega
theorem GCop.new_vals {m l : List Int} {F T t : Int} (H : GCop m F T t l) : ∀ x ∈ gNew m F T t l, 0 ≤ x ∧ x < 4294967296 :=
  gLay_vals H.vals (fun b hb x hx => H.chg_val (H.vals x (List.mem_of_mem_take (List.mem_of_mem_drop hx))) (H.kids b hb x hx)) H.vals
end Go.Proofs.Ytnkbfbhhioemoaa.Q
