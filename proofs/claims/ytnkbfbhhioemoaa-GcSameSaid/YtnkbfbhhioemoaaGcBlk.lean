/- gc: the block at a place. -/
import Derived.Test.YtnkbfbhhioemoaaQx0
import Derived.Test.YtnkbfbhhioemoaaQx1
import Derived.Test.YtnkbfbhhioemoaaGcModel
import Derived.Test.YtnkbfbhhioemoaaHeapPlain
--@needs XHeapPlain
--@needs XGcModel
namespace Go.Proofs.Ytnkbfbhhioemoaa.Q
open Go.RowKit Go.Proofs.YtnkbfbhhioemoaaW.PrintWords Go.Proofs.YtnkbfbhhioemoaaW.PrintLast Go.Proofs.YtnkbfbhhioemoaaW.PrintMore
attribute [local go_sem] max2_int min2_int max_two min_two max_three min_three max_four min_four   -- for this text's walks alone
set_option linter.unusedVariables false
set_option linter.unusedSimpArgs false

/-- how many words the block has that stands at a place and ends by T; 0: none -/
def gBlk (m : List Int) (T a : Int) : Int := if splOk (rd m a) ∧ a + 1 + rd m a / 16384 ≤ T ∧ ¬ (rd m a % 16 / 2 = 1 ∧ rd m (a + 1) % 2 = 0) then 1 + rd m a / 16384 else 0
theorem rd_val {m : List Int} (hv : ∀ x ∈ m, 0 ≤ x ∧ x < 4294967296) (i : Int) : 0 ≤ rd m i ∧ rd m i < 4294967296 := by
  unfold rd
  rw [List.getD_eq_getElem?_getD]
  cases h : m[i.toNat]? with
  | none => simp
  | some x => exact hv x (List.mem_of_getElem? h)
theorem gBlk_ok (m : List Int) (F T : Int) : BlkOk F T (gBlk m T) := by
  intro a h0 h1
  unfold gBlk
  by_cases h : splOk (rd m a) ∧ a + 1 + rd m a / 16384 ≤ T ∧ ¬ (rd m a % 16 / 2 = 1 ∧ rd m (a + 1) % 2 = 0)
  · rw [if_pos h]
    have := h.1.2.2.2.2.2.2
    exact .inr ⟨by omega, by omega⟩
  · rw [if_neg h]; exact .inl rfl
section
variable {m : List Int} {F T a : Int} (hv : ∀ x ∈ m, 0 ≤ x ∧ x < 4294967296) (hlen : m.length ≤ 1000000) (h0 : 0 ≤ a) (h1 : a < T) (hT : T ≤ m.length)
include hv hlen h0 h1 hT
theorem half_block_eq : gc_half_block.f m F T a = some (gBlk m T a) := by
  have hr := rd_val hv a
  unfold gc_half_block.f gBlk
  rw [if_pos h0, if_pos (by omega), heap_Split_eq _ hr.1 hr.2]
  simp only [Option.bind_some]
  unfold splV
  by_cases hs : splOk (rd m a)
  · rw [if_pos hs]
    have hsz := hs.2.2.2.2.2.2
    have h256 := hMost_le (rd m a % 16 / 2)
    simp only [if_true]
    rw [wr64 (n := a + 1) (by omega), wr64 (n := a + 1 + rd m a / 16384) (by omega), wr64 (n := 1 + rd m a / 16384) (by omega)]
    by_cases c1 : a + 1 + rd m a / 16384 > T
    · rw [if_pos c1, if_neg (by omega)]
    · rw [if_neg c1]
      by_cases c2 : rd m a % 16 / 2 = 1
      · rw [if_pos c2, if_pos (by omega), if_pos (by omega)]
        have hr1 := rd_val hv (a + 1)
        rw [Int.tmod_eq_emod_of_nonneg hr1.1]
        by_cases c3 : rd m (a + 1) % 2 = 0
        · rw [if_pos c3, if_neg (fun h => h.2.2 ⟨c2, c3⟩)]
        · rw [if_neg c3, if_pos ⟨hs, by omega, fun h => c3 h.2⟩]
      · rw [if_neg c2, if_pos ⟨hs, by omega, fun h => c2 h.1⟩]
  · rw [if_neg hs, if_neg (show ¬ ((0, 0, 0, false) : Int × Int × Int × Bool).2.2.2 = true by decide), if_neg (fun h => hs h.1)]
end
end Go.Proofs.Ytnkbfbhhioemoaa.Q
