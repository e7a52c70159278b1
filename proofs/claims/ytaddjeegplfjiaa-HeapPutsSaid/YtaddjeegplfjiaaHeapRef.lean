/- heap: the reference's Head and Split are the same (camletref41). -/
import Derived.Test.YtaddjeegplfjiaaQx0
import Derived.Test.YtaddjeegplfjiaaQx1
import Derived.Test.YtaddjeegplfjiaaHeapPlain
--@needs XHeapPlain
namespace Go.Proofs.Ytaddjeegplfjiaa.Q
open Go.RowKit Go.Proofs.YtaddjeegplfjiaaW.PrintWords Go.Proofs.YtaddjeegplfjiaaW.PrintLast Go.Proofs.YtaddjeegplfjiaaW.PrintMore
attribute [local go_sem] max2_int min2_int max_two min_two max_three min_three max_four min_four   -- for this text's walks alone
set_option linter.unusedVariables false
set_option linter.unusedSimpArgs false

theorem ref41_Head_eq (n : Nat) (k t s : Int) : camletref41_Head.f (n + 1) k t s = some (if headOk k t s then (1 + 2 * k + 16 * t + 16384 * s, 0) else (0, 2)) := by
  unfold camletref41_Head.f
  simp only [camletref41_Head.j0]
  by_cases h : headOk k t s
  · rw [if_pos h]
    obtain ⟨h1, h2, h3, h4, h5, h6, h7⟩ := h
    have h8 := hMost_le k
    have e : wrap64 (wrap64 (wrap64 (1 + wrap64 (2 * k)) + wrap64 (16 * t)) + wrap64 (16384 * s)) % 4294967296 = 1 + 2 * k + 16 * t + 16384 * s := by
      rw [wr64 (n := 2 * k) (by omega), wr64 (n := 16 * t) (by omega), wr64 (n := 16384 * s) (by omega), wr64 (n := 1 + 2 * k) (by omega), wr64 (n := 1 + 2 * k + 16 * t) (by omega), wr64 (by omega)]
      omega
    rw [e]
    have hd : decide (s < 1) = false := decide_eq_false (by omega)
    rw [if_neg (by omega), if_neg (by omega), if_neg (by omega), if_neg (by omega), hd]
    unfold hMost at h7
    have : k = 0 ∨ k = 1 ∨ k = 2 := by omega
    rcases this with rfl | rfl | rfl
    · simp at h7 ⊢; omega
    · have ht : t = 0 := by omega
      subst ht
      simp at h7 ⊢; omega
    · have ht : t = 0 := by omega
      subst ht
      simp at h7 ⊢; omega
  · rw [if_neg h]
    by_cases c1 : k < 0
    · rw [if_pos c1]; simp
    rw [if_neg c1]
    by_cases c2 : k > 2
    · rw [if_pos c2]; simp
    rw [if_neg c2]
    by_cases c3 : t < 0
    · rw [if_pos c3]; simp
    rw [if_neg c3]
    by_cases c4 : t > 1023
    · rw [if_pos c4]; simp
    rw [if_neg c4]
    by_cases c9 : t > 0 ∧ k > 0
    · rw [if_pos c9.1, if_pos c9.2]; simp
    have e0 : ∀ X Y : Option (Int × Int), (if t > 0 then (if k > 0 then X else Y) else Y) = Y := by
      intro X Y
      by_cases a : t > 0
      · rw [if_pos a, if_neg (fun b => c9 ⟨a, b⟩)]
      · rw [if_neg a]
    rw [e0]
    by_cases c5 : s < 1
    · simp [c5]
    have hd : decide (s < 1) = false := decide_eq_false c5
    rw [hd]
    have hs : s > hMost k := by
      by_cases a : s ≤ hMost k
      · exact absurd ⟨by omega, by omega, by omega, by omega, by omega, by omega, a⟩ h
      · omega
    unfold hMost at hs
    have : k = 0 ∨ k = 1 ∨ k = 2 := by omega
    rcases this with rfl | rfl | rfl
    · simp at hs ⊢; omega
    · simp at hs ⊢; omega
    · simp at hs ⊢; omega
theorem ref41_Split_eq (n : Nat) (w : Int) (h0 : 0 ≤ w) (h1 : w < 4294967296) : camletref41_Split.f (n + 1) w = some (splV w) := by
  unfold camletref41_Split.f splV
  have e1 : wrap64 w = w := wr64 (by omega)
  have e2 : Int.tmod w 16 = w % 16 := Int.tmod_eq_emod_of_nonneg h0
  have e3 : Int.tdiv w 16 = w / 16 := Int.tdiv_eq_ediv_of_nonneg h0
  have e4 : Int.tdiv w 16384 = w / 16384 := Int.tdiv_eq_ediv_of_nonneg h0
  have e5 : Int.tdiv (w % 16) 2 = w % 16 / 2 := Int.tdiv_eq_ediv_of_nonneg (by omega)
  have e6 : wrap64 (w / 16) = w / 16 := wr64 (by omega)
  have e7 : Int.tmod (w / 16) 1024 = w / 16 % 1024 := Int.tmod_eq_emod_of_nonneg (by omega)
  rw [e1, e2, e3, e4, e5, e6, e7, wr64 (n := w % 16 / 2) (by omega), wr64 (n := w / 16384) (by omega), ref41_Head_eq]
  simp only [Option.bind_some]
  by_cases h : headOk (w % 16 / 2) (w / 16 % 1024) (w / 16384)
  · rw [if_pos h]
    have hs := spl_sum h0 h
    by_cases h2 : w % 2 = 1
    · rw [if_pos rfl, if_pos (hs.2 h2), if_pos ⟨h2, h⟩]
    · rw [if_pos rfl, if_neg (fun e => h2 (hs.1 e)), if_neg (fun e => h2 e.1)]
  · rw [if_neg h, if_neg (by decide), if_neg (fun e => h e.2)]
end Go.Proofs.Ytaddjeegplfjiaa.Q
