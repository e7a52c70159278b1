/- Several texts in one: The reference's Right, fits and Words of a value, by lists. The reference's laying of a value. By wip/gen/ref_put.py. The reference's Put. By wip/gen/ref_put.py. -/
import Derived.Test.YtaddjeegplfjiaaQx0
import Derived.Test.YtaddjeegplfjiaaQx3
import Derived.Test.YtaddjeegplfjiaaQx6
import Derived.Test.YtaddjeegplfjiaaQx7
import Derived.Test.YtaddjeegplfjiaaEvW
import Derived.Test.YtaddjeegplfjiaaHeapPlain
import Derived.Test.YtaddjeegplfjiaaHeapWords
import Derived.Test.YtaddjeegplfjiaaHheapMay
import Derived.Test.YtaddjeegplfjiaaHvalR
import Derived.Test.YtaddjeegplfjiaaLayM
import Derived.Test.YtaddjeegplfjiaaQx1
import Derived.Test.YtaddjeegplfjiaaAw
import Derived.Test.YtaddjeegplfjiaaAwAny
import Derived.Test.YtaddjeegplfjiaaAwFrame
import Derived.Test.YtaddjeegplfjiaaAwReg
import Derived.Test.YtaddjeegplfjiaaAwRowPut
import Derived.Test.YtaddjeegplfjiaaAwTree
import Derived.Test.YtaddjeegplfjiaaHeapRef
import Derived.Test.YtaddjeegplfjiaaHlayAll
import Derived.Test.YtaddjeegplfjiaaHheapPut
import Derived.LoopTactic
import Derived.Deep.LoopGhost
import Derived.Lib.Hide
import Derived.IntWalk
import Derived.Outline
import Derived.Test.YtaddjeegplfjiaaAwSl
--@needs XLayM
--@needs XHheapMay
--@needs XHeapWords
--@needs XEvW
--@uses camlet/camletref17.Right
--@uses camlet/camletref41.fits
--@uses camlet/camletref41.Words
namespace Go.Proofs.Ytaddjeegplfjiaa.Q
open Go.RowKit Go.Proofs.YtaddjeegplfjiaaW.PrintWords Go.Proofs.YtaddjeegplfjiaaW.PrintLast Go.Proofs.YtaddjeegplfjiaaW.PrintMore
attribute [local go_sem] max2_int min2_int max_two min_two max_three min_three max_four min_four   -- for this text's walks alone
set_option linter.unusedVariables false
set_option linter.unusedSimpArgs false

abbrev SV := S34
def smallV : Nat → SV → Bool
  | 0, _ => false
  | n + 1, x => decide (x.f2.length ≤ 1000) && x.f2.all (smallV n)
theorem smallV_len {n : Nat} {x : SV} (h : smallV n x = true) : x.f2.length ≤ 1000 := by
  cases n with
  | zero => simp [smallV] at h
  | succ n => simp only [smallV, Bool.and_eq_true, decide_eq_true_eq] at h; exact h.1
theorem smallV_kid {n : Nat} {x : SV} (h : smallV (n + 1) x = true) : ∀ y ∈ x.f2, smallV n y = true := by
  simp only [smallV, Bool.and_eq_true, decide_eq_true_eq] at h
  exact List.all_eq_true.1 h.2
def maxl : List Int → Int → Int
  | [], a => a
  | y :: r, a => maxl r (mx a y)
theorem maxl_le : ∀ (l : List Int) (a b : Int), maxl l a ≤ b ↔ a ≤ b ∧ ∀ y ∈ l, y ≤ b
  | [], a, b => by simp [maxl]
  | y :: r, a, b => by
    rw [maxl, maxl_le r]
    have : mx a y ≤ b ↔ a ≤ b ∧ y ≤ b := by unfold mx; split <;> omega
    rw [this]
    simp only [List.mem_cons, forall_eq_or_imp]
    exact and_assoc
theorem maxl_ge (l : List Int) (a : Int) : a ≤ maxl l a := ((maxl_le l a _).1 (Int.le_refl _)).1
def deepV : Nat → SV → Int
  | 0, _ => 0
  | n + 1, x => maxl (x.f2.map (deepV n)) 0 + 1
theorem deepV_le : ∀ (n : Nat) (x : SV), 0 ≤ deepV n x ∧ deepV n x ≤ n
  | 0, _ => ⟨Int.le_refl _, Int.le_refl _⟩
  | n + 1, x => by
    rw [deepV]
    have h1 := maxl_ge (x.f2.map (deepV n)) 0
    have h2 : maxl (x.f2.map (deepV n)) 0 ≤ n := (maxl_le _ _ _).2 ⟨by omega, fun y hy => by
      obtain ⟨z, _, rfl⟩ := List.mem_map.1 hy
      exact (deepV_le n z).2⟩
    exact ⟨by omega, by omega⟩
theorem rp_drop {l : List SV} {i : Nat} (h : i < l.length) : l.drop i = rd_T34 l i :: l.drop (i + 1) := rdT_drop h
theorem deep_ev : ∀ (n : Nat) (x : SV), n ≤ 1000 → smallV n x = true → Ev (fun k => camletref17_deep.f k x.f0 x.f1 x.f2) (deepV n x)
  | 0, x, _, h => by simp [smallV] at h
  | n + 1, x, hn, h => by
    have hl := smallV_len h
    have go : ∀ (d i : Nat) (a : Int), i + d = x.f2.length → 0 ≤ a → a ≤ 1000 → Ev (fun k => camletref17_deep.l0 k a (i : Int) x.f0 x.f1 x.f2) (maxl ((x.f2.drop i).map (deepV n)) a + 1) := by
      intro d
      induction d with
      | zero =>
        intro i a hi h0 h1
        rw [List.drop_eq_nil_of_le (by omega)]
        exact Ev.some 1 (fun k => by rw [camletref17_deep.l0, if_neg (by omega), wr64 (by omega)]; rfl)
      | succ d ih =>
        intro i a hi h0 h1
        rw [rp_drop (by omega), List.map_cons, maxl]
        refine Ev.step (fun k => by rw [camletref17_deep.l0, if_pos (by omega), if_pos (by omega)]) ?_
        refine Ev.bind (deep_ev n _ (by omega) (smallV_kid h _ (rdT_mem (by omega)))) ?_
        rw [wr64 (by omega)]
        have hd := deepV_le n (rd_T34 x.f2 i)
        exact ih (i + 1) _ (by omega) (by unfold mx; split <;> omega) (by unfold mx; split <;> omega)
    have h1 := go x.f2.length 0 0 (by omega) (by omega) (by omega)
    rw [List.drop_zero] at h1
    exact Ev.step (fun k => by rw [camletref17_deep.f]; rfl) h1
def rightV : Nat → SV → Bool
  | 0, _ => false
  | n + 1, x => valShape x.f0 x.f1 x.f2.length && x.f2.all (rightV n)
theorem wrap_ev (n : Int) : ∃ v, camletref01_Wrap.f n = some v ∧ (v = n ↔ -1073741824 ≤ n ∧ n ≤ 1073741823) := by
  unfold camletref01_Wrap.f
  have e := Int.mul_tdiv_add_tmod n 2147483648
  have b1 : (Int.tmod n 2147483648).natAbs < 2147483648 := by
    have h := Int.natAbs_tmod n 2147483648
    rw [h]
    exact Nat.mod_lt _ (by decide)
  have b2 : 0 ≤ n → 0 ≤ Int.tmod n 2147483648 := fun h => Int.tmod_nonneg _ h
  have b3 : n ≤ 0 → Int.tmod n 2147483648 ≤ 0 := fun h => by
    have h1 := Int.tmod_nonneg (a := -n) 2147483648 (by omega)
    rw [Int.neg_tmod] at h1
    omega
  generalize Int.tmod n 2147483648 = r at *
  generalize Int.tdiv n 2147483648 = q at *
  unfold wrap64
  repeat' split
  all_goals exact ⟨_, rfl, by omega⟩
theorem right_ev : ∀ (n : Nat) (x : SV), smallV n x = true → Ev (fun k => camletref17_right.f k x.f0 x.f1 x.f2) (rightV n x)
  | 0, x, h => by simp [smallV] at h
  | n + 1, x, h => by
    have hl := smallV_len h
    have go : ∀ (d i : Nat), i + d = x.f2.length → Ev (fun k => camletref17_right.l0 k (x.f2.length : Int) (i : Int) x.f0 x.f1 x.f2) ((x.f2.drop i).all (rightV n)) := by
      intro d
      induction d with
      | zero =>
        intro i hi
        rw [List.drop_eq_nil_of_le (by omega)]
        exact Ev.some 1 (fun k => by rw [camletref17_right.l0, if_neg (by omega)]; rfl)
      | succ d ih =>
        intro i hi
        rw [rp_drop (by omega), List.all_cons]
        refine Ev.step (fun k => by rw [camletref17_right.l0, if_pos (by omega), if_pos (by omega), if_pos (by omega)]) ?_
        refine Ev.bind (right_ev n _ (smallV_kid h _ (rdT_mem (by omega)))) ?_
        rw [wr64 (by omega)]
        cases rightV n (rd_T34 x.f2 i) with
        | false => exact Ev.neg (by decide) (Ev.now _)
        | true => exact Ev.pos rfl (ih (i + 1) (by omega))
    have h1 := go x.f2.length 0 (by omega)
    rw [List.drop_zero] at h1
    have h2 : Ev (fun k => camletref17_right.j0 k (x.f2.length : Int) x.f0 x.f1 x.f2) (x.f2.all (rightV n)) := Ev.step (fun k => by rw [camletref17_right.j0]; rfl) h1
    rw [rightV]
    have hz : (x.f2.length : Int) = 0 → x.f2.all (rightV n) = true := fun h0 => by
      have : x.f2 = [] := List.eq_nil_of_length_eq_zero (by omega)
      rw [this]; rfl
    have hf : ∀ k, camletref17_right.f (k + 1) x.f0 x.f1 x.f2 = _ := fun k => by rw [camletref17_right.f]
    by_cases k1 : x.f0 = 1
    · obtain ⟨v, hv, hv2⟩ := wrap_ev x.f1
      refine Ev.some 1 (fun k => ?_)
      rw [hf, if_pos k1, hv, Option.bind_some]
      unfold valShape
      rw [if_pos k1]
      by_cases hw : v = x.f1
      · rw [if_pos hw]
        have := hv2.1 hw
        rw [decide_eq_true (show x.f1 ≥ -1073741824 by omega), decide_eq_true (show x.f1 ≤ 1073741823 by omega)]
        by_cases h0 : (x.f2.length : Int) = 0
        · rw [hz h0, h0]; rfl
        · rw [decide_eq_false h0, beq_false_of_ne h0]; rfl
      · rw [if_neg hw]
        have h3 : ¬ (-1073741824 ≤ x.f1 ∧ x.f1 ≤ 1073741823) := fun h => hw (hv2.2 h)
        by_cases h4 : -1073741824 ≤ x.f1
        · rw [decide_eq_false (show ¬ x.f1 ≤ 1073741823 by omega)]; simp
        · rw [decide_eq_false (show ¬ x.f1 ≥ -1073741824 by omega)]; simp
    · by_cases k2 : x.f0 = 2
      · unfold valShape
        rw [if_neg k1, if_pos k2]
        refine Ev.step (fun k => by rw [hf, if_neg k1, if_pos k2]) ?_
        refine Ev.ite (fun h3 => ?_) (fun h3 => Ev.ite (fun h4 => ?_) (fun h4 => Ev.ite (fun h5 => ?_) (fun h5 => Ev.ite (fun h6 => ?_) (fun h6 => ?_))))
        · rw [decide_eq_false (show ¬ x.f1 ≥ 0 by omega)]; exact Ev.now _
        · rw [decide_eq_false (show ¬ x.f1 ≤ 1023 by omega), Bool.and_false]; exact Ev.now _
        · rw [decide_eq_false (show ¬ (x.f2.length : Int) ≥ 1 by omega), Bool.and_false]; exact Ev.now _
        · rw [decide_eq_false (show ¬ (x.f2.length : Int) ≤ 8 by omega), Bool.and_false]; exact Ev.now _
        · rw [decide_eq_true (show x.f1 ≥ 0 by omega), decide_eq_true (show x.f1 ≤ 1023 by omega), decide_eq_true (show (x.f2.length : Int) ≥ 1 by omega), decide_eq_true (show (x.f2.length : Int) ≤ 8 by omega)]
          exact h2
      · by_cases k3 : x.f0 = 3
        · unfold valShape
          rw [if_neg k1, if_neg k2, if_pos k3]
          refine Ev.step (fun k => by rw [hf, if_neg k1, if_neg k2, if_pos k3]) ?_
          refine Ev.ite (fun h3 => ?_) (fun h3 => Ev.ite (fun h4 => ?_) (fun h4 => ?_))
          · rw [decide_eq_false (show ¬ x.f1 ≥ 0 by omega)]; exact Ev.now _
          · rw [decide_eq_false (show ¬ (x.f2.length : Int) ≤ 255 by omega), Bool.and_false]; exact Ev.now _
          · rw [decide_eq_true (show x.f1 ≥ 0 by omega), decide_eq_true (show (x.f2.length : Int) ≤ 255 by omega)]
            exact h2
        · by_cases k4 : x.f0 = 4
          · unfold valShape
            rw [if_neg k1, if_neg k2, if_neg k3, if_pos k4]
            refine Ev.some 1 (fun k => ?_)
            rw [hf, if_neg k1, if_neg k2, if_neg k3, if_pos k4]
            by_cases h3 : x.f1 ≥ 0
            · rw [if_pos h3, decide_eq_true h3]
              by_cases h0 : (x.f2.length : Int) = 0
              · rw [hz h0, h0]; rfl
              · rw [decide_eq_false h0, beq_false_of_ne h0]; rfl
            · rw [if_neg h3, decide_eq_false h3]; rfl
          · unfold valShape
            rw [if_neg k1, if_neg k2, if_neg k3, if_neg k4]
            refine Ev.some 1 (fun k => ?_)
            rw [hf, if_neg k1, if_neg k2, if_neg k3, if_neg k4]
            rfl
theorem valR_eq : ∀ (n : Nat) (x : SV) (e : Nat), smallV n x = true → valR e x = (decide (deepV n x ≤ e) && rightV n x)
  | 0, x, _, h => by simp [smallV] at h
  | n + 1, x, 0, h => by
    have h1 := maxl_ge (x.f2.map (deepV n)) 0
    rw [valR, deepV, decide_eq_false (by omega)]; rfl
  | n + 1, x, e + 1, h => by
    rw [valR, deepV, rightV]
    have hk := smallV_kid h
    have e1 : ((maxl (x.f2.map (deepV n)) 0 + 1 ≤ ((e + 1 : Nat) : Int))) ↔ ∀ y ∈ x.f2, deepV n y ≤ e := by
      have h2 := maxl_le (x.f2.map (deepV n)) 0 e
      constructor
      · intro h3 y hy
        exact (h2.1 (by omega)).2 _ (List.mem_map_of_mem hy)
      · intro h3
        have := h2.2 ⟨by omega, fun y hy => by obtain ⟨z, hz, rfl⟩ := List.mem_map.1 hy; exact h3 z hz⟩
        omega
    have e2 : ((x.f2.any fun y => !valR e y) == false) = (x.f2.all (fun y => decide (deepV n y ≤ e)) && x.f2.all (rightV n)) := by
      rw [Bool.eq_iff_iff]
      simp only [beq_iff_eq, List.any_eq_false, Bool.and_eq_true, List.all_eq_true, decide_eq_true_eq, Bool.not_eq_true', Bool.not_eq_false]
      constructor
      · intro h3
        exact ⟨fun y hy => by have h4 := h3 y hy; rw [valR_eq n y e (hk y hy), Bool.and_eq_true, decide_eq_true_eq] at h4; exact h4.1, fun y hy => by have h4 := h3 y hy; rw [valR_eq n y e (hk y hy), Bool.and_eq_true] at h4; exact h4.2⟩
      · intro h3 y hy
        rw [valR_eq n y e (hk y hy), h3.2 y hy, decide_eq_true (h3.1 y hy)]; rfl
    have e3 : decide (maxl (x.f2.map (deepV n)) 0 + 1 ≤ ((e + 1 : Nat) : Int)) = x.f2.all (fun y => decide (deepV n y ≤ e)) := by
      rw [Bool.eq_iff_iff]
      simp only [decide_eq_true_eq, List.all_eq_true]
      exact e1
    rw [e2, e3]
    cases valShape x.f0 x.f1 x.f2.length <;> simp
theorem Right_ev {n : Nat} {x : SV} (hn : n ≤ 1000) (h : smallV n x = true) : Ev (fun k => camletref17_Right.f k x.f0 x.f1 x.f2) (valR 100 x) := by
  rw [valR_eq n x 100 h]
  refine Ev.bind (deep_ev n x hn h) ?_
  refine Ev.ite (fun h1 => ?_) (fun h1 => ?_)
  · rw [show decide (deepV n x ≤ ((100 : Nat) : Int)) = true from decide_eq_true h1, Bool.true_and]
    exact Ev.bind (right_ev n x h) (Ev.now _)
  · rw [show decide (deepV n x ≤ ((100 : Nat) : Int)) = false from decide_eq_false h1, Bool.false_and]
    exact Ev.now _
theorem fits_ev : ∀ (d : Nat) (x : SV), valR d x = true → Ev (fun k => camletref41_fits.f k x.f0 x.f1 x.f2) (mayM d x)
  | 0, x, h => by simp [valR] at h
  | d + 1, x, h => by
    have hl := valR_len h
    have go : ∀ (e i : Nat), i + e = x.f2.length → Ev (fun k => camletref41_fits.l0 k (x.f2.length : Int) (i : Int) x.f0 x.f1 x.f2) ((x.f2.drop i).any (fun y => !mayM d y) == false) := by
      intro e
      induction e with
      | zero =>
        intro i hi
        rw [List.drop_eq_nil_of_le (by omega)]
        exact Ev.some 1 (fun k => by rw [camletref41_fits.l0, if_neg (by omega)]; rfl)
      | succ e ih =>
        intro i hi
        rw [rp_drop (by omega), List.any_cons]
        refine Ev.step (fun k => by rw [camletref41_fits.l0, if_pos (by omega), if_pos (by omega), if_pos (by omega)]) ?_
        refine Ev.bind (fits_ev d _ (valR_kid h _ (rdT_mem (by omega)))) ?_
        rw [wr64 (by omega)]
        cases mayM d (rd_T34 x.f2 i) with
        | false => exact Ev.neg (by decide) (Ev.now _)
        | true => exact Ev.pos rfl (by simpa using ih (i + 1) (by omega))
    have h1 := go x.f2.length 0 (by omega)
    rw [List.drop_zero] at h1
    have h2 : Ev (fun k => camletref41_fits.j0 k false x.f0 x.f1 x.f2) (x.f2.any (fun y => !mayM d y) == false) := Ev.step (fun k => by rw [camletref41_fits.j0, if_neg (by decide)]; rfl) h1
    have h3 : Ev (fun k => camletref41_fits.j0 k true x.f0 x.f1 x.f2) false := Ev.some 1 (fun k => by rw [camletref41_fits.j0, if_pos rfl])
    rw [mayM, decide_eq_false (show ¬ (x.f2.length : Int) > 255 by omega), Bool.or_false]
    by_cases k4 : x.f0 = 4
    · rw [decide_eq_true k4]
      exact Ev.step (fun k => by rw [camletref41_fits.f, if_pos k4]) h3
    · rw [decide_eq_false k4, Bool.false_or]
      by_cases k3 : x.f0 = 3
      · rw [decide_eq_true k3, Bool.true_and]
        refine Ev.step (fun k => by rw [camletref41_fits.f, if_neg k4, if_pos k3]) ?_
        cases decide (x.f1 ≥ 16384) with
        | true => exact h3
        | false => exact h2
      · rw [decide_eq_false k3, Bool.false_and]
        exact Ev.step (fun k => by rw [camletref41_fits.f, if_neg k4, if_neg k3]) h2
theorem Words_ev : ∀ (d : Nat) (x : SV), valR d x = true → wordsV d x ≤ 1000000000 → Ev (fun k => camletref41_Words.f k x.f0 x.f1 x.f2) (wordsV d x)
  | 0, x, h, _ => by simp [valR] at h
  | d + 1, x, hv, hs => by
    have hl := valR_len hv
    have go : ∀ (e i : Nat) (s : Int), i + e = x.f2.length → 0 ≤ s → s + ((x.f2.drop i).map (wordsV d)).sum ≤ 1000000000 → Ev (fun k => camletref41_Words.l0 k s (x.f2.length : Int) (i : Int) x.f0 x.f1 x.f2) (s + ((x.f2.drop i).map (wordsV d)).sum) := by
      intro e
      induction e with
      | zero =>
        intro i s hi h0 hs
        rw [List.drop_eq_nil_of_le (by omega)]
        exact Ev.some 1 (fun k => by rw [camletref41_Words.l0, if_neg (by omega)]; simp)
      | succ e ih =>
        intro i s hi h0 hs
        rw [rp_drop (by omega), List.map_cons, List.sum_cons] at hs ⊢
        have h1 := wordsV_nn d (rd_T34 x.f2 i)
        have h2 := wordsV_sum d (x.f2.drop (i + 1))
        refine Ev.step (fun k => by rw [camletref41_Words.l0, if_pos (by omega), if_pos (by omega), if_pos (by omega)]) ?_
        refine Ev.bind (Words_ev d _ (valR_kid hv _ (rdT_mem (by omega))) (by omega)) ?_
        have hn := ih (i + 1) (s + wordsV d (rd_T34 x.f2 i)) (by omega) (by omega) (by omega)
        rw [wr64 (by omega), wr64 (by omega), show s + (wordsV d (rd_T34 x.f2 i) + ((x.f2.drop (i + 1)).map (wordsV d)).sum) = s + wordsV d (rd_T34 x.f2 i) + ((x.f2.drop (i + 1)).map (wordsV d)).sum by omega]
        exact hn
    by_cases h1 : x.f0 = 1
    · refine Ev.some 1 (fun k => ?_)
      rw [camletref41_Words.f, if_pos h1, wordsV, if_pos h1]
    · have h2 := wordsV_sum d x.f2
      by_cases h3 : x.f0 = 3
      · rw [wordsV_clo h3] at hs ⊢
        refine Ev.step (fun k => by rw [camletref41_Words.f, if_neg h1, if_pos h3]) ?_
        refine Ev.step (fun k => by rw [camletref41_Words.j0]) ?_
        rw [wr64 (n := 1 + (x.f2.length : Int)) (by omega), wr64 (by omega)]
        have := go x.f2.length 0 (1 + (x.f2.length : Int) + 1) (by omega) (by omega) (by rw [List.drop_zero]; omega)
        rw [List.drop_zero, show 1 + (x.f2.length : Int) + 1 + (x.f2.map (wordsV d)).sum = 2 + (x.f2.length : Int) + (x.f2.map (wordsV d)).sum by omega] at this
        exact this
      · rw [wordsV_blk h1 h3] at hs ⊢
        refine Ev.step (fun k => by rw [camletref41_Words.f, if_neg h1, if_neg h3]) ?_
        refine Ev.step (fun k => by rw [camletref41_Words.j0]) ?_
        rw [wr64 (n := 1 + (x.f2.length : Int)) (by omega)]
        have := go x.f2.length 0 (1 + (x.f2.length : Int)) (by omega) (by omega) (by rw [List.drop_zero]; omega)
        rw [List.drop_zero] at this
        exact this
end Go.Proofs.Ytaddjeegplfjiaa.Q

--@needs XAwTree
--@needs XAwRowPut
--@needs XAwReg
--@needs XAwAny
--@needs XLayM
--@needs XHheapPut
--@needs XHeapRef
--@uses camlet/camletref01.Box
--@uses camlet/camletref41.Head
namespace Go.Proofs.Ytaddjeegplfjiaa.Q
open Go.RowKit Go.Proofs.YtaddjeegplfjiaaW.PrintWords Go.Proofs.YtaddjeegplfjiaaW.PrintLast Go.Proofs.YtaddjeegplfjiaaW.PrintMore
attribute [local go_sem] max2_int min2_int max_two min_two max_three min_three max_four min_four   -- for this text's walks alone
set_option linter.unusedVariables false
set_option linter.unusedSimpArgs false

def RLayPost (mg cap : Nat) (W : World) (q : Int × (List Int × Int)) (e : Ending) (W' : World) : Prop :=
  e = .returned (.tuple #[.int .u32 q.1, .int .i64 q.2.2]) ∧ Aw (inL [(mg, Blk.c 22 [])]) W W' [lyM mg cap q.2.1]
def rWB (a : Int) : Int := (a + 1073741824) % 2147483648 - 1073741824
theorem r_or_one (n : Nat) : (n * 2) ||| 1 = n * 2 + 1 := by
  have h : 2 * n + 1 = 2 * n ||| 1 := by simpa using Nat.two_pow_add_eq_or_of_lt (i := 1) (b := 1) (by decide) n
  rw [Nat.mul_comm n 2, ← h]
theorem r_or (a b : Nat) (ha : a < 4294967296) (hb : b < 4294967296) : bits .or .u32 (a : Int) (b : Int) = ((a ||| b : Nat) : Int) := by
  have h : a ||| b < 4294967296 := Nat.or_lt_two_pow (n := 32) ha hb
  have e : bits .or .u32 (a : Int) (b : Int) = IntKind.u32.wrap ((BitVec.ofInt 32 (a : Int) ||| BitVec.ofInt 32 (b : Int)).toNat : Int) := rfl
  rw [e, BitVec.toNat_or, BitVec.toNat_ofInt, BitVec.toNat_ofInt]
  rw [show (((a : Int) % ((2 ^ 32 : Nat) : Int)).toNat) = a by omega, show (((b : Int) % ((2 ^ 32 : Nat) : Int)).toNat) = b by omega]
  unfold IntKind.wrap
  simp [IntKind.bits, IntKind.signed]
  omega
theorem rBox_num (n : Int) : num_Box.f n = some ((2 * rWB n + 1) % 4294967296) := by
  unfold num_Box.f
  have e : ((n % 4294967296) * 2) % 4294967296 = (((n % 2147483648).toNat * 2 : Nat) : Int) := by omega
  have e1 : (1 : Int) = ((1 : Nat) : Int) := rfl
  rw [e, e1, r_or _ _ (by omega) (by omega), r_or_one]
  congr 1
  unfold rWB
  omega
theorem rBox_ref (n : Int) : camletref01_Box.f n = some ((2 * rWB n + 1) % 4294967296) := by
  have hw : camletref01_Wrap.f n = some (rWB n) := by
    unfold camletref01_Wrap.f rWB
    have e := Int.mul_tdiv_add_tmod n 2147483648
    have b1 : (Int.tmod n 2147483648).natAbs < 2147483648 := by
      have h := Int.natAbs_tmod n 2147483648
      rw [h]
      exact Nat.mod_lt _ (by decide)
    generalize Int.tmod n 2147483648 = r at *
    generalize Int.tdiv n 2147483648 = q at *
    unfold wrap64
    repeat' split
    all_goals (congr 1; omega)
  unfold camletref01_Box.f
  rw [hw, Option.bind_some]
  have : -1073741824 ≤ rWB n ∧ rWB n < 1073741824 := by unfold rWB; omega
  rw [wr64 (n := 2 * rWB n) (by omega), wr64 (by omega)]
theorem rBox (n : Int) : camletref01_Box.f n = some (boxV n) := by
  rw [rBox_ref, ← rBox_num]; rfl
theorem rl_not {mg : Nat} {b : Blk} (j : Nat) (hj : j ≠ mg) : ¬ inL [(mg, b)] j := fun hi => by
  obtain ⟨y, hy, he⟩ := List.mem_map.1 hi
  obtain rfl := List.mem_singleton.1 hy
  exact hj he.symm
theorem rl_F {mg n : Nat} {b : Blk} {w W : World} {A : Option Addr} {l : List S34} (hF : Kd.F k34 w (fun k => k ≠ mg) A n l) (hk : Kp (inL [(mg, b)]) w W) : Kd.F k34 W (fun k => k ≠ mg) A n l :=
  Kd.F_step hF (fun j hj hlt => hk.block j hlt (rl_not j hj))
set_option maxHeartbeats 8000000 in
set_option maxRecDepth 100000 in
theorem rLay.int (mg n cap : Nat) (a : Int) (m : List Int) (x : S34) (A : Option Addr) (c : Nat) (W : World) (d : Nat) (h1 : x.f0 = 1) {S : Nat → Prop} {w : World} {L : List (Nat × Blk)} (HA : Aw S w W L) (A9 : Option Addr) :
    Calls Try.prog 34 #[.slice A9 n cap, .int .i64 a, .agg #[.int .i64 x.f0, .int .i64 x.f1, .slice A x.f2.length c]] W fun e W' => e = .returned (.tuple #[.int .u32 (boxV x.f1), .int .i64 a]) ∧ Aw S w W' L := by
  rw [h1]
  obtain ⟨f1, hf⟩ : ∃ y, x.f1 = y := ⟨_, rfl⟩
  obtain ⟨k, hk⟩ : ∃ y, x.f2.length = y := ⟨_, rfl⟩
  rw [hf, hk]
  clear h1 hf hk
  go_enter Try.func34, Try.ntmps34
  go_wp2_with (first | ((with_reducible refine gate_dst (N := 5) rfl ?_); refine aw_box rfl rfl rfl HA ?_; clear HA; intro gx W_ HA; simp only [Act.put, List.setIfInBounds_toArray, List.set_cons_succ, List.set_cons_zero]) | (go_at_call 49; refine (camletref01_Box.calls f1 _ _ (rBox f1)).mono ?_; rintro e W_ ⟨rfl, hd_⟩; replace HA := HA.drewN0 hd_; clear hd_) | ((with_reducible refine gate_ld rfl ?_); (refine aw_load 0 rfl rfl HA rfl rfl rfl ?_ ?_); kernel_rfl; simp only [Act.put, List.setIfInBounds_toArray, List.set_cons_succ, List.set_cons_zero]))
  (try simp only [Exit.inBlock, Exit.then])
  (try refine bodyPost_ret (results_list (rs := [.tmp 6, .tmp 7]) rfl (by simp) (.tmp (.tmp .nil))) rfl ?_)
  exact ⟨rfl, HA.sub (List.sublist_cons_self _ _)⟩
theorem rl_side {S : Nat → Prop} {w W W' : World} {y : Nat × Blk} {L L' : List (Nat × Blk)} (HA : Aw S w W (y :: L)) (hk : Aw (inL L) W W' L') : Aw S w W' (y :: L') := by
  have h := Aw.frame (R := [y]) (HA.perm (List.perm_append_comm (l₁ := [y]) (l₂ := L))) hk
  exact h.perm (List.perm_append_comm (l₁ := L') (l₂ := [y]))
set_option maxHeartbeats 8000000 in
set_option maxRecDepth 100000 in
theorem rLay.blk (mg n cap : Nat) (a : Int) (m : List Int) (x : S34) (A : Option Addr) (c : Nat) (W : World) (d : Nat) (h1 : x.f0 ≠ 1) (h3 : x.f0 ≠ 3) (ha0 : 0 ≤ a) (hhd : headOk 0 x.f1 x.f2.length) (hk9 : x.f2.length ≤ 255) (hmn : m.length = n) (hn9 : n ≤ 1000000) (hnc : n ≤ cap) (hsum : a + wordsV (d + 1) x ≤ n) (hF : Kd.F k34 W (fun k => k ≠ mg) A x.f2.length x.f2)
    (HIH : ∀ (y : S34) (A : Option Addr) (c : Nat) (a : Int) (m' : List Int) (W1 : World), y ∈ x.f2 → y.f2.length ≤ c → m'.length = n → 0 ≤ a → a + wordsV d y ≤ n → Kd.F k34 W1 (fun k => k ≠ mg) A y.f2.length y.f2 → Aw (inL [(mg, Blk.c 22 [])]) W1 W1 [lyM mg cap m'] → Calls Try.prog 34 #[.slice (some ⟨mg, 0, none⟩) n cap, .int .i64 a, .agg #[.int .i64 y.f0, .int .i64 y.f1, .slice A y.f2.length c]] W1 (RLayPost mg cap W1 (layV d y (m', a))))
    (HA : Aw (inL [(mg, Blk.c 22 [])]) W W [lyM mg cap m]) :
    Calls Try.prog 34 #[.slice (some ⟨mg, 0, none⟩) n cap, .int .i64 a, .agg #[.int .i64 x.f0, .int .i64 x.f1, .slice A x.f2.length c]] W (RLayPost mg cap W (layV (d + 1) x (m, a))) := by
  have hws := wordsV_blk h1 h3 (d := d)
  rw [layV_blk h1 h3]
  have hw1 := wordsV_sum d x.f2
  have hroom : a + 1 + (x.f2.length : Int) + (x.f2.map (wordsV d)).sum ≤ n := by omega
  clear hws hsum
  obtain ⟨f0, f1, l⟩ := x
  dsimp only at *
  have c1 : (f0 == 1) = false := beq_eq_false_iff_ne.mpr h1
  have c3 : (f0 == 3) = false := beq_eq_false_iff_ne.mpr h3
  clear h1 h3
  obtain ⟨hd, hhde⟩ : ∃ y : Int, 1 + 2 * 0 + 16 * f1 + 16384 * (l.length : Int) = y := ⟨_, rfl⟩
  rw [hhde]
  have HHD := Aside0.mk (ref41_Head_eq 0 0 f1 l.length)
  rw [if_pos hhd, hhde] at HHD
  have HI := Lib.hid HIH
  have HFF := Aside0.mk hF
  obtain ⟨sm, hsm⟩ : ∃ y, (l.map (wordsV d)).sum = y := ⟨_, rfl⟩
  have hm0 : (m.set a.toNat hd).length = n := by simpa using hmn
  have HS0 : Aside0 (0 ≤ a + (1 + (l.length : Int)) ∧ a + (1 + (l.length : Int)) + (l.map (wordsV d)).sum ≤ n) := ⟨by omega⟩
  rw [hsm] at hroom hw1
  obtain ⟨res, hres⟩ : ∃ y, layKids (layV d) l (a + 1) ((m.set a.toNat hd), a + (1 + (l.length : Int))) = y := ⟨_, rfl⟩
  rw [hres]
  have HRES := Aside0.mk hres
  have HM0 := Aside0.mk hm0
  obtain ⟨P, HP⟩ : ∃ P : Ending → World → Prop, Aside0 (P = RLayPost mg cap W (4 * a, res)) := ⟨_, ⟨rfl⟩⟩
  rw [← HP.out]
  have w1 : IntKind.i64.wrap (a + 1) = a + 1 := IntWalk.i64_in _ (by omega)
  have hjm : a.toNat < m.length := by omega
  have hju0 : a.toNat < (m.map (Value.int .u32)).length := by simpa using hjm
  have u1 : IntKind.i64.wrap (a + 1 - a) = (1 : Int) := by rw [IntWalk.i64_in _ (by omega)]; omega
  have u2 : IntKind.i64.wrap ((1 : Int) - 1) = (0 : Int) := by rw [IntWalk.i64_in _ (by omega)]; omega
  have u3 : IntKind.i64.wrap ((0 : Int) + (l.length : Int)) = (l.length : Int) := by rw [IntWalk.i64_in _ (by omega)]; omega
  have u4 : IntKind.i64.wrap (a + 1 + (l.length : Int)) = a + (1 + (l.length : Int)) := by rw [IntWalk.i64_in _ (by omega)]; omega
  have v5 : IntKind.i64.wrap (4 * a) = 4 * a := IntWalk.i64_in _ (by omega)
  have v6 : IntKind.u32.wrap (4 * a) = 4 * a := by unfold IntKind.wrap; simp [IntKind.bits, IntKind.signed]; omega
  have i2 : (0 ≤ a) = True := eq_true ha0
  have han : a < (n : Int) := by omega
  have i4 : a + 1 < (n : Int) ∨ l.length = 0 := by omega
  clear hmn hhd hhde hF HIH hres hm0 hsm i4
  go_enter Try.func34, Try.ntmps34
  go_wp2_with (first | ((with_reducible refine gate_dst (N := 5) rfl ?_); refine aw_box rfl rfl rfl HA ?_; clear HA; intro gx W_ HA; simp only [Act.put, List.setIfInBounds_toArray, List.set_cons_succ, List.set_cons_zero]) | (go_at_call 9; refine (camletref41_Head.calls 1 _ _ _ _ _ _ HHD.out).mono ?_; rintro e W_ ⟨rfl, hd_⟩; replace HA := HA.drewN0 hd_; clear hd_) | ((with_reducible refine gate_ld rfl ?_); (refine aw_load 0 rfl rfl HA rfl rfl rfl ?_ ?_); kernel_rfl; simp only [Act.put, List.setIfInBounds_toArray, List.set_cons_succ, List.set_cons_zero]) | ((with_reducible refine gate_st rfl ?_); (refine aw_rstore 1 (e := 22) (v := .int .u32 _) rfl rfl rfl rfl rfl HA rfl rfl hju0 ?_ ?_); kernel_rfl; clear HA; intro W_ HA; dsimp only [List.set] at HA; rw [← List.map_set] at HA))
  go_loopg [13, 67] (l.length) (fun g s13 s67 wx => ∃ (j : Nat) (m1 : List Int) (a1 : Int), j + g = l.length ∧ s13 = .int .i64 a1 ∧ s67 = .int .i64 j ∧ m1.length = n ∧ Aside0 (0 ≤ a1 ∧ a1 + ((l.drop j).map (wordsV d)).sum ≤ n) ∧ Aside0 (layKids (layV d) (l.drop j) (a + 1 + (j : Int)) (m1, a1) = res) ∧ Aw (inL [(mg, Blk.c 22 [])]) W wx [(gx, .c 34 [.int .i64 f0, .int .i64 f1, .slice A l.length c]), lyM mg cap m1])
  case atStart => exact ⟨0, _, a + (1 + (l.length : Int)), by omega, rfl, rfl, HM0.out, ⟨by simpa using HS0.out⟩, ⟨by simpa using HRES.out⟩, HA⟩
  case round =>
    clear HA
    obtain ⟨j, m1, a1, hkg, rfl, rfl, hm1, HS1, HRL, HA⟩ := hrel
    by_cases hlt : j < l.length
    · have ck : decide ((j : Int) < (l.length : Int)) = true := decide_eq_true (by omega)
      have ck2 : decide (j < l.length) = true := decide_eq_true hlt
      have hw : IntKind.i64.wrap ((j : Int) + 1) = ((j + 1 : Nat) : Int) := by rw [IntWalk.i64_in _ (by omega)]; rfl
      have hw2 : IntKind.i64.wrap (a + 1 + (j : Int)) = a + 1 + (j : Int) := IntWalk.i64_in _ (by omega)
      have p0 : (0 ≤ (j : Int)) = True := eq_true (by omega)
      have q0 : ((j : Int) < (l.length : Int)) = True := eq_true (by omega)
      have p1 : (0 ≤ a + 1 + (j : Int)) = True := eq_true (by omega)
      have q1 : (a + 1 + (j : Int) < (n : Int)) = True := eq_true (by omega)
      obtain ⟨jj, hjj⟩ : ∃ jj, (a + 1 + (j : Int)).toNat = jj := ⟨_, rfl⟩
      have hFx : Kd.F k34 wr (fun k => k ≠ mg) A l.length l := rl_F HFF.out HA.1
      obtain ⟨ad, cs9, hA, hcl, hFK, hcs, _⟩ := Kd.F_get hFx z34 (j : Int) (by omega) (by omega)
      subst hA
      obtain ⟨x, HX⟩ : ∃ x, Aside0 (l[j] = x) := ⟨_, ⟨rfl⟩⟩
      have hgd : l.getD ((j : Int)).toNat z34 = x := by rw [← HX.out, Int.toNat_natCast, List.getD_eq_getElem?_getD, List.getElem?_eq_getElem hlt]; rfl
      rw [hgd] at hFK
      obtain ⟨A2, c2, rfl, hl2, hF2⟩ := k34_openF hFK
      have hc : ∀ j2 u, ([.int .i64 x.f0, .int .i64 x.f1, .slice A2 x.f2.length c2] : List Value)[j2]? = some u → wr.cell? (ad.add (j * 3 + j2)) = some u := hcs
      have hx0' : wr.cell? (ad.add (j * 3)) = some (.int .i64 x.f0) := hc 0 _ rfl
      have hx1' : wr.cell? ⟨(ad.add (j * 3)).block, (ad.add (j * 3)).off + 1, none⟩ = some (.int .i64 x.f1) := by rw [← add_field _ _ 1 (by omega)]; exact hc 1 _ rfl
      have hx2' : wr.cell? ⟨(ad.add (j * 3)).block, (ad.add (j * 3)).off + 2, none⟩ = some (.slice A2 x.f2.length c2) := by rw [← add_field _ _ 2 (by omega)]; exact hc 2 _ rfl
      have hmem : x ∈ l := by rw [← HX.out]; exact List.getElem_mem hlt
      have hrl := HRL.out
      have hs1 := HS1.out
      rw [List.drop_eq_getElem_cons hlt, HX.out, List.map_cons, List.sum_cons] at hs1
      have hw0 := wordsV_nn d x
      have hw3 := wordsV_sum d (l.drop (j + 1))
      have hax : a1 + wordsV d x ≤ n := by omega
      rw [List.drop_eq_getElem_cons hlt, HX.out, layKids] at hrl
      have hlo := layV_ok d x (m1, a1)
      obtain ⟨q, hq⟩ : ∃ q, layV d x (m1, a1) = q := ⟨_, rfl⟩
      have hcall := HI.out x A2 c2 a1 m1 wr hmem hl2 hm1 hs1.1 hax hF2 (HA.sub (List.sublist_cons_self _ _)).givens
      rw [hq] at hrl hlo hcall
      obtain ⟨qw, m2, a2⟩ := q
      dsimp only at hrl hlo
      have HCALL := Aside0.mk hcall
      have HRL2 := Aside0.mk hrl
      have hm2 : m2.length = n := hlo.1.trans hm1
      have HS2 : Aside0 (0 ≤ a2 ∧ a2 + ((l.drop (j + 1)).map (wordsV d)).sum ≤ n) := ⟨by have h := hlo.2; omega⟩
      have hjr : (a + 1 + (j : Int)).toNat < (m2.map (Value.int .u32)).length := by rw [List.length_map]; omega
      clear hs1 hw0 hw3 hax HS1 hrl hlo hcall hq hcs hc hFx hF2 HRL hcl hgd hjj jj
      go_wp2_with (first | (go_at_call 34; refine HCALL.out.mono ?_; rintro e W_ ⟨rfl, hk_⟩; replace HA := rl_side HA hk_; clear hk_; dsimp only at HA) | ((with_reducible refine gate_ld rfl ?_); (refine aw_load 0 rfl rfl HA rfl rfl rfl ?_ ?_); kernel_rfl; simp only [Act.put, List.setIfInBounds_toArray, List.set_cons_succ, List.set_cons_zero]) | ((with_reducible refine gate_st rfl ?_); (refine aw_rstore 1 (e := 22) (v := .int .u32 _) rfl rfl rfl rfl rfl HA rfl rfl hjr ?_ ?_); kernel_rfl; clear HA; intro W_ HA; dsimp only [List.set] at HA; rw [← List.map_set] at HA))
      go_roundg (l.length - (j + 1))
      case measure => omega
      case rel =>
        refine ⟨j + 1, m2.set (a + 1 + (j : Int)).toNat qw, a2, by omega, rfl, rfl, by simpa using hm2, HS2, ⟨?_⟩, ?_⟩
        · have h := HRL2.out
          rw [show a + 1 + ((j + 1 : Nat) : Int) = a + 1 + (j : Int) + 1 by omega]
          exact h
        · exact HA
    · have ck : decide ((j : Int) < (l.length : Int)) = false := decide_eq_false (by omega)
      have ck2 : decide (j < l.length) = false := decide_eq_false hlt
      have hrl := HRL.out
      rw [List.drop_eq_nil_of_le (by omega), layKids] at hrl
      have HRL2 := Aside0.mk hrl
      clear hrl
      go_wp2
      (try simp only [Exit.inBlock, Exit.then])
      (try refine bodyPost_ret (results_list (rs := [.tmp 6, .tmp 7]) rfl (by simp) (.tmp (.tmp .nil))) rfl ?_)
      rw [HP.out, ← HRL2.out]
      exact ⟨rfl, HA.sub (List.sublist_cons_self _ _)⟩
set_option maxHeartbeats 8000000 in
set_option maxRecDepth 100000 in
theorem rLay.clo (mg n cap : Nat) (a : Int) (m : List Int) (x : S34) (A : Option Addr) (c : Nat) (W : World) (d : Nat) (h3 : x.f0 = 3) (ha0 : 0 ≤ a) (hhd : headOk 1 0 ((x.f2.length : Int) + 1)) (hf1 : 0 ≤ x.f1 ∧ x.f1 ≤ 16383) (hk9 : x.f2.length ≤ 255) (hmn : m.length = n) (hn9 : n ≤ 1000000) (hnc : n ≤ cap) (hsum : a + wordsV (d + 1) x ≤ n) (hF : Kd.F k34 W (fun k => k ≠ mg) A x.f2.length x.f2)
    (HIH : ∀ (y : S34) (A : Option Addr) (c : Nat) (a : Int) (m' : List Int) (W1 : World), y ∈ x.f2 → y.f2.length ≤ c → m'.length = n → 0 ≤ a → a + wordsV d y ≤ n → Kd.F k34 W1 (fun k => k ≠ mg) A y.f2.length y.f2 → Aw (inL [(mg, Blk.c 22 [])]) W1 W1 [lyM mg cap m'] → Calls Try.prog 34 #[.slice (some ⟨mg, 0, none⟩) n cap, .int .i64 a, .agg #[.int .i64 y.f0, .int .i64 y.f1, .slice A y.f2.length c]] W1 (RLayPost mg cap W1 (layV d y (m', a))))
    (HA : Aw (inL [(mg, Blk.c 22 [])]) W W [lyM mg cap m]) :
    Calls Try.prog 34 #[.slice (some ⟨mg, 0, none⟩) n cap, .int .i64 a, .agg #[.int .i64 x.f0, .int .i64 x.f1, .slice A x.f2.length c]] W (RLayPost mg cap W (layV (d + 1) x (m, a))) := by
  have hws := wordsV_clo h3 (d := d)
  rw [layV_clo h3]
  have hw1 := wordsV_sum d x.f2
  have hroom : a + 1 + 1 + (x.f2.length : Int) + (x.f2.map (wordsV d)).sum ≤ n := by omega
  clear hws hsum
  obtain ⟨f0, f1, l⟩ := x
  dsimp only at *
  subst h3
  have c1 : ((3 : Int) == 1) = false := rfl
  obtain ⟨hd, hhde⟩ : ∃ y : Int, 1 + 2 * 1 + 16 * 0 + 16384 * ((l.length : Int) + 1) = y := ⟨_, rfl⟩
  rw [hhde]
  have HHD := Aside0.mk (ref41_Head_eq 0 1 0 ((l.length : Int) + 1))
  rw [if_pos hhd, hhde] at HHD
  have HI := Lib.hid HIH
  have HFF := Aside0.mk hF
  obtain ⟨sm, hsm⟩ : ∃ y, (l.map (wordsV d)).sum = y := ⟨_, rfl⟩
  have hm0 : ((m.set (a + 1).toNat (2 * f1 + 1)).set a.toNat hd).length = n := by simpa using hmn
  have HS0 : Aside0 (0 ≤ a + (1 + ((l.length : Int) + 1)) ∧ a + (1 + ((l.length : Int) + 1)) + (l.map (wordsV d)).sum ≤ n) := ⟨by omega⟩
  rw [hsm] at hroom hw1
  obtain ⟨res, hres⟩ : ∃ y, layKids (layV d) l (a + 1 + 1) (((m.set (a + 1).toNat (2 * f1 + 1)).set a.toNat hd), a + (1 + ((l.length : Int) + 1))) = y := ⟨_, rfl⟩
  rw [hres]
  have HRES := Aside0.mk hres
  have HM0 := Aside0.mk hm0
  obtain ⟨P, HP⟩ : ∃ P : Ending → World → Prop, Aside0 (P = RLayPost mg cap W (4 * a, res)) := ⟨_, ⟨rfl⟩⟩
  rw [← HP.out]
  have w1 : IntKind.i64.wrap (a + 1) = a + 1 := IntWalk.i64_in _ (by omega)
  have hjm : a.toNat < m.length := by omega
  have hju0 : a.toNat < ((m.set (a + 1).toNat (2 * f1 + 1)).map (Value.int .u32)).length := by simpa using hjm
  have hjm1 : (a + 1).toNat < (m.map (Value.int .u32)).length := by rw [List.length_map]; omega
  have w5 : IntKind.i64.wrap (2 * f1) = 2 * f1 := IntWalk.i64_in _ (by omega)
  have w6 : IntKind.i64.wrap (2 * f1 + 1) = 2 * f1 + 1 := IntWalk.i64_in _ (by omega)
  have w7 : IntKind.u32.wrap (2 * f1 + 1) = 2 * f1 + 1 := by unfold IntKind.wrap; simp [IntKind.bits, IntKind.signed]; omega
  have w9 : IntKind.i64.wrap (a + 1 + 1) = a + 1 + 1 := IntWalk.i64_in _ (by omega)
  have u1 : IntKind.i64.wrap (a + 1 + 1 - a) = (2 : Int) := by rw [IntWalk.i64_in _ (by omega)]; omega
  have u2 : IntKind.i64.wrap ((2 : Int) - 1) = (1 : Int) := by rw [IntWalk.i64_in _ (by omega)]; omega
  have u3 : IntKind.i64.wrap ((1 : Int) + (l.length : Int)) = ((l.length : Int) + 1) := by rw [IntWalk.i64_in _ (by omega)]; omega
  have u4 : IntKind.i64.wrap (a + 1 + 1 + (l.length : Int)) = a + (1 + ((l.length : Int) + 1)) := by rw [IntWalk.i64_in _ (by omega)]; omega
  have v5 : IntKind.i64.wrap (4 * a) = 4 * a := IntWalk.i64_in _ (by omega)
  have v6 : IntKind.u32.wrap (4 * a) = 4 * a := by unfold IntKind.wrap; simp [IntKind.bits, IntKind.signed]; omega
  have i2 : (0 ≤ a) = True := eq_true ha0
  have han : a < (n : Int) := by omega
  have i4 : a + 1 < (n : Int) ∨ l.length = 0 := by omega
  clear hmn hhd hhde hF HIH hres hm0 hsm i4
  have i5 : a + 1 < (n : Int) := by omega
  go_enter Try.func34, Try.ntmps34
  go_wp2_with (first | ((with_reducible refine gate_dst (N := 5) rfl ?_); refine aw_box rfl rfl rfl HA ?_; clear HA; intro gx W_ HA; simp only [Act.put, List.setIfInBounds_toArray, List.set_cons_succ, List.set_cons_zero]) | (go_at_call 9; refine (camletref41_Head.calls 1 _ _ _ _ _ _ HHD.out).mono ?_; rintro e W_ ⟨rfl, hd_⟩; replace HA := HA.drewN0 hd_; clear hd_) | ((with_reducible refine gate_ld rfl ?_); (refine aw_load 0 rfl rfl HA rfl rfl rfl ?_ ?_); kernel_rfl; simp only [Act.put, List.setIfInBounds_toArray, List.set_cons_succ, List.set_cons_zero]) | ((with_reducible refine gate_st rfl ?_); (first | refine aw_rstore 1 (e := 22) (v := .int .u32 _) rfl rfl rfl rfl rfl HA rfl rfl hju0 ?_ ?_ | refine aw_rstore 1 (e := 22) (v := .int .u32 _) rfl rfl rfl rfl rfl HA rfl rfl hjm1 ?_ ?_); kernel_rfl; clear HA; intro W_ HA; dsimp only [List.set] at HA; rw [← List.map_set] at HA))
  go_loopg [13, 67] (l.length) (fun g s13 s67 wx => ∃ (j : Nat) (m1 : List Int) (a1 : Int), j + g = l.length ∧ s13 = .int .i64 a1 ∧ s67 = .int .i64 j ∧ m1.length = n ∧ Aside0 (0 ≤ a1 ∧ a1 + ((l.drop j).map (wordsV d)).sum ≤ n) ∧ Aside0 (layKids (layV d) (l.drop j) (a + 1 + 1 + (j : Int)) (m1, a1) = res) ∧ Aw (inL [(mg, Blk.c 22 [])]) W wx [(gx, .c 34 [.int .i64 3, .int .i64 f1, .slice A l.length c]), lyM mg cap m1])
  case atStart => exact ⟨0, _, a + (1 + ((l.length : Int) + 1)), by omega, rfl, rfl, HM0.out, ⟨by simpa using HS0.out⟩, ⟨by simpa using HRES.out⟩, HA⟩
  case round =>
    clear HA
    obtain ⟨j, m1, a1, hkg, rfl, rfl, hm1, HS1, HRL, HA⟩ := hrel
    by_cases hlt : j < l.length
    · have ck : decide ((j : Int) < (l.length : Int)) = true := decide_eq_true (by omega)
      have ck2 : decide (j < l.length) = true := decide_eq_true hlt
      have hw : IntKind.i64.wrap ((j : Int) + 1) = ((j + 1 : Nat) : Int) := by rw [IntWalk.i64_in _ (by omega)]; rfl
      have hw2 : IntKind.i64.wrap (a + 1 + 1 + (j : Int)) = a + 1 + 1 + (j : Int) := IntWalk.i64_in _ (by omega)
      have p0 : (0 ≤ (j : Int)) = True := eq_true (by omega)
      have q0 : ((j : Int) < (l.length : Int)) = True := eq_true (by omega)
      have p1 : (0 ≤ a + 1 + 1 + (j : Int)) = True := eq_true (by omega)
      have q1 : (a + 1 + 1 + (j : Int) < (n : Int)) = True := eq_true (by omega)
      obtain ⟨jj, hjj⟩ : ∃ jj, (a + 1 + 1 + (j : Int)).toNat = jj := ⟨_, rfl⟩
      have hFx : Kd.F k34 wr (fun k => k ≠ mg) A l.length l := rl_F HFF.out HA.1
      obtain ⟨ad, cs9, hA, hcl, hFK, hcs, _⟩ := Kd.F_get hFx z34 (j : Int) (by omega) (by omega)
      subst hA
      obtain ⟨x, HX⟩ : ∃ x, Aside0 (l[j] = x) := ⟨_, ⟨rfl⟩⟩
      have hgd : l.getD ((j : Int)).toNat z34 = x := by rw [← HX.out, Int.toNat_natCast, List.getD_eq_getElem?_getD, List.getElem?_eq_getElem hlt]; rfl
      rw [hgd] at hFK
      obtain ⟨A2, c2, rfl, hl2, hF2⟩ := k34_openF hFK
      have hc : ∀ j2 u, ([.int .i64 x.f0, .int .i64 x.f1, .slice A2 x.f2.length c2] : List Value)[j2]? = some u → wr.cell? (ad.add (j * 3 + j2)) = some u := hcs
      have hx0' : wr.cell? (ad.add (j * 3)) = some (.int .i64 x.f0) := hc 0 _ rfl
      have hx1' : wr.cell? ⟨(ad.add (j * 3)).block, (ad.add (j * 3)).off + 1, none⟩ = some (.int .i64 x.f1) := by rw [← add_field _ _ 1 (by omega)]; exact hc 1 _ rfl
      have hx2' : wr.cell? ⟨(ad.add (j * 3)).block, (ad.add (j * 3)).off + 2, none⟩ = some (.slice A2 x.f2.length c2) := by rw [← add_field _ _ 2 (by omega)]; exact hc 2 _ rfl
      have hmem : x ∈ l := by rw [← HX.out]; exact List.getElem_mem hlt
      have hrl := HRL.out
      have hs1 := HS1.out
      rw [List.drop_eq_getElem_cons hlt, HX.out, List.map_cons, List.sum_cons] at hs1
      have hw0 := wordsV_nn d x
      have hw3 := wordsV_sum d (l.drop (j + 1))
      have hax : a1 + wordsV d x ≤ n := by omega
      rw [List.drop_eq_getElem_cons hlt, HX.out, layKids] at hrl
      have hlo := layV_ok d x (m1, a1)
      obtain ⟨q, hq⟩ : ∃ q, layV d x (m1, a1) = q := ⟨_, rfl⟩
      have hcall := HI.out x A2 c2 a1 m1 wr hmem hl2 hm1 hs1.1 hax hF2 (HA.sub (List.sublist_cons_self _ _)).givens
      rw [hq] at hrl hlo hcall
      obtain ⟨qw, m2, a2⟩ := q
      dsimp only at hrl hlo
      have HCALL := Aside0.mk hcall
      have HRL2 := Aside0.mk hrl
      have hm2 : m2.length = n := hlo.1.trans hm1
      have HS2 : Aside0 (0 ≤ a2 ∧ a2 + ((l.drop (j + 1)).map (wordsV d)).sum ≤ n) := ⟨by have h := hlo.2; omega⟩
      have hjr : (a + 1 + 1 + (j : Int)).toNat < (m2.map (Value.int .u32)).length := by rw [List.length_map]; omega
      clear hs1 hw0 hw3 hax HS1 hrl hlo hcall hq hcs hc hFx hF2 HRL hcl hgd hjj jj
      go_wp2_with (first | (go_at_call 34; refine HCALL.out.mono ?_; rintro e W_ ⟨rfl, hk_⟩; replace HA := rl_side HA hk_; clear hk_; dsimp only at HA) | ((with_reducible refine gate_ld rfl ?_); (refine aw_load 0 rfl rfl HA rfl rfl rfl ?_ ?_); kernel_rfl; simp only [Act.put, List.setIfInBounds_toArray, List.set_cons_succ, List.set_cons_zero]) | ((with_reducible refine gate_st rfl ?_); (refine aw_rstore 1 (e := 22) (v := .int .u32 _) rfl rfl rfl rfl rfl HA rfl rfl hjr ?_ ?_); kernel_rfl; clear HA; intro W_ HA; dsimp only [List.set] at HA; rw [← List.map_set] at HA))
      go_roundg (l.length - (j + 1))
      case measure => omega
      case rel =>
        refine ⟨j + 1, m2.set (a + 1 + 1 + (j : Int)).toNat qw, a2, by omega, rfl, rfl, by simpa using hm2, HS2, ⟨?_⟩, ?_⟩
        · have h := HRL2.out
          rw [show a + 1 + 1 + ((j + 1 : Nat) : Int) = a + 1 + 1 + (j : Int) + 1 by omega]
          exact h
        · exact HA
    · have ck : decide ((j : Int) < (l.length : Int)) = false := decide_eq_false (by omega)
      have ck2 : decide (j < l.length) = false := decide_eq_false hlt
      have hrl := HRL.out
      rw [List.drop_eq_nil_of_le (by omega), layKids] at hrl
      have HRL2 := Aside0.mk hrl
      clear hrl
      go_wp2
      (try simp only [Exit.inBlock, Exit.then])
      (try refine bodyPost_ret (results_list (rs := [.tmp 6, .tmp 7]) rfl (by simp) (.tmp (.tmp .nil))) rfl ?_)
      rw [HP.out, ← HRL2.out]
      exact ⟨rfl, HA.sub (List.sublist_cons_self _ _)⟩
theorem rLay.calls : ∀ (d mg n cap : Nat) (a : Int) (m : List Int) (x : S34) (A : Option Addr) (c : Nat) (W : World), valR d x = true → mayM d x = true → 0 ≤ a → m.length = n → n ≤ 1000000 → n ≤ cap → a + wordsV d x ≤ n → Kd.F k34 W (fun k => k ≠ mg) A x.f2.length x.f2 → Aw (inL [(mg, Blk.c 22 [])]) W W [lyM mg cap m] →
    Calls Try.prog 34 #[.slice (some ⟨mg, 0, none⟩) n cap, .int .i64 a, .agg #[.int .i64 x.f0, .int .i64 x.f1, .slice A x.f2.length c]] W (RLayPost mg cap W (layV d x (m, a))) := by
  intro d
  induction d with
  | zero => intro mg n cap a m x A c W h; simp [valR] at h
  | succ d ih =>
    intro mg n cap a m x A c W hv hm h0 hmn hn hnc hs hF HA
    by_cases h1 : x.f0 = 1
    · have e : layV (d + 1) x (m, a) = (boxV x.f1, (m, a)) := by rw [layV, if_pos h1]
      rw [e]
      exact rLay.int mg n cap a m x A c W d h1 HA _
    · have hlen := valR_len hv
      have hih := fun (y : S34) (A : Option Addr) (c : Nat) (a : Int) (m' : List Int) (W1 : World) (hy : y ∈ x.f2) (hc : y.f2.length ≤ c) (hm' : m'.length = n) (h0' : 0 ≤ a) (hs' : a + wordsV d y ≤ n) (hF' : Kd.F k34 W1 (fun k => k ≠ mg) A y.f2.length y.f2) (HA' : Aw (inL [(mg, Blk.c 22 [])]) W1 W1 [lyM mg cap m']) => ih mg n cap a m' y A c W1 (valR_kid hv y hy) (mayM_kid hm y hy) h0' hm' hn hnc hs' hF' HA'
      rcases valR_block hv hm h1 with ⟨h3, hh, hf⟩ | ⟨h3, hh⟩
      · exact rLay.clo mg n cap a m x A c W d h3 h0 hh hf hlen hmn hn hnc hs hF hih HA
      · exact rLay.blk mg n cap a m x A c W d h1 h3 h0 hh hlen hmn hn hnc hs hF hih HA
end Go.Proofs.Ytaddjeegplfjiaa.Q

--@needs XAwTree
--@needs XAwRowPut
--@needs XAwReg
--@needs XAwAny
--@needs XLayM
--@needs XHheapPut
--@needs XHeapRef
--@needs XHrefLay
--@needs XRefPutPlain
--@uses camlet/camletref01.Box
--@uses camlet/camletref41.Head
--@uses camlet/camletref17.Right
--@uses camlet/camletref41.fits
--@uses camlet/camletref41.Words
namespace Go.Proofs.Ytaddjeegplfjiaa.Q
open Go.RowKit Go.Proofs.YtaddjeegplfjiaaW.PrintWords Go.Proofs.YtaddjeegplfjiaaW.PrintLast Go.Proofs.YtaddjeegplfjiaaW.PrintMore
attribute [local go_sem] max2_int min2_int max_two min_two max_three min_three max_four min_four   -- for this text's walks alone
set_option linter.unusedVariables false
set_option linter.unusedSimpArgs false

theorem rLay.own {w W : World} {v9 : Value} {Lv R : List (Nat × Blk)} {a : Int} {m : List Int} {x : S34} {A : Option Addr} {c : Nat} (hv : valR 100 x = true) (hm : mayM 100 x = true) (h0 : 0 ≤ a) (hm9 : m.length ≤ 1000000) (hs : a + wordsV 100 x ≤ m.length)
    (hC : Kd.C k34 w A x.f2.length x.f2) (hown : Own 22 1 v9 m.length (m.map (Value.int .u32)) Lv) (HA : Aw noS w W (R ++ Lv)) :
    Calls Try.prog 34 #[v9, .int .i64 a, .agg #[.int .i64 x.f0, .int .i64 x.f1, .slice A x.f2.length c]] W fun e W' => e = .returned (.tuple #[.int .u32 (layV 100 x (m, a)).1, .int .i64 (layV 100 x (m, a)).2.2]) ∧ ∃ Lv', Own 22 1 v9 (layV 100 x (m, a)).2.1.length ((layV 100 x (m, a)).2.1.map (Value.int .u32)) Lv' ∧ Aw noS w W' Lv' := by
  have hlo := (layV_ok 100 x (m, a)).1
  obtain ⟨h9, ⟨rfl, hn, rfl⟩ | ⟨g, cap, rfl, hc, rfl⟩⟩ := hown
  · have hm0 : m = [] := List.eq_nil_of_length_eq_zero hn
    subst hm0
    have h1 : x.f0 = 1 := by
      rcases valR_block hv hm with h
      by_cases h1 : x.f0 = 1
      · exact h1
      · have w1 := wordsV_sum 99 x.f2
        rw [List.length_nil] at hs
        rcases h h1 with ⟨h3, _⟩ | ⟨h3, _⟩
        · rw [wordsV_clo h3] at hs; omega
        · rw [wordsV_blk h1 h3] at hs; omega
    have e : layV 100 x ([], a) = (boxV x.f1, ([], a)) := by rw [layV, if_pos h1]
    rw [e]
    refine (rLay.int 0 0 0 a [] x A c W 0 h1 (HA.sub (L' := []) (by simp)) none).mono ?_
    rintro e W' ⟨rfl, H⟩
    exact ⟨rfl, [], Own.nil _ _, H⟩
  · have hB := HA.sub (L' := [lyM g cap m]) (List.sublist_append_right R [_])
    have hg : w.heap.size ≤ g := (hB.mine (i := 0) rfl).resolve_left (fun h => h)
    have hF : Kd.F k34 W (fun k => k ≠ g) A x.f2.length x.f2 := Kd.F_mono (Kd.F_step (Kd.C_F hpk_heap hC) (fun k _ hlt => hB.1.block k hlt (fun h => h))) (fun k hk => by omega)
    refine (rLay.calls 100 g m.length cap a m x A c W hv hm h0 rfl hm9 hc hs hF hB.givens).mono ?_
    rintro e W' ⟨rfl, H⟩
    have H2 := hp_join hB H
    exact ⟨rfl, _, ⟨by simp, .inr ⟨g, cap, by rw [hlo], by rw [hlo]; exact hc, rfl⟩⟩, H2⟩
def camletref41_Put.f (k : Nat) (l0 : List Int) (a1 : Int) (a2_0 : Int) (a2_1 : Int) (l2_2 : List S34) : Option (List Int × Int × Int × Int) :=
  if smallV 131 ⟨a2_0, a2_1, l2_2⟩ = true then heap_Put.f l0 a1 a2_0 a2_1 l2_2 else none
theorem camletref41_Put.mono : ∀ a0 a1 a2 a3 a4 k, LeO (camletref41_Put.f k a0 a1 a2 a3 a4) (camletref41_Put.f (k + 1) a0 a1 a2 a3 a4) := fun _ _ _ _ _ _ => LeO.refl _
theorem rp_info : (Try.prog.info? 22).map (fun i => (i.zero, i.size, i.bytes)) = some (some (.int .u32 0), 1, 4) := by kernel_rfl
set_option maxHeartbeats 8000000 in
set_option maxRecDepth 100000 in
theorem rPut.bad1 (A0 : Option Addr) (c0 : Nat) (l0 : List Int) (a1 : Int) (a2_0 : Int) (a2_1 : Int) (A2_2 : Option Addr) (c2_2 : Nat) (l2_2 : List S34) (w : World) (hr0 : Kd.C (Kd.int .u32) w A0 l0.length l0) (hc0 : l0.length ≤ c0) (hr2_2 : Kd.C k34 w A2_2 l2_2.length l2_2) (hc2_2 : l2_2.length ≤ c2_2) (hm : l0.length ≤ 1000000) (hsm : smallV 131 (⟨a2_0, a2_1, l2_2⟩ : S34) = true) (hb : a1 < 0) :
    Calls Try.prog 15 #[.slice A0 l0.length c0, .int .i64 a1, .agg #[.int .i64 a2_0, .int .i64 a2_1, .slice A2_2 l2_2.length c2_2]] w fun e w' => ∃ v0_ : Value, e = .returned (.tuple #[v0_, .int .u32 0, .int .i64 0, .int .i64 2]) ∧ Kd.R (Kd.int .u32) 22 w' w.heap.size (fun _ => True) v0_ [] ∧ Below w.heap.size w w' := by
  obtain ⟨P, HP⟩ : ∃ P : Ending → World → Prop, Aside0 (P = fun e w' => ∃ v0_ : Value, e = .returned (.tuple #[v0_, .int .u32 0, .int .i64 0, .int .i64 2]) ∧ Kd.R (Kd.int .u32) 22 w' w.heap.size (fun _ => True) v0_ [] ∧ Below w.heap.size w w') := ⟨_, ⟨rfl⟩⟩
  rw [← HP.out]
  have HA := Aw.start noS w
  have HR0 := Aside0.mk hr0
  have HC := Aside0.mk hr2_2
  have d1 : decide (a1 < 0) = true := decide_eq_true hb
  clear hr0 hr2_2 hc2_2 hsm
  go_enter Try.func15, Try.ntmps15
  go_wp2_with (first | ((with_reducible refine gate_dst (N := 5) rfl ?_); refine aw_box rfl rfl rfl HA ?_; clear HA; intro gx W_ HA; simp only [Act.put, List.setIfInBounds_toArray, List.set_cons_succ, List.set_cons_zero]) | ((with_reducible refine gate_ld rfl ?_); (first | refine aw_loadW 0 (t := 34) rfl rfl HA rfl rfl ?_ ?_ | refine aw_loadW 1 (t := 34) rfl rfl HA rfl rfl ?_ ?_); kernel_rfl; simp only [Act.put, List.setIfInBounds_toArray, List.set_cons_succ, List.set_cons_zero]))
  (try simp only [Exit.inBlock, Exit.then])
  refine bodyPost_ret (results_list (rs := [.tmp 6, .tmp 7, .tmp 8, .tmp 9]) rfl (by simp) (.tmp (.tmp (.tmp (.tmp .nil))))) rfl ?_
  rw [HP.out]
  exact ⟨_, rfl, Kd.R_nil _ _ _ _ _, HA.below⟩
set_option maxHeartbeats 8000000 in
set_option maxRecDepth 100000 in
theorem rPut.bad2 (A0 : Option Addr) (c0 : Nat) (l0 : List Int) (a1 : Int) (a2_0 : Int) (a2_1 : Int) (A2_2 : Option Addr) (c2_2 : Nat) (l2_2 : List S34) (w : World) (hr0 : Kd.C (Kd.int .u32) w A0 l0.length l0) (hc0 : l0.length ≤ c0) (hr2_2 : Kd.C k34 w A2_2 l2_2.length l2_2) (hc2_2 : l2_2.length ≤ c2_2) (hm : l0.length ≤ 1000000) (hsm : smallV 131 (⟨a2_0, a2_1, l2_2⟩ : S34) = true) (h0 : 0 ≤ a1) (hb : a1 > (l0.length : Int)) :
    Calls Try.prog 15 #[.slice A0 l0.length c0, .int .i64 a1, .agg #[.int .i64 a2_0, .int .i64 a2_1, .slice A2_2 l2_2.length c2_2]] w fun e w' => ∃ v0_ : Value, e = .returned (.tuple #[v0_, .int .u32 0, .int .i64 0, .int .i64 2]) ∧ Kd.R (Kd.int .u32) 22 w' w.heap.size (fun _ => True) v0_ [] ∧ Below w.heap.size w w' := by
  obtain ⟨P, HP⟩ : ∃ P : Ending → World → Prop, Aside0 (P = fun e w' => ∃ v0_ : Value, e = .returned (.tuple #[v0_, .int .u32 0, .int .i64 0, .int .i64 2]) ∧ Kd.R (Kd.int .u32) 22 w' w.heap.size (fun _ => True) v0_ [] ∧ Below w.heap.size w w') := ⟨_, ⟨rfl⟩⟩
  rw [← HP.out]
  have HA := Aw.start noS w
  have HR0 := Aside0.mk hr0
  have HC := Aside0.mk hr2_2
  have d1 : decide (a1 < 0) = false := decide_eq_false (by omega)
  have d2 : decide (a1 > (l0.length : Int)) = true := decide_eq_true hb
  have d3 : decide ((l0.length : Int) < a1) = true := decide_eq_true hb
  clear hr0 hr2_2 hc2_2 hsm
  go_enter Try.func15, Try.ntmps15
  go_wp2_with (first | ((with_reducible refine gate_dst (N := 5) rfl ?_); refine aw_box rfl rfl rfl HA ?_; clear HA; intro gx W_ HA; simp only [Act.put, List.setIfInBounds_toArray, List.set_cons_succ, List.set_cons_zero]) | ((with_reducible refine gate_ld rfl ?_); (first | refine aw_loadW 0 (t := 34) rfl rfl HA rfl rfl ?_ ?_ | refine aw_loadW 1 (t := 34) rfl rfl HA rfl rfl ?_ ?_); kernel_rfl; simp only [Act.put, List.setIfInBounds_toArray, List.set_cons_succ, List.set_cons_zero]))
  (try simp only [Exit.inBlock, Exit.then])
  refine bodyPost_ret (results_list (rs := [.tmp 6, .tmp 7, .tmp 8, .tmp 9]) rfl (by simp) (.tmp (.tmp (.tmp (.tmp .nil))))) rfl ?_
  rw [HP.out]
  exact ⟨_, rfl, Kd.R_nil _ _ _ _ _, HA.below⟩
set_option maxHeartbeats 8000000 in
set_option maxRecDepth 100000 in
theorem rPut.noval (A0 : Option Addr) (c0 : Nat) (l0 : List Int) (a1 : Int) (a2_0 : Int) (a2_1 : Int) (A2_2 : Option Addr) (c2_2 : Nat) (l2_2 : List S34) (w : World) (hr0 : Kd.C (Kd.int .u32) w A0 l0.length l0) (hc0 : l0.length ≤ c0) (hr2_2 : Kd.C k34 w A2_2 l2_2.length l2_2) (hc2_2 : l2_2.length ≤ c2_2) (hm : l0.length ≤ 1000000) (hsm : smallV 131 (⟨a2_0, a2_1, l2_2⟩ : S34) = true) (h0 : 0 ≤ a1) (h1 : a1 ≤ (l0.length : Int)) (hv : valR 100 (⟨a2_0, a2_1, l2_2⟩ : S34) = false) :
    Calls Try.prog 15 #[.slice A0 l0.length c0, .int .i64 a1, .agg #[.int .i64 a2_0, .int .i64 a2_1, .slice A2_2 l2_2.length c2_2]] w fun e w' => ∃ v0_ : Value, e = .returned (.tuple #[v0_, .int .u32 0, .int .i64 0, .int .i64 1]) ∧ Kd.R (Kd.int .u32) 22 w' w.heap.size (fun _ => True) v0_ [] ∧ Below w.heap.size w w' := by
  obtain ⟨P, HP⟩ : ∃ P : Ending → World → Prop, Aside0 (P = fun e w' => ∃ v0_ : Value, e = .returned (.tuple #[v0_, .int .u32 0, .int .i64 0, .int .i64 1]) ∧ Kd.R (Kd.int .u32) 22 w' w.heap.size (fun _ => True) v0_ [] ∧ Below w.heap.size w w') := ⟨_, ⟨rfl⟩⟩
  rw [← HP.out]
  have HA := Aw.start noS w
  have HR0 := Aside0.mk hr0
  have HC := Aside0.mk hr2_2
  have d1 : decide (a1 < 0) = false := decide_eq_false (by omega)
  have d2 : decide (a1 > (l0.length : Int)) = false := decide_eq_false (by omega)
  have d3 : decide ((l0.length : Int) < a1) = false := decide_eq_false (by omega)
  obtain ⟨K1, hK1⟩ := Ev.rounds (Right_ev (by decide) hsm)
  dsimp only at hK1
  rw [hv] at hK1
  have HR := Aside0.mk (fun (W : World) (h : Kd.C k34 W A2_2 l2_2.length l2_2) => camletref17_Right.calls K1 a2_0 a2_1 A2_2 c2_2 l2_2 _ W h hc2_2 hK1)
  clear hK1
  clear hv
  clear hr0 hr2_2 hc2_2 hsm
  go_enter Try.func15, Try.ntmps15
  go_wp2_with (first | ((with_reducible refine gate_dst (N := 5) rfl ?_); refine aw_box rfl rfl rfl HA ?_; clear HA; intro gx W_ HA; simp only [Act.put, List.setIfInBounds_toArray, List.set_cons_succ, List.set_cons_zero]) | (go_at_call 31; refine (HR.out _ (HA.1.reads HC.out)).mono ?_; rintro e W_ ⟨rfl, hb_⟩; replace HA := HA.call hb_; clear hb_) | ((with_reducible refine gate_ld rfl ?_); (first | refine aw_loadW 0 (t := 34) rfl rfl HA rfl rfl ?_ ?_ | refine aw_loadW 1 (t := 34) rfl rfl HA rfl rfl ?_ ?_); kernel_rfl; simp only [Act.put, List.setIfInBounds_toArray, List.set_cons_succ, List.set_cons_zero]))
  (try simp only [Exit.inBlock, Exit.then])
  refine bodyPost_ret (results_list (rs := [.tmp 6, .tmp 7, .tmp 8, .tmp 9]) rfl (by simp) (.tmp (.tmp (.tmp (.tmp .nil))))) rfl ?_
  rw [HP.out]
  exact ⟨_, rfl, Kd.R_nil _ _ _ _ _, HA.below⟩
set_option maxHeartbeats 8000000 in
set_option maxRecDepth 100000 in
theorem rPut.nomay (A0 : Option Addr) (c0 : Nat) (l0 : List Int) (a1 : Int) (a2_0 : Int) (a2_1 : Int) (A2_2 : Option Addr) (c2_2 : Nat) (l2_2 : List S34) (w : World) (hr0 : Kd.C (Kd.int .u32) w A0 l0.length l0) (hc0 : l0.length ≤ c0) (hr2_2 : Kd.C k34 w A2_2 l2_2.length l2_2) (hc2_2 : l2_2.length ≤ c2_2) (hm : l0.length ≤ 1000000) (hsm : smallV 131 (⟨a2_0, a2_1, l2_2⟩ : S34) = true) (h0 : 0 ≤ a1) (h1 : a1 ≤ (l0.length : Int)) (hv : valR 100 (⟨a2_0, a2_1, l2_2⟩ : S34) = true) (hy : mayM 100 (⟨a2_0, a2_1, l2_2⟩ : S34) = false) :
    Calls Try.prog 15 #[.slice A0 l0.length c0, .int .i64 a1, .agg #[.int .i64 a2_0, .int .i64 a2_1, .slice A2_2 l2_2.length c2_2]] w fun e w' => ∃ v0_ : Value, e = .returned (.tuple #[v0_, .int .u32 0, .int .i64 0, .int .i64 1]) ∧ Kd.R (Kd.int .u32) 22 w' w.heap.size (fun _ => True) v0_ [] ∧ Below w.heap.size w w' := by
  obtain ⟨P, HP⟩ : ∃ P : Ending → World → Prop, Aside0 (P = fun e w' => ∃ v0_ : Value, e = .returned (.tuple #[v0_, .int .u32 0, .int .i64 0, .int .i64 1]) ∧ Kd.R (Kd.int .u32) 22 w' w.heap.size (fun _ => True) v0_ [] ∧ Below w.heap.size w w') := ⟨_, ⟨rfl⟩⟩
  rw [← HP.out]
  have HA := Aw.start noS w
  have HR0 := Aside0.mk hr0
  have HC := Aside0.mk hr2_2
  have d1 : decide (a1 < 0) = false := decide_eq_false (by omega)
  have d2 : decide (a1 > (l0.length : Int)) = false := decide_eq_false (by omega)
  have d3 : decide ((l0.length : Int) < a1) = false := decide_eq_false (by omega)
  obtain ⟨K1, hK1⟩ := Ev.rounds (Right_ev (by decide) hsm)
  dsimp only at hK1
  rw [hv] at hK1
  have HR := Aside0.mk (fun (W : World) (h : Kd.C k34 W A2_2 l2_2.length l2_2) => camletref17_Right.calls K1 a2_0 a2_1 A2_2 c2_2 l2_2 _ W h hc2_2 hK1)
  clear hK1
  obtain ⟨K2, hK2⟩ := Ev.rounds (fits_ev 100 (⟨a2_0, a2_1, l2_2⟩ : S34) hv)
  dsimp only at hK2
  rw [hy] at hK2
  have HM := Aside0.mk (fun (W : World) (h : Kd.C k34 W A2_2 l2_2.length l2_2) => camletref41_fits.calls K2 a2_0 a2_1 A2_2 c2_2 l2_2 _ W h hc2_2 hK2)
  clear hK2
  clear hv hy
  clear hr0 hr2_2 hc2_2 hsm
  go_enter Try.func15, Try.ntmps15
  go_wp2_with (first | ((with_reducible refine gate_dst (N := 5) rfl ?_); refine aw_box rfl rfl rfl HA ?_; clear HA; intro gx W_ HA; simp only [Act.put, List.setIfInBounds_toArray, List.set_cons_succ, List.set_cons_zero]) | (go_at_call 31; refine (HR.out _ (HA.1.reads HC.out)).mono ?_; rintro e W_ ⟨rfl, hb_⟩; replace HA := HA.call hb_; clear hb_) | (go_at_call 32; refine (HM.out _ (HA.1.reads HC.out)).mono ?_; rintro e W_ ⟨rfl, hb_⟩; replace HA := HA.call hb_; clear hb_) | ((with_reducible refine gate_ld rfl ?_); (first | refine aw_loadW 0 (t := 34) rfl rfl HA rfl rfl ?_ ?_ | refine aw_loadW 1 (t := 34) rfl rfl HA rfl rfl ?_ ?_); kernel_rfl; simp only [Act.put, List.setIfInBounds_toArray, List.set_cons_succ, List.set_cons_zero]))
  (try simp only [Exit.inBlock, Exit.then])
  refine bodyPost_ret (results_list (rs := [.tmp 6, .tmp 7, .tmp 8, .tmp 9]) rfl (by simp) (.tmp (.tmp (.tmp (.tmp .nil))))) rfl ?_
  rw [HP.out]
  exact ⟨_, rfl, Kd.R_nil _ _ _ _ _, HA.below⟩
set_option maxHeartbeats 8000000 in
set_option maxRecDepth 100000 in
theorem rPut.full (A0 : Option Addr) (c0 : Nat) (l0 : List Int) (a1 : Int) (a2_0 : Int) (a2_1 : Int) (A2_2 : Option Addr) (c2_2 : Nat) (l2_2 : List S34) (w : World) (hr0 : Kd.C (Kd.int .u32) w A0 l0.length l0) (hc0 : l0.length ≤ c0) (hr2_2 : Kd.C k34 w A2_2 l2_2.length l2_2) (hc2_2 : l2_2.length ≤ c2_2) (hm : l0.length ≤ 1000000) (hsm : smallV 131 (⟨a2_0, a2_1, l2_2⟩ : S34) = true) (h0 : 0 ≤ a1) (h1 : a1 ≤ (l0.length : Int)) (hv : valR 100 (⟨a2_0, a2_1, l2_2⟩ : S34) = true) (hy : mayM 100 (⟨a2_0, a2_1, l2_2⟩ : S34) = true) (hwb : wordsV 100 (⟨a2_0, a2_1, l2_2⟩ : S34) ≤ 1000000000) (hgt : wordsV 100 (⟨a2_0, a2_1, l2_2⟩ : S34) > (l0.length : Int) - a1) :
    Calls Try.prog 15 #[.slice A0 l0.length c0, .int .i64 a1, .agg #[.int .i64 a2_0, .int .i64 a2_1, .slice A2_2 l2_2.length c2_2]] w fun e w' => ∃ v0_ : Value, e = .returned (.tuple #[v0_, .int .u32 0, .int .i64 0, .int .i64 6]) ∧ Kd.R (Kd.int .u32) 22 w' w.heap.size (fun _ => True) v0_ [] ∧ Below w.heap.size w w' := by
  obtain ⟨P, HP⟩ : ∃ P : Ending → World → Prop, Aside0 (P = fun e w' => ∃ v0_ : Value, e = .returned (.tuple #[v0_, .int .u32 0, .int .i64 0, .int .i64 6]) ∧ Kd.R (Kd.int .u32) 22 w' w.heap.size (fun _ => True) v0_ [] ∧ Below w.heap.size w w') := ⟨_, ⟨rfl⟩⟩
  rw [← HP.out]
  have HA := Aw.start noS w
  have HR0 := Aside0.mk hr0
  have HC := Aside0.mk hr2_2
  have d1 : decide (a1 < 0) = false := decide_eq_false (by omega)
  have d2 : decide (a1 > (l0.length : Int)) = false := decide_eq_false (by omega)
  have d3 : decide ((l0.length : Int) < a1) = false := decide_eq_false (by omega)
  obtain ⟨K1, hK1⟩ := Ev.rounds (Right_ev (by decide) hsm)
  dsimp only at hK1
  rw [hv] at hK1
  have HR := Aside0.mk (fun (W : World) (h : Kd.C k34 W A2_2 l2_2.length l2_2) => camletref17_Right.calls K1 a2_0 a2_1 A2_2 c2_2 l2_2 _ W h hc2_2 hK1)
  clear hK1
  obtain ⟨K2, hK2⟩ := Ev.rounds (fits_ev 100 (⟨a2_0, a2_1, l2_2⟩ : S34) hv)
  dsimp only at hK2
  rw [hy] at hK2
  have HM := Aside0.mk (fun (W : World) (h : Kd.C k34 W A2_2 l2_2.length l2_2) => camletref41_fits.calls K2 a2_0 a2_1 A2_2 c2_2 l2_2 _ W h hc2_2 hK2)
  clear hK2
  obtain ⟨K, hK⟩ := Ev.rounds (Words_ev 100 (⟨a2_0, a2_1, l2_2⟩ : S34) hv hwb)
  dsimp only at hK
  have hw00 := wordsV_nn 100 (⟨a2_0, a2_1, l2_2⟩ : S34)
  obtain ⟨wd, hwd⟩ : ∃ y, wordsV 100 (⟨a2_0, a2_1, l2_2⟩ : S34) = y := ⟨_, rfl⟩
  rw [hwd] at hK hgt hwb hw00
  have w1 : IntKind.i64.wrap (a1 + wd) = a1 + wd := IntWalk.i64_in _ (by omega)
  have HW := Aside0.mk (fun (W : World) (h : Kd.C k34 W A2_2 l2_2.length l2_2) => camletref41_Words.calls K a2_0 a2_1 A2_2 c2_2 l2_2 wd W h hc2_2 hK)
  have d5 : decide (a1 + wd > (l0.length : Int)) = true := decide_eq_true (by omega)
  have d6 : decide ((l0.length : Int) < a1 + wd) = true := decide_eq_true (by omega)
  clear hv hy hwd hK
  clear hr0 hr2_2 hc2_2 hsm
  go_enter Try.func15, Try.ntmps15
  go_wp2_with (first | ((with_reducible refine gate_dst (N := 5) rfl ?_); refine aw_box rfl rfl rfl HA ?_; clear HA; intro gx W_ HA; simp only [Act.put, List.setIfInBounds_toArray, List.set_cons_succ, List.set_cons_zero]) | (go_at_call 31; refine (HR.out _ (HA.1.reads HC.out)).mono ?_; rintro e W_ ⟨rfl, hb_⟩; replace HA := HA.call hb_; clear hb_) | (go_at_call 32; refine (HM.out _ (HA.1.reads HC.out)).mono ?_; rintro e W_ ⟨rfl, hb_⟩; replace HA := HA.call hb_; clear hb_) | (go_at_call 33; refine (HW.out _ (HA.1.reads HC.out)).mono ?_; rintro e W_ ⟨rfl, hb_⟩; replace HA := HA.call hb_; clear hb_) | ((with_reducible refine gate_ld rfl ?_); (first | refine aw_loadW 0 (t := 34) rfl rfl HA rfl rfl ?_ ?_ | refine aw_loadW 1 (t := 34) rfl rfl HA rfl rfl ?_ ?_); kernel_rfl; simp only [Act.put, List.setIfInBounds_toArray, List.set_cons_succ, List.set_cons_zero]))
  (try simp only [Exit.inBlock, Exit.then])
  refine bodyPost_ret (results_list (rs := [.tmp 6, .tmp 7, .tmp 8, .tmp 9]) rfl (by simp) (.tmp (.tmp (.tmp (.tmp .nil))))) rfl ?_
  rw [HP.out]
  exact ⟨_, rfl, Kd.R_nil _ _ _ _ _, HA.below⟩
set_option maxHeartbeats 8000000 in
set_option maxRecDepth 100000 in
theorem rPut.good (A0 : Option Addr) (c0 : Nat) (l0 : List Int) (a1 : Int) (a2_0 : Int) (a2_1 : Int) (A2_2 : Option Addr) (c2_2 : Nat) (l2_2 : List S34) (w : World) (hr0 : Kd.C (Kd.int .u32) w A0 l0.length l0) (hc0 : l0.length ≤ c0) (hr2_2 : Kd.C k34 w A2_2 l2_2.length l2_2) (hc2_2 : l2_2.length ≤ c2_2) (hm : l0.length ≤ 1000000) (hsm : smallV 131 (⟨a2_0, a2_1, l2_2⟩ : S34) = true) (h0 : 0 ≤ a1) (h1 : a1 ≤ (l0.length : Int)) (hv : valR 100 (⟨a2_0, a2_1, l2_2⟩ : S34) = true) (hy : mayM 100 (⟨a2_0, a2_1, l2_2⟩ : S34) = true) (hwb : wordsV 100 (⟨a2_0, a2_1, l2_2⟩ : S34) ≤ 1000000000) (hgt : ¬ wordsV 100 (⟨a2_0, a2_1, l2_2⟩ : S34) > (l0.length : Int) - a1) :
    Calls Try.prog 15 #[.slice A0 l0.length c0, .int .i64 a1, .agg #[.int .i64 a2_0, .int .i64 a2_1, .slice A2_2 l2_2.length c2_2]] w fun e w' => ∃ v0_ : Value, e = .returned (.tuple #[v0_, .int .u32 (layV 100 (⟨a2_0, a2_1, l2_2⟩ : S34) (l0, a1)).1, .int .i64 (layV 100 (⟨a2_0, a2_1, l2_2⟩ : S34) (l0, a1)).2.2, .int .i64 0]) ∧ Kd.R (Kd.int .u32) 22 w' w.heap.size (fun _ => True) v0_ (layV 100 (⟨a2_0, a2_1, l2_2⟩ : S34) (l0, a1)).2.1 ∧ Below w.heap.size w w' := by
  obtain ⟨P, HP⟩ : ∃ P : Ending → World → Prop, Aside0 (P = fun e w' => ∃ v0_ : Value, e = .returned (.tuple #[v0_, .int .u32 (layV 100 (⟨a2_0, a2_1, l2_2⟩ : S34) (l0, a1)).1, .int .i64 (layV 100 (⟨a2_0, a2_1, l2_2⟩ : S34) (l0, a1)).2.2, .int .i64 0]) ∧ Kd.R (Kd.int .u32) 22 w' w.heap.size (fun _ => True) v0_ (layV 100 (⟨a2_0, a2_1, l2_2⟩ : S34) (l0, a1)).2.1 ∧ Below w.heap.size w w') := ⟨_, ⟨rfl⟩⟩
  rw [← HP.out]
  have HA := Aw.start noS w
  have HR0 := Aside0.mk hr0
  have HC := Aside0.mk hr2_2
  have d1 : decide (a1 < 0) = false := decide_eq_false (by omega)
  have d2 : decide (a1 > (l0.length : Int)) = false := decide_eq_false (by omega)
  have d3 : decide ((l0.length : Int) < a1) = false := decide_eq_false (by omega)
  obtain ⟨K1, hK1⟩ := Ev.rounds (Right_ev (by decide) hsm)
  dsimp only at hK1
  rw [hv] at hK1
  have HR := Aside0.mk (fun (W : World) (h : Kd.C k34 W A2_2 l2_2.length l2_2) => camletref17_Right.calls K1 a2_0 a2_1 A2_2 c2_2 l2_2 _ W h hc2_2 hK1)
  clear hK1
  obtain ⟨K2, hK2⟩ := Ev.rounds (fits_ev 100 (⟨a2_0, a2_1, l2_2⟩ : S34) hv)
  dsimp only at hK2
  rw [hy] at hK2
  have HM := Aside0.mk (fun (W : World) (h : Kd.C k34 W A2_2 l2_2.length l2_2) => camletref41_fits.calls K2 a2_0 a2_1 A2_2 c2_2 l2_2 _ W h hc2_2 hK2)
  clear hK2
  obtain ⟨K, hK⟩ := Ev.rounds (Words_ev 100 (⟨a2_0, a2_1, l2_2⟩ : S34) hv hwb)
  dsimp only at hK
  have hw00 := wordsV_nn 100 (⟨a2_0, a2_1, l2_2⟩ : S34)
  obtain ⟨wd, hwd⟩ : ∃ y, wordsV 100 (⟨a2_0, a2_1, l2_2⟩ : S34) = y := ⟨_, rfl⟩
  rw [hwd] at hK hgt hwb hw00
  have w1 : IntKind.i64.wrap (a1 + wd) = a1 + wd := IntWalk.i64_in _ (by omega)
  have HW := Aside0.mk (fun (W : World) (h : Kd.C k34 W A2_2 l2_2.length l2_2) => camletref41_Words.calls K a2_0 a2_1 A2_2 c2_2 l2_2 wd W h hc2_2 hK)
  have hs : a1 + wordsV 100 (⟨a2_0, a2_1, l2_2⟩ : S34) ≤ l0.length := by rw [hwd]; omega
  have HL := Aside0.mk (fun (w1 W : World) (v9 : Value) (Lv R : List (Nat × Blk)) hC hown HA => rLay.own (w := w1) (W := W) (v9 := v9) (Lv := Lv) (R := R) (a := a1) (m := l0) (x := (⟨a2_0, a2_1, l2_2⟩ : S34)) (A := A2_2) (c := c2_2) hv hy h0 hm hs hC hown HA)
  dsimp only at HL
  obtain ⟨q, hq⟩ : ∃ y, layV 100 (⟨a2_0, a2_1, l2_2⟩ : S34) (l0, a1) = y := ⟨_, rfl⟩
  rw [hq] at HL
  have d5 : decide (a1 + wd > (l0.length : Int)) = false := decide_eq_false (by omega)
  have d6 : decide ((l0.length : Int) < a1 + wd) = false := decide_eq_false (by omega)
  have hap1 : 0 + l0.length ≤ maxLen := by unfold maxLen; omega
  have hap2 : (0 + l0.length) * 4 ≤ 140737488355328 := by omega
  have HQ := Aside0.mk hq
  clear hv hy hwd hK hs hgt hq
  clear hr0 hr2_2 hc2_2 hsm
  go_enter Try.func15, Try.ntmps15
  go_wp2_with (first | ((with_reducible refine gate_dst (N := 5) rfl ?_); refine aw_box rfl rfl rfl HA ?_; clear HA; intro gx W_ HA; simp only [Act.put, List.setIfInBounds_toArray, List.set_cons_succ, List.set_cons_zero]) | (go_at_call 31; refine (HR.out _ (HA.1.reads HC.out)).mono ?_; rintro e W_ ⟨rfl, hb_⟩; replace HA := HA.call hb_; clear hb_) | (go_at_call 32; refine (HM.out _ (HA.1.reads HC.out)).mono ?_; rintro e W_ ⟨rfl, hb_⟩; replace HA := HA.call hb_; clear hb_) | (go_at_call 33; refine (HW.out _ (HA.1.reads HC.out)).mono ?_; rintro e W_ ⟨rfl, hb_⟩; replace HA := HA.call hb_; clear hb_) | ((with_reducible refine gate_dst (N := 38) rfl ?_); refine aw_append_any 1 rfl Try.underlying30 rp_info rfl (Nat.le_refl 1) rfl (Own.nil _ _) rfl rfl HA (news := l0.map (Value.int .u32)) rfl (by simp) (Kd.C_cells (HA.1.reads HR0.out)) (ints_one _) hap1 hap2 ?_; clear HA; intro v9 W_ Lv hown HA; dsimp only [List.take, List.cons_append, List.nil_append] at HA; rw [Nat.zero_add, List.nil_append] at hown; obtain ⟨A9, c9, rfl⟩ := own_form hown; have HO := Aside0.mk hown; clear hown; simp only [Act.put, List.setIfInBounds_toArray, List.set_cons_succ, List.set_cons_zero]) | (go_at_call 34; refine (HL.out _ _ (.slice A9 l0.length c9) Lv [(gx, .c 34 [.int .i64 a2_0, .int .i64 a2_1, .slice A2_2 l2_2.length c2_2])] HC.out HO.out HA).mono ?_; clear HA; rintro e W_ ⟨rfl, Lv', hown', HA⟩; have HO' := Aside0.mk hown'; clear hown') | ((with_reducible refine gate_ld rfl ?_); (first | refine aw_loadW 0 (t := 34) rfl rfl HA rfl rfl ?_ ?_ | refine aw_loadW 1 (t := 34) rfl rfl HA rfl rfl ?_ ?_); kernel_rfl; simp only [Act.put, List.setIfInBounds_toArray, List.set_cons_succ, List.set_cons_zero]))
  (try simp only [Exit.inBlock, Exit.then])
  refine bodyPost_ret (results_list (rs := [.tmp 6, .tmp 7, .tmp 8, .tmp 9]) rfl (by simp) (.tmp (.tmp (.tmp (.tmp .nil))))) rfl ?_
  rw [HP.out, HQ.out]
  exact ⟨_, rfl, HO'.out.kdR HA (fun y hy => hy) (fun _ _ => trivial), HA.below⟩
theorem camletref41_Put.calls (k : Nat) (A0 : Option Addr) (c0 : Nat) (l0 : List Int) (a1 : Int) (a2_0 : Int) (a2_1 : Int) (A2_2 : Option Addr) (c2_2 : Nat) (l2_2 : List S34) (r1 : List Int) (r2 : Int) (r3 : Int) (r4 : Int) (w : World) (hr0 : Kd.C (Kd.int .u32) w A0 l0.length l0) (hc0 : l0.length ≤ c0) (hr2_2 : Kd.C k34 w A2_2 l2_2.length l2_2) (hc2_2 : l2_2.length ≤ c2_2) (h : camletref41_Put.f k l0 a1 a2_0 a2_1 l2_2 = some (r1, r2, r3, r4)) :
    Calls Try.prog 15 #[.slice A0 l0.length c0, .int .i64 a1, .agg #[.int .i64 a2_0, .int .i64 a2_1, .slice A2_2 l2_2.length c2_2]] w fun e w' => ∃ v0_ : Value, e = .returned (.tuple #[v0_, .int .u32 r2, .int .i64 r3, .int .i64 r4]) ∧ Kd.R (Kd.int .u32) 22 w' w.heap.size (fun _ => True) v0_ r1 ∧ Below w.heap.size w w' := by
  unfold camletref41_Put.f at h
  split at h
  rotate_left
  · cases h
  rename_i hsm
  unfold heap_Put.f at h
  split at h
  · rename_i hm
    split at h
    · rename_i hb
      simp only [Option.some.injEq, Prod.mk.injEq] at h
      obtain ⟨rfl, rfl, rfl, rfl⟩ := h
      by_cases h0 : a1 < 0
      · exact rPut.bad1 A0 c0 l0 a1 a2_0 a2_1 A2_2 c2_2 l2_2 w hr0 hc0 hr2_2 hc2_2 hm hsm h0
      · exact rPut.bad2 A0 c0 l0 a1 a2_0 a2_1 A2_2 c2_2 l2_2 w hr0 hc0 hr2_2 hc2_2 hm hsm (by omega) (by omega)
    · split at h
      · rename_i hb hv
        simp only [Option.some.injEq, Prod.mk.injEq] at h
        obtain ⟨rfl, rfl, rfl, rfl⟩ := h
        rcases hq : valR 100 (⟨a2_0, a2_1, l2_2⟩ : S34) with _ | _
        · exact rPut.noval A0 c0 l0 a1 a2_0 a2_1 A2_2 c2_2 l2_2 w hr0 hc0 hr2_2 hc2_2 hm hsm (by omega) (by omega) hq
        · exact rPut.nomay A0 c0 l0 a1 a2_0 a2_1 A2_2 c2_2 l2_2 w hr0 hc0 hr2_2 hc2_2 hm hsm (by omega) (by omega) hq (hv.resolve_left (by rw [hq]; simp))
      · rename_i hb hv
        have hv1 : valR 100 (⟨a2_0, a2_1, l2_2⟩ : S34) = true := by rcases hq : valR 100 (⟨a2_0, a2_1, l2_2⟩ : S34) with _ | _; exact absurd (.inl hq) hv; rfl
        have hv2 : mayM 100 (⟨a2_0, a2_1, l2_2⟩ : S34) = true := by rcases hq : mayM 100 (⟨a2_0, a2_1, l2_2⟩ : S34) with _ | _; exact absurd (.inr hq) hv; rfl
        split at h
        · rename_i hwb
          split at h
          · rename_i hg
            simp only [Option.some.injEq, Prod.mk.injEq] at h
            obtain ⟨rfl, rfl, rfl, rfl⟩ := h
            exact rPut.full A0 c0 l0 a1 a2_0 a2_1 A2_2 c2_2 l2_2 w hr0 hc0 hr2_2 hc2_2 hm hsm (by omega) (by omega) hv1 hv2 hwb hg
          · rename_i hg
            simp only [Option.some.injEq, Prod.mk.injEq] at h
            obtain ⟨rfl, rfl, rfl, rfl⟩ := h
            exact rPut.good A0 c0 l0 a1 a2_0 a2_1 A2_2 c2_2 l2_2 w hr0 hc0 hr2_2 hc2_2 hm hsm (by omega) (by omega) hv1 hv2 hwb hg
        · cases h
  · cases h
end Go.Proofs.Ytaddjeegplfjiaa.Q
