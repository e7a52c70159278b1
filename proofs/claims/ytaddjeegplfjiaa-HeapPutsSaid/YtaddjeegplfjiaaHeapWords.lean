/- heap.words by lists: what it computes of a value that is right. -/
import Derived.Test.YtaddjeegplfjiaaQx0
import Derived.Test.YtaddjeegplfjiaaQx3
import Derived.Test.YtaddjeegplfjiaaEvW
import Derived.Test.YtaddjeegplfjiaaHeapPlain
import Derived.Test.YtaddjeegplfjiaaHheapMay
import Derived.Test.YtaddjeegplfjiaaHvalR
import Derived.Test.YtaddjeegplfjiaaLayM
--@needs XLayM
--@needs XHheapMay
--@needs XHeapPlain
--@needs XEvW
--@uses camlet/heap.words
namespace Go.Proofs.Ytaddjeegplfjiaa.Q
open Go.RowKit Go.Proofs.YtaddjeegplfjiaaW.PrintWords Go.Proofs.YtaddjeegplfjiaaW.PrintLast Go.Proofs.YtaddjeegplfjiaaW.PrintMore
attribute [local go_sem] max2_int min2_int max_two min_two max_three min_three max_four min_four   -- for this text's walks alone
set_option linter.unusedVariables false
set_option linter.unusedSimpArgs false

theorem rdT_drop {l : List S34} {i : Nat} (h : i < l.length) : l.drop i = rd_T34 l i :: l.drop (i + 1) := by
  unfold rd_T34
  rw [List.drop_eq_getElem_cons h, Int.toNat_natCast, List.getD_eq_getElem?_getD, List.getElem?_eq_getElem h]
  rfl
theorem rdT_mem {l : List S34} {i : Nat} (h : i < l.length) : rd_T34 l i ∈ l := by
  unfold rd_T34
  rw [Int.toNat_natCast, List.getD_eq_getElem?_getD, List.getElem?_eq_getElem h]
  exact List.getElem_mem h
theorem words_l0 {d : Nat} (l : List S34) (hl : l.length ≤ 1000) (ih : ∀ y ∈ l, wordsV d y ≤ 1000000000 → Ev (fun k => heap_words.f k y.f0 y.f1 y.f2) (wordsV d y)) (e : Nat) : ∀ (i : Nat) (s : Int), i + e = l.length → 0 ≤ s → s + ((l.drop i).map (wordsV d)).sum ≤ 1000000000 →
    Ev (fun k => heap_words.l0 k s l (l.length : Int) (i : Int)) (s + ((l.drop i).map (wordsV d)).sum) := by
  induction e with
  | zero =>
    intro i s hi h0 hs
    rw [List.drop_eq_nil_of_le (by omega)]
    refine Ev.some 1 (fun k => ?_)
    rw [heap_words.l0, if_neg (by omega)]
    simp
  | succ e ihe =>
    intro i s hi h0 hs
    rw [rdT_drop (by omega), List.map_cons, List.sum_cons] at hs ⊢
    have h1 := wordsV_nn d (rd_T34 l i)
    have h2 := wordsV_sum d (l.drop (i + 1))
    refine Ev.step (fun k => by rw [heap_words.l0, if_pos (by omega), if_pos (by omega), if_pos (by omega)]) ?_
    refine Ev.bind (ih _ (rdT_mem (by omega)) (by omega)) ?_
    have hn := ihe (i + 1) (s + wordsV d (rd_T34 l i)) (by omega) (by omega) (by omega)
    rw [wr64 (by omega), wr64 (by omega), show s + (wordsV d (rd_T34 l i) + ((l.drop (i + 1)).map (wordsV d)).sum) = s + wordsV d (rd_T34 l i) + ((l.drop (i + 1)).map (wordsV d)).sum by omega]
    exact hn
theorem words_ev : ∀ (d : Nat) (x : S34), valR d x = true → wordsV d x ≤ 1000000000 → Ev (fun k => heap_words.f k x.f0 x.f1 x.f2) (wordsV d x) := by
  intro d
  induction d with
  | zero => intro x hv; simp [valR] at hv
  | succ d ih =>
    intro x hv hs
    have hlen := valR_len hv
    by_cases h1 : x.f0 = 1
    · refine Ev.some 1 (fun k => ?_)
      rw [heap_words.f, if_pos h1, wordsV, if_pos h1]
    · have hk := fun y hy h => ih y (valR_kid hv y hy) h
      have h2 := wordsV_sum d x.f2
      by_cases h3 : x.f0 = 3
      · rw [wordsV_clo h3] at hs ⊢
        refine Ev.step (fun k => by rw [heap_words.f, if_neg h1, if_pos h3]) ?_
        refine Ev.step (fun k => by rw [heap_words.j0]) ?_
        rw [wr64 (n := 1 + (x.f2.length : Int)) (by omega), wr64 (by omega)]
        have := words_l0 x.f2 (by omega) hk x.f2.length 0 (1 + (x.f2.length : Int) + 1) (by omega) (by omega) (by rw [List.drop_zero]; omega)
        rw [List.drop_zero, show 1 + (x.f2.length : Int) + 1 + (x.f2.map (wordsV d)).sum = 2 + (x.f2.length : Int) + (x.f2.map (wordsV d)).sum by omega] at this
        exact this
      · rw [wordsV_blk h1 h3] at hs ⊢
        refine Ev.step (fun k => by rw [heap_words.f, if_neg h1, if_neg h3]) ?_
        refine Ev.step (fun k => by rw [heap_words.j0]) ?_
        rw [wr64 (n := 1 + (x.f2.length : Int)) (by omega)]
        have := words_l0 x.f2 (by omega) hk x.f2.length 0 (1 + (x.f2.length : Int)) (by omega) (by omega) (by rw [List.drop_zero]; omega)
        rw [List.drop_zero] at this
        exact this
end Go.Proofs.Ytaddjeegplfjiaa.Q
