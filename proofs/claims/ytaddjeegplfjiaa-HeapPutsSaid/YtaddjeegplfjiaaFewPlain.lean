/- A value of few parts, by the reference's count. -/
import Derived.Test.YtaddjeegplfjiaaQx0
import Derived.Test.YtaddjeegplfjiaaQx5
import Derived.Test.YtaddjeegplfjiaaEvW
import Derived.Test.YtaddjeegplfjiaaHeapPlain
import Derived.Test.YtaddjeegplfjiaaLayM
import Derived.Test.YtaddjeegplfjiaaHrefAll
--@needs XRefPutPlain
--@uses camlet/camletref16.FewValue
namespace Go.Proofs.Ytaddjeegplfjiaa.Q
open Go.RowKit Go.Proofs.YtaddjeegplfjiaaW.PrintWords Go.Proofs.YtaddjeegplfjiaaW.PrintLast Go.Proofs.YtaddjeegplfjiaaW.PrintMore
attribute [local go_sem] max2_int min2_int max_two min_two max_three min_three max_four min_four   -- for this text's walks alone
set_option linter.unusedVariables false
set_option linter.unusedSimpArgs false

def loopM (f : SV → Int → Int) : List SV → Int → Int
  | [], left => left
  | y :: r, left => if f y left < 0 then -1 else loopM f r (f y left)
def valM : Nat → SV → Int → Int
  | 0, _, _ => -1
  | n + 1, x, left => if left - 1 < 0 then -1 else loopM (valM n) x.f2 (left - 1)
theorem loopM_le {f : SV → Int → Int} (hf : ∀ y a, 0 ≤ a → f y a ≤ a - 1) : ∀ (l : List SV) (a : Int), 0 ≤ a → loopM f l a ≤ a ∧ (0 ≤ loopM f l a → loopM f l a + l.length ≤ a)
  | [], a, h => by simp [loopM]
  | y :: r, a, h => by
    rw [loopM]
    split
    · exact ⟨by omega, fun h => by omega⟩
    · have h1 := hf y a h
      have h2 := loopM_le hf r (f y a) (by omega)
      rw [List.length_cons]
      exact ⟨by omega, fun h3 => by have := h2.2 h3; omega⟩
theorem valM_le : ∀ (n : Nat) (x : SV) (a : Int), 0 ≤ a → valM n x a ≤ a - 1
  | 0, _, a, h => by rw [valM]; omega
  | n + 1, x, a, h => by
    rw [valM]
    split
    · omega
    · exact (loopM_le (valM_le n) x.f2 (a - 1) (by omega)).1
theorem loopM_small {n : Nat} (hs : ∀ (x : SV) (a : Int), 0 ≤ a → a ≤ 1000 → 0 ≤ valM n x a → smallV n x = true) : ∀ (l : List SV) (a : Int), 0 ≤ a → a ≤ 1000 → 0 ≤ loopM (valM n) l a → ∀ y ∈ l, smallV n y = true
  | [], a, _, _, _ => fun y hy => by simp at hy
  | z :: r, a, h0, h1, h => fun y hy => by
    rw [loopM] at h
    split at h
    · omega
    · rename_i hz
      have hl := valM_le n z a h0
      rcases List.mem_cons.1 hy with rfl | hy
      · exact hs y a h0 h1 (by omega)
      · exact loopM_small hs r _ (by omega) (by omega) h y hy
theorem valM_small : ∀ (n : Nat) (x : SV) (a : Int), 0 ≤ a → a ≤ 1000 → 0 ≤ valM n x a → smallV n x = true
  | 0, x, a, _, _, h => by rw [valM] at h; omega
  | n + 1, x, a, h0, h1, h => by
    rw [valM] at h
    split at h
    · omega
    · have h2 := (loopM_le (valM_le n) x.f2 (a - 1) (by omega)).2 h
      have h3 := loopM_small (valM_small n) x.f2 (a - 1) (by omega) (by omega) h
      rw [smallV, decide_eq_true (by omega), Bool.true_and]
      exact List.all_eq_true.2 h3
theorem loopM_words {n : Nat} (hs : ∀ (x : SV) (a : Int), 0 ≤ a → 0 ≤ valM n x a → ∀ d, wordsV d x ≤ 3 * (a - valM n x a) - 1) (d : Nat) : ∀ (l : List SV) (a : Int), 0 ≤ a → 0 ≤ loopM (valM n) l a → (l.map (wordsV d)).sum ≤ 3 * (a - loopM (valM n) l a) - l.length
  | [], a, _, _ => by simp [loopM]
  | z :: r, a, h0, h => by
    rw [loopM] at h ⊢
    split at h
    · omega
    · rename_i hz
      rw [if_neg hz, List.map_cons, List.sum_cons, List.length_cons]
      have h1 := hs z a h0 (by omega) d
      have h2 := loopM_words hs d r (valM n z a) (by omega) h
      push_cast
      omega
theorem valM_words : ∀ (n : Nat) (x : SV) (a : Int), 0 ≤ a → 0 ≤ valM n x a → ∀ d, wordsV d x ≤ 3 * (a - valM n x a) - 1
  | 0, x, a, _, h => by rw [valM] at h; omega
  | n + 1, x, a, h0, h => fun d => by
    have hle := valM_le (n + 1) x a h0
    rw [valM] at h hle ⊢
    split at h
    · omega
    · rename_i hz
      rw [if_neg hz] at hle ⊢
      cases d with
      | zero => rw [wordsV]; omega
      | succ d =>
        have h2 := loopM_words (valM_words n) d x.f2 (a - 1) (by omega) h
        by_cases k1 : x.f0 = 1
        · rw [wordsV, if_pos k1]; omega
        · by_cases k3 : x.f0 = 3
          · rw [wordsV_clo k3]; omega
          · rw [wordsV_blk k1 k3]; omega
theorem few_ev : ∀ (n : Nat) (x : SV) (left dp : Int), (n : Int) + dp = 131 → 0 ≤ dp → 0 ≤ left → left ≤ 100000 → Ev (fun k => camletref16_value.f k x.f0 x.f1 x.f2 left dp) (valM n x left)
  | 0, x, left, dp, hn, hd, h0, h1 => by
    have hj : Ev (fun k => camletref16_value.j0 k (left - 1) dp true x.f0 x.f1 x.f2) (-1) := Ev.some 1 (fun k => by rw [camletref16_value.j0, if_pos rfl])
    rw [valM]
    by_cases h : left - 1 < 0
    · exact Ev.step (fun k => by rw [camletref16_value.f, wr64 (n := left - 1) (by omega), if_pos h]) hj
    · exact Ev.step (fun k => by rw [camletref16_value.f, wr64 (n := left - 1) (by omega), if_neg h, decide_eq_true (show dp > 130 by omega)]) hj
  | n + 1, x, left, dp, hn, hd, h0, h1 => by
    rw [valM]
    by_cases h : left - 1 < 0
    · rw [if_pos h]
      exact Ev.step (fun k => by rw [camletref16_value.f, wr64 (n := left - 1) (by omega), if_pos h]) (Ev.some 1 (fun k => by rw [camletref16_value.j0, if_pos rfl]))
    · rw [if_neg h]
      refine Ev.step (fun k => by rw [camletref16_value.f, wr64 (n := left - 1) (by omega), if_neg h, decide_eq_false (show ¬ dp > 130 by omega)]) ?_
      refine Ev.step (fun k => by rw [camletref16_value.j0, if_neg (by decide)]) ?_
      have go : ∀ (r : List SV) (i : Nat) (a : Int), x.f2.drop i = r → 0 ≤ a → (i : Int) + a ≤ 200000 → a ≤ 100000 → Ev (fun k => camletref16_value.l0 k a dp (x.f2.length : Int) (i : Int) x.f0 x.f1 x.f2) (loopM (valM n) r a) := by
        intro r
        induction r with
        | nil =>
          intro i a hr ha hi ha1
          have := List.drop_eq_nil_iff.1 hr
          exact Ev.some 1 (fun k => by rw [camletref16_value.l0, if_neg (by omega)]; rfl)
        | cons y r ih =>
          intro i a hr ha hi ha1
          have hlt : i < x.f2.length := by
            rcases Nat.lt_or_ge i x.f2.length with h | h
            · exact h
            · rw [List.drop_eq_nil_of_le h] at hr; cases hr
          rw [rp_drop hlt] at hr
          injection hr with hr1 hr2
          rw [loopM]
          refine Ev.step (fun k => by rw [camletref16_value.l0, if_pos (by omega), if_pos (by omega), if_pos (by omega), hr1]) ?_
          rw [wr64 (n := dp + 1) (by omega), wr64 (n := (i : Int) + 1) (by omega)]
          refine Ev.bind (few_ev n y a (dp + 1) (by omega) (by omega) ha ha1) ?_
          have hle := valM_le n y a ha
          refine Ev.ite (fun h3 => ?_) (fun h3 => ?_)
          · rw [if_pos h3]; exact Ev.now _
          · rw [if_neg h3]
            exact ih (i + 1) (valM n y a) hr2 (by omega) (by omega) (by omega)
      exact go x.f2 0 (left - 1) (List.drop_zero ..) (by omega) (by omega) (by omega)
theorem FewValue_ev (x : SV) (a : Int) (h0 : 0 ≤ a) (h1 : a ≤ 1000) : Ev (fun k => camletref16_FewValue.f k x.f0 x.f1 x.f2 a) (decide (0 ≤ valM 131 x a)) :=
  Ev.bind (few_ev 131 x a 0 (by omega) (by omega) h0 (by omega)) (Ev.now _)
end Go.Proofs.Ytaddjeegplfjiaa.Q
