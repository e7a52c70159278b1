/- gc: collected back, what was there comes again. -/
import Derived.Test.YtnkbfbhhioemoaaQx0
import Derived.Test.YtnkbfbhhioemoaaQx16
import Derived.Test.YtnkbfbhhioemoaaGcAll
import Derived.Test.YtnkbfbhhioemoaaGcClosed
import Derived.Test.YtnkbfbhhioemoaaGcSim
import Derived.Test.YtnkbfbhhioemoaaGcSim2
import Derived.Test.YtnkbfbhhioemoaaHeapPlain
--@needs XGcClosed
namespace Go.Proofs.Ytnkbfbhhioemoaa.Q
open Go.RowKit Go.Proofs.YtnkbfbhhioemoaaW.PrintWords Go.Proofs.YtnkbfbhhioemoaaW.PrintLast Go.Proofs.YtnkbfbhhioemoaaW.PrintMore
attribute [local go_sem] max2_int min2_int max_two min_two max_three min_three max_four min_four   -- for this text's walks alone
set_option linter.unusedVariables false
set_option linter.unusedSimpArgs false

theorem gLocate (blk : Int → Int) : ∀ (l : List Int) (i : Int), (∀ b ∈ l, 0 ≤ blk b) → 0 ≤ i → i < gWords blk l → ∃ pre b post, l = pre ++ b :: post ∧ gWords blk pre ≤ i ∧ i < gWords blk pre + blk b
  | [], i, _, h0, h1 => by simp [gWords] at h1; omega
  | a :: r, i, hn, h0, h1 => by
    by_cases h : i < blk a
    · exact ⟨[], a, r, rfl, by simp [gWords]; omega, by simp [gWords]; omega⟩
    · rw [gWords] at h1
      obtain ⟨pre, b, post, e, e1, e2⟩ := gLocate blk r (i - blk a) (fun b hb => hn b (by simp [hb])) (by omega) (by omega)
      exact ⟨a :: pre, b, post, by rw [e]; rfl, by rw [gWords]; omega, by rw [gWords]; omega⟩
section
variable {m : List Int} {F T t : Int} {l : List Int} (H : GCop m F T t l)
include H
theorem GCop.words_sub {q : List Int} (h : ∀ b ∈ q, b ∈ l) : gWords (gBlk (gNew m F T t l) (gEnd m T t l)) (q.map (gPos m T t l)) = gWords (gBlk m T) q := by
  induction q with
  | nil => rfl
  | cons b r ih => rw [List.map_cons, gWords, gWords, H.new_blk (h b (by simp)), ih (fun c hc => h c (by simp [hc]))]
theorem GCop.chg_cases {x : Int} (hx : x % 2 = 1 ∨ (gLeads F T x = true ∧ x / 4 ∈ l)) : gChg m F T t l x % 2 = 1 ∨ (gLeads t (gEnd m T t l) (gChg m F T t l x) = true ∧ gChg m F T t l x % 4 = 0 ∧ gChg m F T t l x / 4 ∈ l.map (gPos m T t l)) := by
  rcases hx with hx | ⟨hx, hxl⟩
  · exact .inl (by rw [H.chg_odd hx]; exact hx)
  · refine .inr ⟨H.new_leads hx hxl, ?_, ?_⟩
    · rw [H.chg_leads hx]; omega
    · rw [H.chg_leads hx, show 4 * gPos m T t l (x / 4) / 4 = gPos m T t l (x / 4) by omega]
      exact List.mem_map_of_mem hxl
/-- all that was copied may be copied back -/
theorem GCop.again {roots : List Int} (hg : gReach m F T (gBlk m T) roots = some l) (hr : ∀ x ∈ roots, x % 2 = 1 ∨ (gLeads F T x = true ∧ x / 4 ∈ l)) (hw : gWords (gBlk m T) l ≤ T - F) : GCop (gNew m F T t l) t (gEnd m T t l) F (l.map (gPos m T t l)) := by
  have hnl := H.new_len
  have hw0 := gWords_nonneg H.inv.nonneg
  have ht0 := H.t0
  have ht1 := H.t1
  have hF := H.hF
  have hFT := H.hFT
  have hT := H.hT
  have hlen := H.len
  have hend : gEnd m T t l = t + gWords (gBlk m T) l := rfl
  have hsame := gReach_same H hg hr
  refine ⟨H.new_vals, by omega, ht0, by omega, by omega, hF, ?_, gReach_inv (gBlk_ok _ _ _) (by omega) (by omega) (by omega) hsame, ?_⟩
  · rw [gWords_same H]; omega
  · intro p hp x hx
    obtain ⟨b, hb, rfl⟩ := List.mem_map.1 hp
    rw [H.new_kids hb] at hx
    obtain ⟨y, hy, rfl⟩ := List.mem_map.1 hx
    rcases H.chg_cases (H.kids b hb y hy) with h | h
    · exact .inl h
    · exact .inr ⟨h.1, h.2.2⟩
theorem GCop.pos_back {b : Int} (hb : b ∈ l) : gPos (gNew m F T t l) (gEnd m T t l) F (l.map (gPos m T t l)) (gPos m T t l b) = gPos m T t l b - t + F := by
  obtain ⟨pre, post, e, hp, _⟩ := H.split hb
  have hn := H.inv.nodup
  have hpin : (l.map (gPos m T t l)).Nodup := by
    rw [List.Nodup, List.pairwise_map]
    exact hn.imp_of_mem (fun h1 h2 h3 h4 => h3 (H.pos_inj h1 h2 h4))
  have hm : gMoved (gBlk (gNew m F T t l) (gEnd m T t l)) F (l.map (gPos m T t l)) (gPos m T t l b) = some (F + gWords (gBlk m T) pre) := by
    have e2 : l.map (gPos m T t l) = pre.map (gPos m T t l) ++ gPos m T t l b :: post.map (gPos m T t l) := by
      have := congrArg (List.map (gPos m T t l)) e
      rw [List.map_append, List.map_cons] at this
      exact this
    rw [e2] at hpin ⊢
    rw [gMoved_pos hpin, H.words_sub (fun c hc => by rw [e]; simp [hc])]
  have hpb : gPos m T t l b = t + gWords (gBlk m T) pre := by
    show (gMoved (gBlk m T) t l b).getD 0 = _
    rw [hp]; rfl
  show (gMoved (gBlk (gNew m F T t l) (gEnd m T t l)) F (l.map (gPos m T t l)) (gPos m T t l b)).getD 0 = _
  rw [hm, hpb]
  show F + _ = _
  omega
/-- a word told back is the word that is collected back -/
theorem GCop.back_eq {y : Int} (hy0 : 0 ≤ y ∧ y < 4294967296) (hy : y % 2 = 1 ∨ (gLeads t (gEnd m T t l) y = true ∧ y % 4 = 0 ∧ y / 4 ∈ l.map (gPos m T t l))) :
    camletlaw42_back.f y t (gEnd m T t l) (wrap64 (4 * wrap64 (t - F))) = some (gChg (gNew m F T t l) t (gEnd m T t l) F (l.map (gPos m T t l)) y) := by
  have hw0 := gWords_nonneg H.inv.nonneg
  have ht0 := H.t0
  have ht1 := H.t1
  have hF := H.hF
  have hFT := H.hFT
  have hT := H.hT
  have hlen := H.len
  have hend : gEnd m T t l = t + gWords (gBlk m T) l := rfl
  unfold camletlaw42_back.f
  rw [Int.tmod_eq_emod_of_nonneg hy0.1, wr64 (n := y) (by omega), wr64 (n := t - F) (by omega), wr64 (n := 4 * (t - F)) (by omega), wr64 (n := 4 * t) (by omega), wr64 (n := 4 * gEnd m T t l) (by omega)]
  rcases hy with hy | ⟨hl, h4, hm⟩
  · rw [if_neg (by omega)]
    have : gLeads t (gEnd m T t l) y = false := by unfold gLeads; simp; omega
    show _ = some (gChange _ _ _ y)
    unfold gChange
    rw [if_neg (by rw [this]; decide)]
  · have hle := gLeads_true hl
    obtain ⟨b, hb, hbe⟩ := List.mem_map.1 hm
    have hpb := H.pos_back hb
    rw [hbe] at hpb
    have hs := H.pos_span hb
    have hmb := H.inv.mem b hb
    rw [hbe] at hs
    rw [if_pos hle.1, if_pos (by omega), if_pos (by omega)]
    show _ = some (gChange _ _ _ y)
    unfold gChange
    rw [if_pos hl]
    have hpb2 : (gMoved (gBlk (gNew m F T t l) (gEnd m T t l)) F (l.map (gPos m T t l)) (y / 4)).getD 0 = y / 4 - t + F := hpb
    rw [hpb2, wr64 (n := y - 4 * (t - F)) (by omega)]
    congr 1
    omega
theorem GCop.back_at {roots : List Int} (hg : gReach m F T (gBlk m T) roots = some l) (hr : ∀ x ∈ roots, x % 2 = 1 ∨ (gLeads F T x = true ∧ x / 4 ∈ l)) (hw : gWords (gBlk m T) l ≤ T - F) {i : Int} (h0 : 0 ≤ i) (h1 : i < gWords (gBlk m T) l) :
    camletlaw42_back.f (rd (gNew m F T t l) (t + i)) t (gEnd m T t l) (wrap64 (4 * wrap64 (t - F))) = some (rd (gNew (gNew m F T t l) t (gEnd m T t l) F (l.map (gPos m T t l))) (F + i)) := by
  have H2 := H.again hg hr hw
  obtain ⟨pre, b, post, e, e1, e2⟩ := gLocate (gBlk m T) l i H.inv.nonneg h0 h1
  have hb : b ∈ l := by rw [e]; simp
  have hn := H.inv.nodup
  have hpb : gPos m T t l b = t + gWords (gBlk m T) pre := by
    show (gMoved (gBlk m T) t l b).getD 0 = _
    have : gMoved (gBlk m T) t (pre ++ b :: post) b = some (t + gWords (gBlk m T) pre) := gMoved_pos (e ▸ hn)
    rw [← e] at this
    rw [this]; rfl
  have hpk := H.pos_back hb
  have hbl := List.mem_map_of_mem (f := gPos m T t l) hb
  have hnb := H.new_blk hb
  obtain ⟨j, hj⟩ : ∃ j, i = gWords (gBlk m T) pre + j := ⟨i - gWords (gBlk m T) pre, by omega⟩
  have hx1 : t + i = gPos m T t l b + j := by omega
  have hx2 : F + i = gPos (gNew m F T t l) (gEnd m T t l) F (l.map (gPos m T t l)) (gPos m T t l b) + j := by omega
  rw [hx1, hx2]
  by_cases hj0 : j = 0
  · subst hj0
    rw [Int.add_zero, Int.add_zero, H2.new_head hbl]
    have hv := rd_val H.new_vals (gPos m T t l b)
    have hod : rd (gNew m F T t l) (gPos m T t l b) % 2 = 1 := by
      have hm := H.inv.mem b hb
      have hb1 : gBlk m T b = if splOk (rd m b) ∧ b + 1 + rd m b / 16384 ≤ T ∧ ¬ (rd m b % 16 / 2 = 1 ∧ rd m (b + 1) % 2 = 0) then 1 + rd m b / 16384 else 0 := rfl
      rw [H.new_head hb]
      by_cases hc : splOk (rd m b) ∧ b + 1 + rd m b / 16384 ≤ T ∧ ¬ (rd m b % 16 / 2 = 1 ∧ rd m (b + 1) % 2 = 0)
      · exact hc.1.1
      · rw [if_neg hc] at hb1; omega
    rw [H.back_eq hv (.inl hod), H2.chg_odd hod]
  · obtain ⟨k, hk⟩ : ∃ k : Nat, j = (k : Int) + 1 := ⟨(j - 1).toNat, by omega⟩
    subst hk
    have hk2 := H2.new_kid hbl k (by rw [hnb]; omega)
    have hk1 := H.new_kid hb k (by omega)
    rw [hk2.1]
    have hv := rd_val H.new_vals (gPos m T t l b + ((k : Int) + 1))
    refine H.back_eq hv ?_
    rw [hk1.1]
    exact H.chg_cases (H.kids b hb _ hk1.2)
end
end Go.Proofs.Ytnkbfbhhioemoaa.Q
