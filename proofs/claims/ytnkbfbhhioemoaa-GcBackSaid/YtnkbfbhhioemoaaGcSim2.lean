/- gc: what was copied is reached in the same order. -/
import Derived.Test.YtnkbfbhhioemoaaQx0
import Derived.Test.YtnkbfbhhioemoaaGcAll
import Derived.Test.YtnkbfbhhioemoaaGcSim
--@needs XGcSim
namespace Go.Proofs.Ytnkbfbhhioemoaa.Q
open Go.RowKit Go.Proofs.YtnkbfbhhioemoaaW.PrintWords Go.Proofs.YtnkbfbhhioemoaaW.PrintLast Go.Proofs.YtnkbfbhhioemoaaW.PrintMore
attribute [local go_sem] max2_int min2_int max_two min_two max_three min_three max_four min_four   -- for this text's walks alone
set_option linter.unusedVariables false
set_option linter.unusedSimpArgs false

theorem gLoop_pre {m : List Int} {F T : Int} {blk : Int → Int} : ∀ (k i : Nat) (l l' : List Int), gLoop m F T blk k i l = some (some l') → ∃ q, l' = l ++ q
  | 0, i, l, l', h => by simp [gLoop] at h
  | k + 1, i, l, l', h => by
    rw [gLoop] at h
    by_cases hl : i < l.length
    · rw [dif_pos hl] at h
      cases e : gFold F T blk l (gKids m blk l[i]) with
      | none => rw [e] at h; simp at h
      | some l1 =>
        rw [e] at h
        obtain ⟨q1, rfl⟩ := gFold_len _ _ _ e
        obtain ⟨q2, rfl⟩ := gLoop_pre k (i + 1) _ l' h
        exact ⟨q1 ++ q2, by simp⟩
    · rw [dif_neg hl] at h
      injection h with h; injection h with h; subst h
      exact ⟨[], by simp⟩
section
variable {m : List Int} {F T t : Int} {l : List Int} (H : GCop m F T t l)
include H
theorem GCop.new_kids {b : Int} (hb : b ∈ l) : gKids (gNew m F T t l) (gBlk (gNew m F T t l) (gEnd m T t l)) (gPos m T t l b) = (gKids m (gBlk m T) b).map (gChg m F T t l) := by
  have hm := H.inv.mem b hb
  have hs := H.pos_span hb
  have hk := gKids_len (m := m) H.inv H.hF H.hT hb
  have hnl := H.new_len
  have hnb := H.new_blk hb
  have ht0 := H.t0
  have ht1 := H.t1
  have hF := H.hF
  have hT := H.hT
  have hl2 : (gKids (gNew m F T t l) (gBlk (gNew m F T t l) (gEnd m T t l)) (gPos m T t l b)).length = (gKids m (gBlk m T) b).length := by
    unfold gKids
    rw [hnb]
    simp only [List.length_drop, List.length_take, hnl]
    unfold gEnd at hs
    omega
  refine List.ext_getElem (by rw [hl2, List.length_map]) (fun j h1 h2 => ?_)
  have hj : j < (gKids m (gBlk m T) b).length := by rw [← hl2]; exact h1
  have hn := H.new_kid hb j (by omega)
  rw [List.getElem_map, gKids_at (by omega) (by omega) hj, ← hn.1]
  refine gKids_at (by omega) ?_ h1
  rw [hnb, hnl]
  unfold gEnd at hs
  omega
theorem GCop.new_leads {x : Int} (h : gLeads F T x = true) (hx : x / 4 ∈ l) : gLeads t (gEnd m T t l) (gChg m F T t l x) = true := by
  have hs := H.pos_span hx
  have hm := H.inv.mem _ hx
  rw [H.chg_leads h]
  unfold gLeads
  simp only [Bool.and_eq_true, decide_eq_true_eq]
  omega
theorem GCop.new_odd {x : Int} (h : x % 2 = 1) : gLeads t (gEnd m T t l) (gChg m F T t l x) = false := by
  rw [H.chg_odd h]
  unfold gLeads
  simp; omega
theorem GCop.sim_meet {lk lk' post : List Int} {x : Int} (e : l = lk' ++ post) (hx : x % 2 = 1 ∨ (gLeads F T x = true ∧ x / 4 ∈ l)) (h : gMeet F T (gBlk m T) lk x = some lk') :
    gMeet t (gEnd m T t l) (gBlk (gNew m F T t l) (gEnd m T t l)) (lk.map (gPos m T t l)) (gChg m F T t l x) = some (lk'.map (gPos m T t l)) := by
  rcases hx with hx | ⟨hx, hxl⟩
  · have h1 : gLeads F T x = false := by unfold gLeads; simp; omega
    unfold gMeet at h ⊢
    rw [if_pos h1] at h
    rw [if_pos (H.new_odd hx)]
    injection h with h
    rw [h]
  · have hle := gLeads_true hx
    unfold gMeet at h ⊢
    rw [if_neg (by rw [hx]; decide)] at h
    rw [if_neg (by rw [H.new_leads hx hxl]; decide), H.chg_leads hx]
    by_cases h4 : x % 4 ≠ 0
    · rw [if_pos h4] at h; cases h
    rw [if_neg h4] at h
    rw [if_neg (by omega), show 4 * gPos m T t l (x / 4) / 4 = gPos m T t l (x / 4) by omega, H.new_blk hxl]
    by_cases hin : x / 4 ∈ lk
    · rw [if_pos hin] at h
      rw [if_pos (List.mem_map_of_mem hin)]
      injection h with h
      rw [h]
    · rw [if_neg hin] at h
      by_cases hb0 : gBlk m T (x / 4) = 0
      · rw [if_pos hb0] at h; cases h
      rw [if_neg hb0] at h
      by_cases ho : gOver (gBlk m T) lk (x / 4) = true
      · rw [if_pos ho] at h; cases h
      rw [if_neg ho] at h
      injection h with h
      subst h
      rw [List.append_assoc, List.singleton_append] at e
      have hlk : ∀ c ∈ lk, c ∈ l := fun c hc => by rw [e]; simp [hc]
      have hnin : ¬ gPos m T t l (x / 4) ∈ lk.map (gPos m T t l) := by
        intro hh
        obtain ⟨c, hc, he⟩ := List.mem_map.1 hh
        have := H.pos_inj (hlk c hc) hxl he
        exact hin (this ▸ hc)
      rw [if_neg hnin, if_neg hb0, if_neg, List.map_append]
      · rfl
      · unfold gOver
        rw [Bool.not_eq_true, List.any_eq_false]
        intro c hc
        obtain ⟨d, hd, rfl⟩ := List.mem_map.1 hc
        have := H.order e hd
        rw [H.new_blk (hlk d hd)]
        simp only [Bool.and_eq_true, decide_eq_true_eq]
        omega
theorem GCop.sim_fold : ∀ {ws lk lk' post : List Int}, l = lk' ++ post → (∀ x ∈ ws, x % 2 = 1 ∨ (gLeads F T x = true ∧ x / 4 ∈ l)) → gFold F T (gBlk m T) lk ws = some lk' →
    gFold t (gEnd m T t l) (gBlk (gNew m F T t l) (gEnd m T t l)) (lk.map (gPos m T t l)) (ws.map (gChg m F T t l)) = some (lk'.map (gPos m T t l))
  | [], lk, lk', post, e, hx, h => by
    rw [gFold] at h
    injection h with h
    subst h
    rfl
  | w :: r, lk, lk', post, e, hx, h => by
    rw [gFold] at h
    obtain ⟨l1, h1, h2⟩ := Option.bind_eq_some_iff.1 h
    obtain ⟨q, hq⟩ := gFold_len _ _ _ h2
    have e1 : l = l1 ++ (q ++ post) := by rw [e, hq, List.append_assoc]
    rw [List.map_cons, gFold, H.sim_meet e1 (hx w (by simp)) h1]
    exact GCop.sim_fold e (fun x hx2 => hx x (by simp [hx2])) h2
theorem GCop.sim_loop : ∀ (K i : Nat) {lk post : List Int}, l = lk ++ post → gLoop m F T (gBlk m T) K i lk = some (some l) →
    gLoop (gNew m F T t l) t (gEnd m T t l) (gBlk (gNew m F T t l) (gEnd m T t l)) K i (lk.map (gPos m T t l)) = some (some (l.map (gPos m T t l)))
  | 0, i, lk, post, e, h => by simp [gLoop] at h
  | K + 1, i, lk, post, e, h => by
    rw [gLoop] at h ⊢
    by_cases hi : i < lk.length
    · rw [dif_pos hi] at h
      rw [dif_pos (by rw [List.length_map]; exact hi)]
      have hil : lk[i] ∈ l := by rw [e]; exact List.mem_append_left _ (List.getElem_mem hi)
      cases hf : gFold F T (gBlk m T) lk (gKids m (gBlk m T) lk[i]) with
      | none => rw [hf] at h; simp at h
      | some lk' =>
        rw [hf] at h
        have h' : gLoop m F T (gBlk m T) K (i + 1) lk' = some (some l) := h
        obtain ⟨q, hq⟩ := gLoop_pre _ _ _ _ h'
        have hs := H.sim_fold hq (H.kids _ hil) hf
        rw [List.getElem_map, H.new_kids hil, hs]
        exact GCop.sim_loop K (i + 1) hq h'
    · rw [dif_neg hi] at h
      rw [dif_neg (by rw [List.length_map]; exact hi)]
      injection h with h
      injection h with h
      rw [h]
end
/-- what is reached anew: the same blocks, where they were moved to -/
theorem gReach_same {m roots l : List Int} {F T t : Int} (H : GCop m F T t l) (hg : gReach m F T (gBlk m T) roots = some l) (hr : ∀ x ∈ roots, x % 2 = 1 ∨ (gLeads F T x = true ∧ x / 4 ∈ l)) :
    gReach (gNew m F T t l) t (gEnd m T t l) (gBlk (gNew m F T t l) (gEnd m T t l)) (roots.map (gChg m F T t l)) = some (l.map (gPos m T t l)) := by
  unfold gReach at hg ⊢
  obtain ⟨l1, h1, h2⟩ := Option.bind_eq_some_iff.1 hg
  have hi := gFold_inv (gBlk_ok m F T) _ _ _ (GInv.nil F T _) h1
  obtain ⟨r, hr1⟩ := gLoop_ends (m := m) (gBlk_ok m F T) H.hFT (m.length + 1) 0 l1 hi (by omega) (by have := H.hF; have := H.hT; omega)
  rw [hr1] at h2
  have h2' : r = some l := h2
  subst h2'
  obtain ⟨q, hq⟩ := gLoop_pre _ _ _ _ hr1
  have hs := H.sim_fold hq hr h1
  rw [List.map_nil] at hs
  rw [hs, Option.bind_some, H.new_len, H.sim_loop _ _ hq hr1]
  rfl
theorem gWords_same {m l : List Int} {F T t : Int} (H : GCop m F T t l) : gWords (gBlk (gNew m F T t l) (gEnd m T t l)) (l.map (gPos m T t l)) = gWords (gBlk m T) l := by
  have : ∀ q : List Int, (∀ b ∈ q, b ∈ l) → gWords (gBlk (gNew m F T t l) (gEnd m T t l)) (q.map (gPos m T t l)) = gWords (gBlk m T) q := by
    intro q
    induction q with
    | nil => intro _; rfl
    | cons b r ih =>
      intro h
      rw [List.map_cons, gWords, gWords, H.new_blk (h b (by simp)), ih (fun c hc => h c (by simp [hc]))]
  exact this l (fun _ hb => hb)
theorem gLay_vals {m : List Int} {blk chg : Int → Int} (hv : ∀ x ∈ m, 0 ≤ x ∧ x < 4294967296) : ∀ {l : List Int} {t : Int} {O : List Int}, (∀ b ∈ l, ∀ x ∈ gKids m blk b, 0 ≤ chg x ∧ chg x < 4294967296) → (∀ x ∈ O, 0 ≤ x ∧ x < 4294967296) → ∀ x ∈ gLay m blk chg t l O, 0 ≤ x ∧ x < 4294967296
  | [], t, O, hc, hO, x, hx => hO x hx
  | b :: r, t, O, hc, hO, x, hx => by
    rw [gLay] at hx
    refine gLay_vals hv (fun c hcr => hc c (by simp [hcr])) (fun y hy => ?_) x hx
    unfold splice at hy
    rcases List.mem_append.1 hy with hy | hy
    · exact hO y (List.mem_of_mem_take hy)
    rcases List.mem_append.1 hy with hy | hy
    · unfold gCells at hy
      rcases List.mem_cons.1 hy with rfl | hy
      · exact rd_val hv b
      · obtain ⟨z, hz, rfl⟩ := List.mem_map.1 hy
        exact hc b (by simp) z hz
    · exact hO y (List.mem_of_mem_drop hy)
theorem GCop.chg_val {m l : List Int} {F T t : Int} (H : GCop m F T t l) {x : Int} (h0 : 0 ≤ x ∧ x < 4294967296) (hx : x % 2 = 1 ∨ (gLeads F T x = true ∧ x / 4 ∈ l)) : 0 ≤ gChg m F T t l x ∧ gChg m F T t l x < 4294967296 := by
  rcases hx with hx | ⟨hx, hxl⟩
  · rw [H.chg_odd hx]; exact h0
  · have hs := H.pos_span hxl
    have hm := H.inv.mem _ hxl
    have ht0 := H.t0
    have ht1 := H.t1
    have hlen := H.len
    rw [H.chg_leads hx]
    unfold gEnd at hs
    omega
theorem GCop.new_vals {m l : List Int} {F T t : Int} (H : GCop m F T t l) : ∀ x ∈ gNew m F T t l, 0 ≤ x ∧ x < 4294967296 :=
  gLay_vals H.vals (fun b hb x hx => H.chg_val (H.vals x (List.mem_of_mem_take (List.mem_of_mem_drop hx))) (H.kids b hb x hx)) H.vals
end Go.Proofs.Ytnkbfbhhioemoaa.Q
