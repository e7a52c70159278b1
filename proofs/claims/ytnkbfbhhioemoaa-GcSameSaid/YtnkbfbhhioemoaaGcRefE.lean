
/- gc: what is reached is closed; the reference's Reach. -/
import Derived.Test.YtnkbfbhhioemoaaQx0
import Derived.Test.YtnkbfbhhioemoaaQx1
import Derived.Test.YtnkbfbhhioemoaaQx2
import Derived.Test.YtnkbfbhhioemoaaQx3
import Derived.Test.YtnkbfbhhioemoaaQx5
import Derived.Test.YtnkbfbhhioemoaaGcBlk
import Derived.Test.YtnkbfbhhioemoaaGcModel
import Derived.Test.YtnkbfbhhioemoaaGcRef
import Derived.Test.YtnkbfbhhioemoaaHeapPlain
import Derived.Test.YtnkbfbhhioemoaaReads
--@needs XGcRef
namespace Go.Proofs.Ytnkbfbhhioemoaa.Q
open Go.RowKit Go.Proofs.YtnkbfbhhioemoaaW.PrintWords Go.Proofs.YtnkbfbhhioemoaaW.PrintLast Go.Proofs.YtnkbfbhhioemoaaW.PrintMore
attribute [local go_sem] max2_int min2_int max_two min_two max_three min_three max_four min_four   -- for this text's walks alone
set_option linter.unusedVariables false
set_option linter.unusedSimpArgs false

theorem gMeet_closed {F T : Int} {blk : Int → Int} {l l' : List Int} {w : Int} (h : gMeet F T blk l w = some l') : (∀ a ∈ l, a ∈ l') ∧ (gLeads F T w = true → w / 4 ∈ l') := by
  unfold gMeet at h
  by_cases h1 : gLeads F T w = false
  · rw [if_pos h1] at h
    injection h with h; subst h
    exact ⟨fun a ha => ha, fun h2 => by rw [h1] at h2; cases h2⟩
  rw [if_neg h1] at h
  by_cases h2 : w % 4 ≠ 0
  · rw [if_pos h2] at h; cases h
  rw [if_neg h2] at h
  by_cases h3 : w / 4 ∈ l
  · rw [if_pos h3] at h
    injection h with h; subst h
    exact ⟨fun a ha => ha, fun _ => h3⟩
  rw [if_neg h3] at h
  by_cases h4 : blk (w / 4) = 0
  · rw [if_pos h4] at h; cases h
  rw [if_neg h4] at h
  by_cases h5 : gOver blk l (w / 4) = true
  · rw [if_pos h5] at h; cases h
  rw [if_neg h5] at h
  injection h with h; subst h
  exact ⟨fun a ha => by simp [ha], fun _ => by simp⟩
theorem gFold_closed {F T : Int} {blk : Int → Int} : ∀ {r l l' : List Int}, gFold F T blk l r = some l' → (∀ a ∈ l, a ∈ l') ∧ (∀ w ∈ r, gLeads F T w = true → w / 4 ∈ l')
  | [], l, l', h => by
    rw [gFold] at h
    injection h with h; subst h
    exact ⟨fun a ha => ha, fun w hw => by simp at hw⟩
  | w :: r, l, l', h => by
    rw [gFold] at h
    obtain ⟨l1, h1, h2⟩ := Option.bind_eq_some_iff.1 h
    obtain ⟨a1, a2⟩ := gMeet_closed h1
    obtain ⟨b1, b2⟩ := gFold_closed h2
    refine ⟨fun a ha => b1 a (a1 a ha), fun x hx hl => ?_⟩
    rcases List.mem_cons.1 hx with rfl | hx
    · exact b1 _ (a2 hl)
    · exact b2 x hx hl
theorem gLoop_closed {m : List Int} {F T : Int} {blk : Int → Int} : ∀ (k i : Nat) (l l' : List Int), gLoop m F T blk k i l = some (some l') → (∀ (j : Nat) (h : j < l.length), j < i → ∀ x ∈ gKids m blk l[j], gLeads F T x = true → x / 4 ∈ l) → (∀ a ∈ l, a ∈ l') ∧ (∀ a ∈ l', ∀ x ∈ gKids m blk a, gLeads F T x = true → x / 4 ∈ l')
  | 0, i, l, l', h, _ => by simp [gLoop] at h
  | k + 1, i, l, l', h, hp => by
    rw [gLoop] at h
    by_cases hl : i < l.length
    · rw [dif_pos hl] at h
      cases e : gFold F T blk l (gKids m blk l[i]) with
      | none => rw [e] at h; simp at h
      | some l1 =>
        rw [e] at h
        obtain ⟨c1, c2⟩ := gFold_closed e
        obtain ⟨q, hq⟩ := gFold_len _ _ _ e
        have := gLoop_closed k (i + 1) l1 l' h (by
          intro j hj hji x hx hlx
          have hjl : j < l.length := by omega
          have he : l1[j] = l[j] := by subst hq; exact List.getElem_append_left hjl
          rw [he] at hx
          by_cases e : j = i
          · subst e; exact c2 x hx hlx
          · exact c1 _ (hp j hjl (by omega) x hx hlx))
        exact ⟨fun a ha => this.1 a (c1 a ha), this.2⟩
    · rw [dif_neg hl] at h
      injection h with h; injection h with h; subst h
      refine ⟨fun a ha => ha, fun a ha x hx hlx => ?_⟩
      obtain ⟨j, hj, rfl⟩ := List.getElem_of_mem ha
      exact hp j hj (by omega) x hx hlx
theorem gReach_closed {m : List Int} {F T : Int} {blk : Int → Int} (hb : BlkOk F T blk) (hFT : F ≤ T) (hF : 0 ≤ F) (hT : T ≤ m.length) {roots l : List Int} (h : gReach m F T blk roots = some l) : (∀ x ∈ roots, gLeads F T x = true → x / 4 ∈ l) ∧ (∀ a ∈ l, ∀ x ∈ gKids m blk a, gLeads F T x = true → x / 4 ∈ l) := by
  unfold gReach at h
  obtain ⟨l1, h1, h2⟩ := Option.bind_eq_some_iff.1 h
  have hi := gFold_inv hb _ _ _ (GInv.nil F T blk) h1
  obtain ⟨r, hr⟩ := gLoop_ends (m := m) hb hFT (m.length + 1) 0 l1 hi (by omega) (by omega)
  rw [hr] at h2
  have h2' : r = some l := h2
  subst h2'
  have hc := gLoop_closed _ _ _ _ hr (fun j _ hj => by omega)
  have hf := gFold_closed h1
  exact ⟨fun x hx hl => hc.1 _ (hf.2 x hx hl), hc.2⟩
theorem ref_Reach {m : List Int} (hv : ∀ x ∈ m, 0 ≤ x ∧ x < 4294967296) (hlen : m.length ≤ 1000000) {F T : Int} {roots : List Int} (hrl : roots.length ≤ 1000000) (hrv : ∀ x ∈ roots, 0 ≤ x ∧ x < 4294967296) :
    Ev (fun k => camletref42_Reach.f k m F T roots) (if F < 0 ∨ T < F ∨ (m.length : Int) < T then (0, 1) else match gReach m F T (gBlk m T) roots with | none => (0, 22) | some l => (gWords (gBlk m T) l, 0)) := by
  unfold camletref42_Reach.f
  have hh : camletref42_half.f m F T = some (!decide (F < 0 ∨ T < F ∨ (m.length : Int) < T)) := by
    unfold camletref42_half.f
    by_cases h1 : F < 0
    · rw [if_neg (by omega), decide_eq_true (Or.inl h1)]; rfl
    · rw [if_pos (by omega)]
      by_cases h2 : T < F
      · rw [if_neg (by omega), decide_eq_true (Or.inr (Or.inl h2))]; rfl
      · rw [if_pos (by omega)]
        by_cases h3 : (m.length : Int) < T
        · rw [decide_eq_false (by omega), decide_eq_true (Or.inr (Or.inr h3))]; rfl
        · rw [decide_eq_true (by omega), decide_eq_false (by omega)]; rfl
  refine Ev.val hh ?_
  by_cases hb : F < 0 ∨ T < F ∨ (m.length : Int) < T
  · rw [decide_eq_true hb, if_pos hb]
    exact Ev.neg (by decide) (Ev.now _)
  rw [decide_eq_false hb, if_neg hb]
  refine Ev.pos rfl ?_
  refine Ev.bind (ref_Reached hv hlen (by omega) (by omega) (by omega) hrl hrv) ?_
  cases hg : gReach m F T (gBlk m T) roots with
  | none => exact Ev.neg (by decide) (Ev.now _)
  | some l =>
    have hi := gReach_inv (gBlk_ok m F T) (by omega) (by omega) (by omega) hg
    refine Ev.pos rfl ?_
    exact Ev.bind (ref_words hv hlen (by omega) (by omega) (by omega) hi) (Ev.now _)
theorem u32_val {H : Type} {l : List Int} {y : DataW H} (h : (Dsl (Dint .u32)) H l y) : ∀ x ∈ l, 0 ≤ x ∧ x < 4294967296 := by
  obtain ⟨es, sp, _, hl, _, hd⟩ := h
  intro x hx
  obtain ⟨i, hi, rfl⟩ := List.getElem_of_mem hx
  obtain ⟨_, h2⟩ := hd i l[i] es[i] (List.getElem?_eq_getElem hi) (List.getElem?_eq_getElem (by omega))
  have h3 : IntKind.u32.min ≤ l[i] ∧ l[i] ≤ IntKind.u32.max := by simpa [Lit.wf] using h2
  rw [show IntKind.u32.min = 0 from rfl, show IntKind.u32.max = 4294967295 from rfl] at h3
  omega
theorem gc_few_false {m roots : List Int} (h : ¬ ((m.length : Int) ≤ 300 ∧ (roots.length : Int) ≤ 60)) : camletlaw42_few.f m roots = some false := by
  unfold camletlaw42_few.f
  by_cases h1 : (m.length : Int) ≤ 300
  · rw [if_pos h1, decide_eq_false (fun h2 => h ⟨h1, h2⟩)]
  · rw [if_neg h1]
theorem gc_few_true {m roots : List Int} (h : (m.length : Int) ≤ 300 ∧ (roots.length : Int) ≤ 60) : camletlaw42_few.f m roots = some true := by
  unfold camletlaw42_few.f
  rw [if_pos h.1, decide_eq_true h.2]
theorem gc_knows : ∃ k, camletlaw42_knows.f k = some true := ⟨20, by decide +kernel⟩
theorem gc_knows_ev : Ev (fun k => camletlaw42_knows.f k) true := by
  obtain ⟨k, h⟩ := gc_knows
  exact Ev.of (g := fun k => camletlaw42_knows.f k) (fun k => camletlaw42_knows.mono k) h
end Go.Proofs.Ytnkbfbhhioemoaa.Q
