/- The spot of a place, counted; what the loops over the lines, and the reference, come to. -/
import Derived.Test.YtnpkokpkakhnaaaDoorQx0
import Derived.Test.YtnpkokpkakhnaaaDoorHposAt
import Derived.Test.YtnpkokpkakhnaaaDoorHposLines
import Derived.Test.YtnpkokpkakhnaaaDoorHposOf
import Derived.Test.YtnpkokpkakhnaaaDoorHposOf
namespace Go.Proofs.YtnpkokpkakhnaaaDoor.Q
open Go.RowKit Go.Proofs.YtnpkokpkakhnaaaDoorW.PrintWords Go.Proofs.YtnpkokpkakhnaaaDoorW.PrintLast Go.Proofs.YtnpkokpkakhnaaaDoorW.PrintMore
attribute [local go_sem] max2_int min2_int max_two min_two max_three min_three max_four min_four   -- for this text's walks alone
set_option linter.unusedVariables false
set_option linter.unusedSimpArgs false

/-- the line of a place, and where that line begins -/
def pst (s : ByteArray) : Nat → Nat × Nat
  | 0 => (1, 0)
  | p + 1 => if bt s p = 10 then ((pst s p).1 + 1, p + 1) else pst s p
theorem pst_zero (s : ByteArray) : pst s 0 = (1, 0) := by rw [pst]
theorem pst_nl (s : ByteArray) (p : Nat) (h : bt s p = 10) : pst s (p + 1) = ((pst s p).1 + 1, p + 1) := by rw [pst, if_pos h]
theorem pst_no (s : ByteArray) (p : Nat) (h : ¬ bt s p = 10) : pst s (p + 1) = pst s p := by rw [pst, if_neg h]
theorem pst_mono (s : ByteArray) (p q : Nat) (h : p ≤ q) : (pst s p).1 ≤ (pst s q).1 ∧ ((pst s p).1 = (pst s q).1 → pst s p = pst s q) := by
  induction q with
  | zero =>
    obtain rfl : p = 0 := by omega
    exact ⟨Nat.le_refl _, fun _ => rfl⟩
  | succ q ih =>
    by_cases e : p = q + 1
    · subst e; exact ⟨Nat.le_refl _, fun _ => rfl⟩
    · obtain ⟨i1, i2⟩ := ih (by omega)
      by_cases hb : bt s q = 10
      · rw [pst_nl s q hb]
        exact ⟨by show _ ≤ _ + 1; omega, fun e => absurd e (by show ¬ _ = _ + 1; omega)⟩
      · rw [pst_no s q hb]
        exact ⟨i1, i2⟩
theorem pst_le (s : ByteArray) (p : Nat) : (pst s p).2 ≤ p ∧ 1 ≤ (pst s p).1 := by
  induction p with
  | zero => rw [pst_zero]; exact ⟨Nat.le_refl _, Nat.le_refl _⟩
  | succ q ih =>
    by_cases hb : bt s q = 10
    · rw [pst_nl s q hb]
      exact ⟨Nat.le_refl _, by show 1 ≤ _ + 1; omega⟩
    · rw [pst_no s q hb]; exact ⟨by omega, ih.2⟩
/-- the column of a place -/
def pcol (s : ByteArray) (p : Nat) : Int := (p : Int) - ((pst s p).2 : Int) + 1
theorem pst_inj (s : ByteArray) (p q : Nat) (h1 : (pst s p).1 = (pst s q).1) (h2 : pcol s p = pcol s q) : p = q := by
  unfold pcol at h2
  by_cases h : p ≤ q
  · rw [(pst_mono s p q h).2 h1] at h2; omega
  · rw [(pst_mono s q p (by omega)).2 h1.symm] at h2; omega
theorem pcol_pos (s : ByteArray) (p : Nat) : 1 ≤ pcol s p ∧ pcol s p ≤ p + 1 := by
  have := (pst_le s p).1
  unfold pcol; omega
/-- At, over the lines from place i on -/
theorem atL_from (s : ByteArray) (hs : s.size ≤ 1000000) (at_ : Int) : ∀ (d f i n : Nat), i + d = s.size → f ≤ i → (∀ j, f ≤ j → j ≤ i → pst s j = (n + 1, f)) →
    (at_ < f ∨ at_ > s.size → atL at_ (lns s f i d) n = (0, 0, false)) ∧ (∀ p : Nat, at_ = p → f ≤ p → p ≤ s.size → atL at_ (lns s f i d) n = (((pst s p).1 : Int), pcol s p, true)) := by
  have hit : ∀ (f i n p : Nat), p ≤ 1000000 → at_ = p → f ≤ p → p ≤ i → (∀ j, f ≤ j → j ≤ i → pst s j = (n + 1, f)) → ((((n + 1 : Nat) : Int), wrap64 (wrap64 (at_ - f) + 1), true) : Int × Int × Bool) = (((pst s p).1 : Int), pcol s p, true) := by
    intro f i n p hp e h1 h2 hI
    have hw : wrap64 (wrap64 (at_ - f) + 1) = pcol s p := by unfold pcol; rw [hI p h1 h2, e]; unfold wrap64; show _ = (p : Int) - (f : Int) + 1; omega
    rw [hw, hI p h1 h2]
  intro d
  induction d with
  | zero =>
    intro f i n hi hf hI
    rw [lns]
    constructor
    · intro h
      rw [atL, if_neg (by show ¬ ((f : Int) ≤ at_ ∧ at_ ≤ (i : Int)); omega), atL]
    · intro p e h1 h2
      rw [atL, if_pos (show ((f : Int) ≤ at_ ∧ at_ ≤ (i : Int)) from by omega)]
      exact hit f i n p (by omega) e h1 (by omega) hI
  | succ d ih =>
    intro f i n hi hf hI
    rw [lns]
    have hpi := hI i hf (Nat.le_refl _)
    by_cases hb : bt s i = 10
    · rw [if_pos hb]
      have hI2 : ∀ j, i + 1 ≤ j → j ≤ i + 1 → pst s j = ((n + 1) + 1, i + 1) := by
        intro j h1 h2
        obtain rfl : j = i + 1 := by omega
        rw [pst_nl s i hb, hpi]
      obtain ⟨ih1, ih2⟩ := ih (i + 1) (i + 1) (n + 1) (by omega) (Nat.le_refl _) hI2
      constructor
      · intro h
        rw [atL, if_neg (by show ¬ ((f : Int) ≤ at_ ∧ at_ ≤ (i : Int)); omega)]
        exact ih1 (by omega)
      · intro p e h1 h2
        by_cases hin : p ≤ i
        · rw [atL, if_pos (show ((f : Int) ≤ at_ ∧ at_ ≤ (i : Int)) from by omega)]
          exact hit f i n p (by omega) e h1 hin hI
        · rw [atL, if_neg (by show ¬ ((f : Int) ≤ at_ ∧ at_ ≤ (i : Int)); omega)]
          exact ih2 p e (by omega) h2
    · rw [if_neg hb]
      refine ih f (i + 1) n (by omega) (by omega) (fun j h1 h2 => ?_)
      by_cases e : j = i + 1
      · subst e; rw [pst_no s i hb, hpi]
      · exact hI j h1 (by omega)
theorem at_in (s : ByteArray) (hs : s.size ≤ 1000000) (p : Nat) (hp : p ≤ s.size) : pos_At.f s p = some (((pst s p).1 : Int), pcol s p, true) := by
  unfold pos_At.f linesOf
  rw [if_pos hs, (atL_from s hs p s.size 0 0 0 (by omega) (Nat.le_refl _) (fun j h1 h2 => by obtain rfl : j = 0 := (by omega); exact pst_zero s)).2 p rfl (Nat.zero_le _) hp]
theorem at_out (s : ByteArray) (hs : s.size ≤ 1000000) (a : Int) (h : a < 0 ∨ a > s.size) : pos_At.f s a = some (0, 0, false) := by
  unfold pos_At.f linesOf
  rw [if_pos hs, (atL_from s hs a s.size 0 0 0 (by omega) (Nat.le_refl _) (fun j h1 h2 => by obtain rfl : j = 0 := (by omega); exact pst_zero s)).1 (by omega)]
/-- Of, over the lines from place i on -/
theorem ofL_from (s : ByteArray) (hs : s.size ≤ 1000000) (l c : Int) : ∀ (d f i n : Nat), i + d = s.size → f ≤ i → (∀ j, f ≤ j → j ≤ i → pst s j = (n + 1, f)) →
    (∃ p : Nat, f ≤ p ∧ p ≤ s.size ∧ ((pst s p).1 : Int) = l ∧ pcol s p = c ∧ ofL l c (lns s f i d) n = ((p : Int), true)) ∨ (ofL l c (lns s f i d) n = (0, false) ∧ ∀ p : Nat, f ≤ p → p ≤ s.size → ¬ (((pst s p).1 : Int) = l ∧ pcol s p = c)) := by
  have hit : ∀ (f i n : Nat) (rest : List (Nat × Nat)), f ≤ i → i ≤ s.size → (∀ j, f ≤ j → j ≤ i → pst s j = (n + 1, f)) → (∀ p, i < p → p ≤ s.size → n + 1 < (pst s p).1) → ((n + 1 : Nat) : Int) = l →
      (∃ p : Nat, f ≤ p ∧ p ≤ s.size ∧ ((pst s p).1 : Int) = l ∧ pcol s p = c ∧ ofL l c ((f, i) :: rest) n = ((p : Int), true)) ∨ (ofL l c ((f, i) :: rest) n = (0, false) ∧ ∀ p : Nat, f ≤ p → p ≤ s.size → ¬ (((pst s p).1 : Int) = l ∧ pcol s p = c)) := by
    intro f i n rest hf hi hI hO hl
    rw [ofL, if_pos hl]
    have hw : wrap64 (wrap64 ((i : Int) - f) + 1) = (i : Int) - f + 1 := by unfold wrap64; omega
    by_cases hc : c < 1 ∨ c > (i : Int) - f + 1
    · right
      refine ⟨by rw [if_pos (by show c < 1 ∨ c > wrap64 (wrap64 ((i : Int) - f) + 1); rw [hw]; exact hc)], ?_⟩
      intro p h1 h2 ⟨h3, h4⟩
      by_cases hpi : p ≤ i
      · unfold pcol at h4
        rw [hI p h1 hpi] at h4
        have h5 : (p : Int) - (f : Int) + 1 = c := h4
        omega
      · have := hO p (by omega) h2
        omega
    · left
      obtain ⟨q, hq⟩ : ∃ q : Nat, c = q + 1 := ⟨(c - 1).toNat, by omega⟩
      have hp := hI (f + q) (by omega) (by omega)
      refine ⟨f + q, by omega, by omega, by rw [hp]; exact hl, by unfold pcol; rw [hp]; show ((f + q : Nat) : Int) - (f : Int) + 1 = c; omega, ?_⟩
      rw [if_neg (by show ¬ (c < 1 ∨ c > wrap64 (wrap64 ((i : Int) - f) + 1)); rw [hw]; exact hc)]
      have : wrap64 (wrap64 ((f : Int) + c) - 1) = ((f + q : Nat) : Int) := by rw [hq]; unfold wrap64; omega
      show (wrap64 (wrap64 ((f : Int) + c) - 1), true) = _
      rw [this]
  intro d
  induction d with
  | zero =>
    intro f i n hi hf hI
    rw [lns]
    by_cases hl : ((n + 1 : Nat) : Int) = l
    · exact hit f i n [] hf (by omega) hI (fun p h1 h2 => by omega) hl
    · right
      refine ⟨by rw [ofL, if_neg hl, ofL], ?_⟩
      intro p h1 h2 ⟨h3, _⟩
      rw [hI p h1 (by omega)] at h3
      exact hl h3
  | succ d ih =>
    intro f i n hi hf hI
    rw [lns]
    have hpi := hI i hf (Nat.le_refl _)
    by_cases hb : bt s i = 10
    · rw [if_pos hb]
      have hnx := pst_nl s i hb
      rw [hpi] at hnx
      have hI2 : ∀ j, i + 1 ≤ j → j ≤ i + 1 → pst s j = ((n + 1) + 1, i + 1) := by
        intro j h1 h2
        obtain rfl : j = i + 1 := by omega
        exact hnx
      by_cases hl : ((n + 1 : Nat) : Int) = l
      · refine hit f i n _ hf (by omega) hI (fun p h1 h2 => ?_) hl
        have := (pst_mono s (i + 1) p (by omega)).1
        rw [hnx] at this
        have h3 : n + 1 + 1 ≤ (pst s p).1 := this
        omega
      · rw [ofL, if_neg hl]
        rcases ih (i + 1) (i + 1) (n + 1) (by omega) (Nat.le_refl _) hI2 with ⟨p, h1, h2, h3, h4, h5⟩ | ⟨h1, h2⟩
        · exact .inl ⟨p, by omega, h2, h3, h4, h5⟩
        · refine .inr ⟨h1, fun p h3 h4 h5 => ?_⟩
          by_cases hin : p ≤ i
          · rw [hI p h3 hin] at h5
            exact hl h5.1
          · exact h2 p (by omega) h4 h5
    · rw [if_neg hb]
      refine ih f (i + 1) n (by omega) (by omega) (fun j h1 h2 => ?_)
      by_cases e : j = i + 1
      · subst e; rw [pst_no s i hb, hpi]
      · exact hI j h1 (by omega)
theorem of_is (s : ByteArray) (hs : s.size ≤ 1000000) (l c : Int) : (∃ p : Nat, p ≤ s.size ∧ ((pst s p).1 : Int) = l ∧ pcol s p = c ∧ pos_Of.f s l c = some ((p : Int), true)) ∨ (pos_Of.f s l c = some (0, false) ∧ ∀ p : Nat, p ≤ s.size → ¬ (((pst s p).1 : Int) = l ∧ pcol s p = c)) := by
  unfold pos_Of.f linesOf
  rw [if_pos hs]
  rcases ofL_from s hs l c s.size 0 0 0 (by omega) (Nat.le_refl _) (fun j h1 h2 => by obtain rfl : j = 0 := (by omega); exact pst_zero s) with ⟨p, _, h2, h3, h4, h5⟩ | ⟨h1, h2⟩
  · exact .inl ⟨p, h2, h3, h4, by rw [h5]⟩
  · exact .inr ⟨by rw [h1], fun p hp => h2 p (Nat.zero_le _) hp⟩
theorem of_spot (s : ByteArray) (hs : s.size ≤ 1000000) (p : Nat) (hp : p ≤ s.size) : pos_Of.f s ((pst s p).1 : Int) (pcol s p) = some ((p : Int), true) := by
  rcases of_is s hs ((pst s p).1 : Int) (pcol s p) with ⟨q, h1, h2, h3, h4⟩ | ⟨_, h2⟩
  · rw [h4, pst_inj s q p (by omega) h3]
  · exact absurd ⟨rfl, rfl⟩ (h2 p hp)
end Go.Proofs.YtnpkokpkakhnaaaDoor.Q
