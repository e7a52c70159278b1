/- The reference's At and Of are At and Of; the chapter's example. -/
import Derived.Test.YtnpkokpkakhnaaaDoorQx0
import Derived.Test.YtnpkokpkakhnaaaDoorQx2
import Derived.Test.YtnpkokpkakhnaaaDoorHnumShow
import Derived.Test.YtnpkokpkakhnaaaDoorHposAt
import Derived.Test.YtnpkokpkakhnaaaDoorHposOf
import Derived.Lib.ItoaLen
import Derived.Test.YtnpkokpkakhnaaaDoorPosPlain
namespace Go.Proofs.YtnpkokpkakhnaaaDoor.Q
open Go.RowKit Go.Proofs.YtnpkokpkakhnaaaDoorW.PrintWords Go.Proofs.YtnpkokpkakhnaaaDoorW.PrintLast Go.Proofs.YtnpkokpkakhnaaaDoorW.PrintMore
attribute [local go_sem] max2_int min2_int max_two min_two max_three min_three max_four min_four   -- for this text's walks alone
set_option linter.unusedVariables false
set_option linter.unusedSimpArgs false

theorem pst_up (s : ByteArray) (p : Nat) : (pst s p).1 ≤ p + 1 := by
  induction p with
  | zero => rw [pst_zero]; exact Nat.le_refl _
  | succ q ih =>
    by_cases hb : bt s q = 10
    · rw [pst_nl s q hb]; show _ + 1 ≤ _; omega
    · rw [pst_no s q hb]; omega
theorem refat_l0 (s : ByteArray) (hs : s.size ≤ 1000000) (at_ : Nat) (ha : at_ ≤ s.size) (d : Nat) : ∀ i : Nat, i + d = at_ → Ev (fun k => camletref03_At.l0 k s (at_ : Int) (i : Int) ((pst s i).1 : Int) (pcol s i)) (((pst s at_).1 : Int), pcol s at_, true) := by
  induction d with
  | zero =>
    intro i hi
    obtain rfl : i = at_ := hi
    refine Ev.step (f := fun _ => some (((pst s i).1 : Int), pcol s i, true)) (fun k => ?_) (Ev.now _)
    simp only [camletref03_At.l0]
    rw [if_neg (Int.lt_irrefl _)]
  | succ d ih =>
    intro i hi
    have h1 : (i : Int) < (at_ : Int) := by omega
    have h2 : (0 : Int) ≤ (i : Int) := Int.natCast_nonneg i
    have h3 : (i : Int) < (s.size : Int) := by omega
    have hi1 : wrap64 ((i : Int) + 1) = ((i + 1 : Nat) : Int) := by unfold wrap64; omega
    have hup := pst_up s i
    have hcp := pcol_pos s i
    have ih2 := ih (i + 1) (by omega)
    by_cases hb : bt s i = 10
    · refine Ev.step (f := fun k => camletref03_At.l0 k s (at_ : Int) ((i + 1 : Nat) : Int) ((pst s (i + 1)).1 : Int) (pcol s (i + 1))) (fun k => ?_) ih2
      have e1 : wrap64 (((pst s i).1 : Int) + 1) = ((pst s (i + 1)).1 : Int) := by rw [pst_nl s i hb]; unfold wrap64; show _ = (((pst s i).1 + 1 : Nat) : Int); omega
      have e2 : pcol s (i + 1) = 1 := by unfold pcol; rw [pst_nl s i hb]; show ((i + 1 : Nat) : Int) - ((i + 1 : Nat) : Int) + 1 = 1; omega
      simp only [camletref03_At.l0]
      rw [if_pos h1, if_pos h2, if_pos h3, if_pos hb, hi1, e1, e2]
    · refine Ev.step (f := fun k => camletref03_At.l0 k s (at_ : Int) ((i + 1 : Nat) : Int) ((pst s (i + 1)).1 : Int) (pcol s (i + 1))) (fun k => ?_) ih2
      have e2 : wrap64 (pcol s i + 1) = pcol s (i + 1) := by
        have : pcol s (i + 1) = pcol s i + 1 := by unfold pcol; rw [pst_no s i hb]; omega
        rw [this]; unfold wrap64; omega
      simp only [camletref03_At.l0]
      rw [if_pos h1, if_pos h2, if_pos h3, if_neg hb, hi1, e2, pst_no s i hb]
theorem pcol_zero (s : ByteArray) : pcol s 0 = 1 := by unfold pcol; rw [pst_zero]; rfl
theorem refat_in (s : ByteArray) (hs : s.size ≤ 1000000) (p : Nat) (hp : p ≤ s.size) : Ev (fun k => camletref03_At.f k s (p : Int)) (((pst s p).1 : Int), pcol s p, true) := by
  have h := refat_l0 s hs p hp p 0 (Nat.zero_add p)
  rw [pst_zero, pcol_zero] at h
  refine Ev.congr (f := fun k => camletref03_At.j0 k s (p : Int) false) (fun k => ?_) ?_
  · unfold camletref03_At.f
    rw [if_neg (by omega), decide_eq_false (by omega)]
  · exact Ev.step (f := fun k => camletref03_At.l0 k s (p : Int) 0 1 1) (fun k => by simp only [camletref03_At.j0, Bool.false_eq_true, if_false]) h
theorem refat_out (s : ByteArray) (a : Int) (h : a < 0 ∨ a > s.size) : Ev (fun k => camletref03_At.f k s a) (0, 0, false) := by
  have ht : Ev (fun k => camletref03_At.j0 k s a true) (0, 0, false) := Ev.step (f := fun _ => some (0, 0, false)) (fun k => by simp only [camletref03_At.j0, if_true]) (Ev.now _)
  by_cases h0 : a < 0
  · exact Ev.congr (fun k => by unfold camletref03_At.f; rw [if_pos h0]) ht
  · exact Ev.congr (fun k => by unfold camletref03_At.f; rw [if_neg h0, decide_eq_true (by omega)]) ht
theorem refof_step (s : ByteArray) (hs : s.size ≤ 1000000) (l c : Int) (i : Nat) (hi : i < s.size) (hno : ¬ (((pst s i).1 : Int) = l ∧ pcol s i = c)) (k : Nat) :
    camletref03_Of.l0 (k + 1) s (i : Int) l c ((pst s i).1 : Int) (pcol s i) = camletref03_Of.l0 k s ((i + 1 : Nat) : Int) l c ((pst s (i + 1)).1 : Int) (pcol s (i + 1)) := by
  have h1 : (i : Int) ≤ (s.size : Int) := by omega
  have h2 : (0 : Int) ≤ (i : Int) := Int.natCast_nonneg i
  have h3 : (i : Int) < (s.size : Int) := by omega
  have hi1 : wrap64 ((i : Int) + 1) = ((i + 1 : Nat) : Int) := by unfold wrap64; omega
  have hup := pst_up s i
  have hcp := pcol_pos s i
  have hne : ¬ (((pst s i).1 : Int) == l && (pcol s i == c)) = true := by
    intro e
    rw [Bool.and_eq_true] at e
    exact hno ⟨eq_of_beq e.1, eq_of_beq e.2⟩
  simp only [camletref03_Of.l0]
  rw [if_pos h1, if_neg hne, if_pos h3, if_pos h2]
  by_cases hb : bt s i = 10
  · have e1 : wrap64 (((pst s i).1 : Int) + 1) = ((pst s (i + 1)).1 : Int) := by rw [pst_nl s i hb]; unfold wrap64; show _ = (((pst s i).1 + 1 : Nat) : Int); omega
    have e2 : pcol s (i + 1) = 1 := by unfold pcol; rw [pst_nl s i hb]; show ((i + 1 : Nat) : Int) - ((i + 1 : Nat) : Int) + 1 = 1; omega
    rw [if_pos hb, hi1, e1, e2]
  · have e2 : wrap64 (pcol s i + 1) = pcol s (i + 1) := by
      have : pcol s (i + 1) = pcol s i + 1 := by unfold pcol; rw [pst_no s i hb]; omega
      rw [this]; unfold wrap64; omega
    rw [if_neg hb, hi1, e2, pst_no s i hb]
theorem refof_hit (s : ByteArray) (hs : s.size ≤ 1000000) (l c : Int) (p : Nat) (hp : p ≤ s.size) (h1 : ((pst s p).1 : Int) = l) (h2 : pcol s p = c) (d : Nat) : ∀ i : Nat, i + d = p → Ev (fun k => camletref03_Of.l0 k s (i : Int) l c ((pst s i).1 : Int) (pcol s i)) ((p : Int), true) := by
  induction d with
  | zero =>
    intro i hi
    obtain rfl : i = p := hi
    have hm : (((pst s i).1 : Int) == l && (pcol s i == c)) = true := by
      rw [Bool.and_eq_true]; exact ⟨beq_iff_eq.mpr h1, beq_iff_eq.mpr h2⟩
    refine Ev.step (f := fun _ => some ((i : Int), true)) (fun k => ?_) (Ev.now _)
    simp only [camletref03_Of.l0]
    rw [if_pos (by omega), if_pos hm]
  | succ d ih =>
    intro i hi
    exact Ev.step (fun k => refof_step s hs l c i (by omega) (fun ⟨e1, e2⟩ => by have := pst_inj s i p (by omega) (by rw [e2, h2]); omega) k) (ih (i + 1) (by omega))
theorem refof_miss (s : ByteArray) (hs : s.size ≤ 1000000) (l c : Int) (hno : ∀ p : Nat, p ≤ s.size → ¬ (((pst s p).1 : Int) = l ∧ pcol s p = c)) (d : Nat) : ∀ i : Nat, i + d = s.size → Ev (fun k => camletref03_Of.l0 k s (i : Int) l c ((pst s i).1 : Int) (pcol s i)) (0, false) := by
  induction d with
  | zero =>
    intro i hi
    have h1 : (i : Int) ≤ (s.size : Int) := by omega
    have h3 : ¬ (i : Int) < (s.size : Int) := by omega
    have hi1 : wrap64 ((i : Int) + 1) = (i : Int) + 1 := by unfold wrap64; omega
    have hne : ¬ (((pst s i).1 : Int) == l && (pcol s i == c)) = true := by
      intro e
      rw [Bool.and_eq_true] at e
      exact hno i (by omega) ⟨eq_of_beq e.1, eq_of_beq e.2⟩
    refine Ev.step (f := fun k => camletref03_Of.l0 k s ((i : Int) + 1) l c ((pst s i).1 : Int) (wrap64 (pcol s i + 1))) (fun k => ?_) ?_
    · simp only [camletref03_Of.l0]
      rw [if_pos h1, if_neg hne, if_neg h3, hi1]
    · refine Ev.step (f := fun _ => some (0, false)) (fun k => ?_) (Ev.now _)
      simp only [camletref03_Of.l0]
      rw [if_neg (by omega)]
  | succ d ih =>
    intro i hi
    exact Ev.step (fun k => refof_step s hs l c i (by omega) (hno i (by omega)) k) (ih (i + 1) (by omega))
/-- both answers on a spot are one -/
theorem of_both (s : ByteArray) (hs : s.size ≤ 1000000) (l c : Int) : ∃ r, pos_Of.f s l c = some r ∧ Ev (fun k => camletref03_Of.f k s l c) r := by
  have e : ∀ r, Ev (fun k => camletref03_Of.l0 k s ((0 : Nat) : Int) l c ((pst s 0).1 : Int) (pcol s 0)) r → Ev (fun k => camletref03_Of.f k s l c) r := by
    intro r h
    rw [pst_zero, pcol_zero] at h
    exact Ev.congr (fun k => by unfold camletref03_Of.f; rfl) h
  rcases of_is s hs l c with ⟨p, h1, h2, h3, h4⟩ | ⟨h1, h2⟩
  · exact ⟨_, h4, e _ (refof_hit s hs l c p h1 h2 h3 p 0 (Nat.zero_add p))⟩
  · exact ⟨_, h1, e _ (refof_miss s hs l c h2 s.size 0 (Nat.zero_add _))⟩
theorem at_both (s : ByteArray) (hs : s.size ≤ 1000000) (a : Int) : ∃ r, pos_At.f s a = some r ∧ Ev (fun k => camletref03_At.f k s a) r := by
  by_cases h : a < 0 ∨ a > s.size
  · exact ⟨_, at_out s hs a h, refat_out s a h⟩
  · obtain ⟨p, rfl⟩ : ∃ p : Nat, a = (p : Int) := ⟨a.toNat, by omega⟩
    exact ⟨_, at_in s hs p (by omega), refat_in s hs p (by omega)⟩
theorem itoa_one (d : Nat) (h : d < 10) : Lib.itoa (d : Int) = [UInt8.ofNat (48 + d)] := by rw [Lib.itoa_nonneg, Lib.decDigits, dif_pos h]
theorem pos_knows : camletlaw03_knows.f = some true := by
  have a1 : pos_At.f (⟨#[97, 98, 10, 99]⟩ : ByteArray) 3 = some (2, 1, true) := by decide +kernel
  have a2 : pos_Of.f (⟨#[97, 98, 10, 99]⟩ : ByteArray) 2 2 = some (4, true) := by decide +kernel
  have a3 : pos_Of.f (⟨#[97, 98, 10, 99]⟩ : ByteArray) 1 4 = some (0, false) := by decide +kernel
  have a4 : num_Show.f 2 = some ⟨#[50]⟩ := by
    unfold num_Show.f
    rw [if_pos (by omega), show (2 : Int) = ((2 : Nat) : Int) from rfl, itoa_one 2 (by omega)]
    rfl
  have a5 : num_Show.f 1 = some ⟨#[49]⟩ := by
    unfold num_Show.f
    rw [if_pos (by omega), show (1 : Int) = ((1 : Nat) : Int) from rfl, itoa_one 1 (by omega)]
    rfl
  have a6 : pos_Show.f 2 1 = some ⟨#[50, 58, 49]⟩ := by
    unfold pos_Show.f
    rw [a4, a5]
    decide +kernel
  unfold camletlaw03_knows.f
  rw [a1, a2, a3]
  simp only [Option.bind_some, if_true, a6]
  rw [ByteArray.toList_eq]
  rfl
end Go.Proofs.YtnpkokpkakhnaaaDoor.Q
