/- The reference's reading of digits is num.Read's; what is shown is read. -/
import Derived.Test.YtcdeekfgdmckmaaDoorQx0
import Derived.Test.YtcdeekfgdmckmaaDoorQx8
import Derived.Test.YtcdeekfgdmckmaaDoorHnumRead
--@needs XHnumRead
import Derived.Lib.AtoiAll
namespace Go.Proofs.YtcdeekfgdmckmaaDoor.Q
open Go.RowKit Go.Proofs.YtcdeekfgdmckmaaDoorW.PrintWords Go.Proofs.YtcdeekfgdmckmaaDoorW.PrintLast Go.Proofs.YtcdeekfgdmckmaaDoorW.PrintMore
attribute [local go_sem] max2_int min2_int max_two min_two max_three min_three max_four min_four   -- for this text's walks alone
set_option linter.unusedVariables false
set_option linter.unusedSimpArgs false

theorem Ev.id0 {α : Type} {g : Nat → Option α} {r : α} (h : Ev g r) : Ev (fun k => (g k).bind fun t => some t) r := Ev.congr (fun k => by cases g k <;> rfl) h
/-- the number that digits spell, behind a number -/
def dstep (a : Nat) (c : UInt8) : Nat := a * 10 + (c.toNat - 48)
def decVal (a : Nat) (l : List UInt8) : Nat := l.foldl dstep a
theorem decVal_nil (a : Nat) : decVal a [] = a := by unfold decVal; exact List.foldl_nil
theorem decVal_cons (a : Nat) (c : UInt8) (r : List UInt8) : decVal a (c :: r) = decVal (dstep a c) r := by unfold decVal; exact List.foldl_cons ..
theorem dstep_is (a : Nat) (c : UInt8) : dstep a c = a * 10 + (c.toNat - 48) := by unfold dstep; exact Eq.refl _
theorem dstep_le (a : Nat) (c : UInt8) : a ≤ dstep a c := by rw [dstep_is]; generalize c.toNat = n; omega
attribute [local irreducible] decVal dstep
theorem decVal_le (l : List UInt8) : ∀ acc, acc ≤ decVal acc l := by
  induction l with
  | nil => intro acc; rw [decVal_nil]; exact Nat.le_refl _
  | cons c r ih => intro acc; rw [decVal_cons]; exact Nat.le_trans (dstep_le acc c) (ih _)
theorem decVal_append (l r : List UInt8) : ∀ acc, decVal acc (l ++ r) = decVal (decVal acc l) r := by
  induction l with
  | nil => intro acc; rw [decVal_nil, List.nil_append]
  | cons c l ih => intro acc; rw [List.cons_append, decVal_cons, decVal_cons]; exact ih _
def digL (l : List UInt8) : Prop := ∀ c ∈ l, 48 ≤ c.toNat ∧ c.toNat ≤ 57
theorem parse_dig (l : List UInt8) : ∀ acc, acc < 18446744073709551616 → digL l → (decVal acc l < 18446744073709551616 → Lib.parseUint10 acc l = .ok (decVal acc l)) ∧ (18446744073709551616 ≤ decVal acc l → Lib.parseUint10 acc l = .range) := by
  induction l with
  | nil =>
    intro acc h _
    rw [decVal_nil]
    exact ⟨fun _ => by rw [Lib.parseUint10], fun h2 => by omega⟩
  | cons c r ih =>
    intro acc ha hd
    have hc := hd c (by simp)
    have hr : digL r := fun x hx => hd x (by simp [hx])
    have hle := decVal_le r (dstep acc c)
    have hst := dstep_is acc c
    rw [decVal_cons, Lib.parseUint10, if_pos hc, ← hst]
    clear hd
    generalize dstep acc c = e at hle hst ⊢
    have ih2 := ih e
    clear ih
    generalize decVal e r = v at hle ih2 ⊢
    generalize c.toNat = n at hc hst
    by_cases h1 : 1844674407370955162 ≤ acc
    · rw [if_pos h1]
      exact ⟨fun h2 => by omega, fun _ => rfl⟩
    · rw [if_neg h1]
      by_cases h2 : 18446744073709551616 ≤ e
      · rw [if_pos h2]
        exact ⟨fun h2 => by omega, fun _ => rfl⟩
      · rw [if_neg h2]
        exact ih2 (by omega) hr
theorem atoi_dig (l : List UInt8) (hne : l ≠ []) (hd : digL l) : (decVal 0 l < 9223372036854775808 → Lib.atoiAll l = .ok (decVal 0 l : Int)) ∧ (9223372036854775808 ≤ decVal 0 l → Lib.atoiAll l = .range) := by
  cases l with
  | nil => exact absurd rfl hne
  | cons c r =>
    have hc := hd c (by simp)
    have h43 : ¬ (c.toNat = 43 ∨ c.toNat = 45) := by omega
    have h45 : ¬ c.toNat = 45 := by omega
    obtain ⟨p1, p2⟩ := parse_dig (c :: r) 0 (by omega) hd
    have e : Lib.parseMag (if c.toNat = 43 ∨ c.toNat = 45 then r else c :: r) = Lib.parseUint10 0 (c :: r) := by
      rw [if_neg h43]
      unfold Lib.parseMag
      rw [if_neg (by simp)]
    generalize hv : decVal 0 (c :: r) = v at *
    constructor
    · intro h
      simp only [Lib.atoiAll, e, p1 (by omega)]
      rw [if_neg (by omega), if_neg (by omega), if_neg h45]
    · intro h
      by_cases h2 : v < 18446744073709551616
      · simp only [Lib.atoiAll, e, p1 h2]
        rw [if_pos ⟨h45, h⟩]
      · simp only [Lib.atoiAll, e, p2 (by omega)]
theorem readEnd_dig (l : List UInt8) (hne : l ≠ []) (hd : digL l) (m : Int) (hm : m ≤ 9223372036854775807) : readEnd (Lib.atoiAll l) m = if m < (decVal 0 l : Int) then (0, 2) else ((decVal 0 l : Int), 0) := by
  obtain ⟨p1, p2⟩ := atoi_dig l hne hd
  generalize decVal 0 l = v at *
  by_cases h : v < 9223372036854775808
  · rw [p1 h]; rfl
  · rw [p2 (by omega), if_pos (by omega)]; rfl
theorem data_len (s : ByteArray) : s.data.toList.length = s.size := by rw [Array.length_toList]; rfl
theorem bt_data (s : ByteArray) (i : Nat) (h : i < s.size) : bt s (i : Int) = ((s.data.toList[i]'(by rw [data_len]; exact h)).toNat : Int) := by
  unfold bt
  have h2 : (i : Int).toNat < s.size := by simpa using h
  rw [dif_pos h2]
  rfl
theorem dig_data (s : ByteArray) (h : allDig s) : digL s.data.toList := by
  intro c hc
  obtain ⟨i, hi, rfl⟩ := List.getElem_of_mem hc
  have hi2 : i < s.size := by rw [← data_len]; exact hi
  have := h i hi2
  rw [bt_data s i hi2] at this
  omega
theorem wr_i (i n : Nat) (h : i < n) (hn : n ≤ 281474976710656) : wrap64 ((i : Int) + 1) = ((i + 1 : Nat) : Int) := by unfold wrap64; omega
theorem wr_m (m : Int) (q : Nat) (h0 : (q : Int) ≤ m) (h1 : m ≤ 9223372036854775807) : wrap64 (Int.tdiv (wrap64 (m - (q : Int))) 10) = (m - (q : Int)) / 10 := by
  have e1 : wrap64 (m - (q : Int)) = m - (q : Int) := by unfold wrap64; omega
  rw [e1, Int.tdiv_eq_ediv_of_nonneg (by omega)]
  unfold wrap64; omega
theorem wr_n (acc q : Nat) (m : Int) (h1 : m ≤ 9223372036854775807) (h : ((acc * 10 + q : Nat) : Int) ≤ m) : wrap64 (wrap64 (10 * (acc : Int)) + (q : Int)) = ((acc * 10 + q : Nat) : Int) := by
  have e1 : wrap64 (10 * (acc : Int)) = 10 * (acc : Int) := by unfold wrap64; omega
  rw [e1]; unfold wrap64; omega
theorem wr_d (b : Int) (n : Nat) (hb : b = (n : Int)) (h : 48 ≤ n ∧ n ≤ 57) : (b - 48) % 256 = ((n - 48 : Nat) : Int) := by rw [hb]; omega
theorem read_l1 (s : ByteArray) (m : Int) (hm1 : m ≤ 9223372036854775807) (hs : s.size ≤ 281474976710656) (hd : allDig s) (d : Nat) : ∀ i : Nat, ∀ acc : Nat, s.size - i = d → i ≤ s.size → ((acc : Int) ≤ m ∨ (i = 0 ∧ acc = 0)) →
    Ev (fun k => camletref01_Read.l1 k s m (acc : Int) (i : Int)) (if i < s.size ∨ (acc : Int) ≤ m then (if m < (decVal acc (s.data.toList.drop i) : Int) then (0, 2) else ((decVal acc (s.data.toList.drop i) : Int), 0)) else ((acc : Int), 0)) := by
  induction d with
  | zero =>
    intro i acc hd' hi hacc
    have : i = s.size := by omega
    subst this
    refine Ev.step (f := fun _ => some ((acc : Int), 0)) (fun k => ?_) ?_
    · simp only [camletref01_Read.l1]
      rw [if_neg (by omega)]
    · have e : s.data.toList.drop s.size = [] := by rw [← data_len]; exact List.drop_length
      rw [e]
      by_cases h : (acc : Int) ≤ m
      · rw [if_pos (Or.inr h), decVal_nil, if_neg (by omega)]
        exact Ev.now _
      · rw [if_neg (by omega)]
        exact Ev.now _
  | succ d ih =>
    intro i acc hd' hi hacc
    have hlt : i < s.size := by omega
    have hlt2 : i < s.data.toList.length := by rw [data_len]; exact hlt
    obtain ⟨h48, h57⟩ := hd i hlt
    have hb := bt_data s i hlt
    have hdrop : s.data.toList.drop i = s.data.toList[i] :: s.data.toList.drop (i + 1) := List.drop_eq_getElem_cons hlt2
    generalize s.data.toList[i] = c at hb hdrop
    rw [hb] at h48 h57
    have hst := dstep_is acc c
    generalize hv : c.toNat = n at hb h48 h57 hst
    have hdig := wr_d _ n hb ⟨by omega, by omega⟩
    rw [hdrop, if_pos (Or.inl hlt), decVal_cons]
    have hi1 := wr_i i _ hlt hs
    have hle := decVal_le (s.data.toList.drop (i + 1)) (dstep acc c)
    have hdS : s.size - (i + 1) = d := by rw [Nat.sub_add_eq, hd', Nat.add_sub_cancel]
    have hiS : i + 1 ≤ s.size := hlt
    have h0i : (0 : Int) ≤ (i : Int) := Int.natCast_nonneg i
    have hlti : (i : Int) < (s.size : Int) := Int.ofNat_lt.mpr hlt
    have ih2 := ih (i + 1) (dstep acc c) hdS hiS
    clear ih hv hdrop hd hb h48 h57 hlt2 hd' hi
    generalize decVal (dstep acc c) (s.data.toList.drop (i + 1)) = v at hle ih2 ⊢
    generalize dstep acc c = e at hle ih2 hst ⊢
    generalize n - 48 = q at hst hdig
    have l1s : ∀ k, camletref01_Read.l1 (k + 1) s m (acc : Int) (i : Int) = if (q : Int) > m then some (0, 2) else if (acc : Int) > wrap64 (Int.tdiv (wrap64 (m - (q : Int))) 10) then some (0, 2) else camletref01_Read.l1 k s m (wrap64 (wrap64 (10 * (acc : Int)) + (q : Int))) (wrap64 ((i : Int) + 1)) := by
      intro k
      simp only [camletref01_Read.l1]
      rw [if_pos hlti, if_pos h0i, hdig]
    clear hdig
    by_cases h1 : (q : Int) > m
    · refine Ev.step (f := fun _ => some (0, 2)) (fun k => by rw [l1s, if_pos h1]) ?_
      clear l1s ih2
      rw [if_pos (by omega)]
      exact Ev.now _
    · have hw := wr_m m q (by omega) hm1
      by_cases h2 : (acc : Int) > (m - (q : Int)) / 10
      · refine Ev.step (f := fun _ => some (0, 2)) (fun k => by rw [l1s, if_neg h1, hw, if_pos h2]) ?_
        clear l1s ih2 hw hi1
        rw [if_pos (by omega)]
        exact Ev.now _
      · have hem : (e : Int) ≤ m := by clear l1s ih2 hw hi1; omega
        have hn := wr_n acc q m hm1 (by rw [← hst]; exact hem)
        rw [← hst] at hn
        refine Ev.step (f := fun k => camletref01_Read.l1 k s m (e : Int) ((i + 1 : Nat) : Int)) (fun k => by rw [l1s, if_neg h1, hw, if_neg h2, hn, hi1]) ?_
        have := ih2 (Or.inl hem)
        rw [if_pos (Or.inr hem)] at this
        exact this
theorem read_l0 (s : ByteArray) (m : Int) (hs : s.size ≤ 281474976710656) (r : Int × Int) (hl1 : allDig s → Ev (fun k => camletref01_Read.l1 k s m 0 0) r) (d : Nat) : ∀ i : Nat, s.size - i = d → i ≤ s.size → (∀ j : Nat, j < i → 48 ≤ bt s j ∧ bt s j ≤ 57) →
    Ev (fun k => camletref01_Read.l0 k s m (i : Int)) (if allDig s then r else (0, 3)) := by
  induction d with
  | zero =>
    intro i hd hi hp
    have : i = s.size := by omega
    subst this
    have ha : allDig s := hp
    rw [if_pos ha]
    refine Ev.step (f := fun k => camletref01_Read.l1 k s m 0 0) (fun k => ?_) (hl1 ha)
    simp only [camletref01_Read.l0]
    rw [if_neg (by omega)]
  | succ d ih =>
    intro i hd hi hp
    have hlt : i < s.size := by omega
    have hi1 := wr_i i _ hlt hs
    have h0i : (0 : Int) ≤ (i : Int) := Int.natCast_nonneg i
    have hlti : (i : Int) < (s.size : Int) := Int.ofNat_lt.mpr hlt
    by_cases h1 : bt s i < 48
    · refine Ev.step (f := fun _ => some (0, 3)) (fun k => ?_) ?_
      · simp only [camletref01_Read.l0]
        rw [if_pos hlti, if_pos h0i, if_pos h1]
      · rw [if_neg (fun ha => by have := (ha i hlt).1; clear hi1; omega)]
        exact Ev.now _
    · by_cases h2 : bt s i > 57
      · refine Ev.step (f := fun _ => some (0, 3)) (fun k => ?_) ?_
        · simp only [camletref01_Read.l0]
          rw [if_pos hlti, if_pos h0i, if_neg h1, if_pos h2]
        · rw [if_neg (fun ha => by have := (ha i hlt).2; clear hi1; omega)]
          exact Ev.now _
      · refine Ev.step (f := fun k => camletref01_Read.l0 k s m ((i + 1 : Nat) : Int)) (fun k => ?_) ?_
        · simp only [camletref01_Read.l0]
          rw [if_pos hlti, if_pos h0i, if_neg h1, if_neg h2, hi1]
        · refine ih (i + 1) (by clear hi1; omega) (by clear hi1; omega) (fun j hj => ?_)
          clear hi1
          by_cases e : j = i
          · subst e; exact ⟨by omega, by omega⟩
          · exact hp j (by omega)
theorem refread (s : ByteArray) (m : Int) (hs : s.size ≤ 281474976710656) (hm0 : -9223372036854775808 ≤ m) (hm1 : m ≤ 9223372036854775807) : ∃ r, num_Read.f s m = some r ∧ Ev (fun k => camletref01_Read.f k s m) r := by
  unfold num_Read.f
  rw [if_pos hs]
  by_cases h0 : s.size = 0
  · rw [if_pos h0]
    refine ⟨_, rfl, Ev.congr (f := fun k => camletref01_Read.j0 k s m true) (fun k => by unfold camletref01_Read.f; rw [if_pos (by omega)]) ?_⟩
    exact Ev.step (f := fun _ => some (0, 3)) (fun k => by simp only [camletref01_Read.j0, if_true]) (Ev.now _)
  · rw [if_neg h0]
    have fin : ∀ b : Bool, b = false → Ev (fun k => camletref01_Read.j0 k s m b) (if allDig s then readEnd (Lib.atoiAll s.data.toList) m else (0, 3)) := by
      intro b hb
      subst hb
      refine Ev.step (f := fun k => camletref01_Read.l0 k s m ((0 : Nat) : Int)) (fun k => by simp only [camletref01_Read.j0, Bool.false_eq_true, if_false]; rfl) ?_
      refine read_l0 s m hs _ (fun ha => ?_) _ 0 rfl (Nat.zero_le _) (fun j hj => absurd hj (Nat.not_lt_zero _))
      have hne : s.data.toList ≠ [] := by
        intro e
        have := data_len s
        rw [e] at this
        exact h0 this.symm
      rw [readEnd_dig _ hne (dig_data s ha) m hm1]
      have := read_l1 s m hm1 hs ha _ 0 0 rfl (Nat.zero_le _) (Or.inr ⟨rfl, rfl⟩)
      rw [if_pos (Or.inl (by omega)), List.drop_zero] at this
      exact this
    by_cases h1 : 1 < s.size ∧ bt s 0 = 48
    · rw [if_pos h1]
      refine ⟨_, rfl, Ev.congr (f := fun k => camletref01_Read.j0 k s m true) (fun k => by unfold camletref01_Read.f; rw [if_neg (by omega), if_pos (by omega), if_pos (by omega), beq_iff_eq.mpr h1.2]) ?_⟩
      exact Ev.step (f := fun _ => some (0, 3)) (fun k => by simp only [camletref01_Read.j0, if_true]) (Ev.now _)
    · rw [if_neg h1]
      refine ⟨if allDig s then readEnd (Lib.atoiAll s.data.toList) m else (0, 3), by split <;> rfl, ?_⟩
      by_cases h2 : 1 < s.size
      · exact Ev.congr (f := fun k => camletref01_Read.j0 k s m (bt s 0 == 48)) (fun k => by unfold camletref01_Read.f; rw [if_neg (by omega), if_pos (by omega), if_pos (by omega)]) (fin _ (beq_eq_false_iff_ne.mpr fun e => h1 ⟨h2, e⟩))
      · exact Ev.congr (f := fun k => camletref01_Read.j0 k s m false) (fun k => by unfold camletref01_Read.f; rw [if_neg (by omega), if_neg (by omega)]) (fin _ rfl)
/-- digits of a number spell it -/
theorem dec_val (u : Nat) : decVal 0 (Lib.decDigits u) = u ∧ digL (Lib.decDigits u) ∧ (Lib.decDigits u ≠ []) ∧ (10 ≤ u → (Lib.decDigits u).head? ≠ some 48) := by
  have hch : ∀ d : Nat, d < 10 → (UInt8.ofNat (48 + d)).toNat = 48 + d := by intro d hd; simp [UInt8.toNat_ofNat]; omega
  induction u using Nat.strongRecOn with
  | _ u ih =>
    rw [Lib.decDigits]
    by_cases h : u < 10
    · rw [dif_pos h]
      refine ⟨?_, ?_, by simp, fun h2 => by omega⟩
      · rw [decVal_cons, decVal_nil, dstep_is, hch u h]; omega
      · intro c hc
        rw [List.mem_singleton.mp hc, hch u h]
        omega
    · rw [dif_neg h]
      obtain ⟨h1, h2, h3, h4⟩ := ih (u / 10) (by omega)
      refine ⟨?_, ?_, by simp, fun _ => ?_⟩
      · rw [decVal_append, h1, decVal_cons, decVal_nil, dstep_is, hch (u % 10) (by omega)]
        omega
      · intro c hc
        rcases List.mem_append.mp hc with hc | hc
        · exact h2 c hc
        · rw [List.mem_singleton.mp hc, hch (u % 10) (by omega)]
          omega
      · cases hl : Lib.decDigits (u / 10) with
        | nil => exact absurd hl h3
        | cons c r =>
          simp only [List.cons_append, List.head?_cons]
          by_cases h5 : 10 ≤ u / 10
          · have := h4 h5
            rw [hl] at this
            simpa using this
          · have h6 : Lib.decDigits (u / 10) = [UInt8.ofNat (48 + u / 10)] := by rw [Lib.decDigits, dif_pos (by omega)]
            rw [h6] at hl
            injection hl with hl1 _
            rw [← hl1]
            intro e
            have := congrArg UInt8.toNat (Option.some.inj e)
            rw [hch (u / 10) (by omega)] at this
            have e48 : (48 : UInt8).toNat = 48 := rfl
            omega
end Go.Proofs.YtcdeekfgdmckmaaDoor.Q
