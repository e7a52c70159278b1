/- num.Read: a decimal numeral read up to a greatest number, over the shelf's contracts on strconv.Atoi. -/
import Derived.Test.YtlhkojnocconfaaDoorQx0
import Derived.Test.YtlhkojnocconfaaDoorLaid
--@needs XLaid
import Derived.Test.YtlhkojnocconfaaDoorShelf
import Derived.Lib.AtoiAll
namespace Go.Proofs.YtlhkojnocconfaaDoor.Q
open Go.RowKit Go.Proofs.YtlhkojnocconfaaDoorW.PrintWords Go.Proofs.YtlhkojnocconfaaDoorW.PrintLast Go.Proofs.YtlhkojnocconfaaDoorW.PrintMore
attribute [local go_sem] max2_int min2_int max_two min_two max_three min_three max_four min_four   -- for this text's walks alone
set_option linter.unusedVariables false
set_option linter.unusedSimpArgs false

def allDig (s : ByteArray) : Prop := ∀ i : Nat, i < s.size → 48 ≤ bt s i ∧ bt s i ≤ 57
instance (s : ByteArray) : Decidable (allDig s) := inferInstanceAs (Decidable (∀ i : Nat, i < s.size → _))
def readEnd (e : Lib.NumEnd Int) (m : Int) : Int × Int := match e with
  | .ok v => if m < v then (0, 2) else (v, 0)
  | _ => (0, 2)
def num_Read.f (a0 : ByteArray) (a1 : Int) : Option (Int × Int) :=
  if a0.size ≤ 281474976710656 then
    (if a0.size = 0 then some (0, 3) else if 1 < a0.size ∧ bt a0 0 = 48 then some (0, 3) else if allDig a0 then some (readEnd (Lib.atoiAll a0.data.toList) a1) else some (0, 3))
  else none
theorem read_bad {a0 : ByteArray} {a1 r1 r2 : Int} {j : Nat} (h : (if allDig a0 then some (readEnd (Lib.atoiAll a0.data.toList) a1) else some (0, 3)) = some (r1, r2)) (hj : j < a0.size) (hd : bt a0 j < 48 ∨ 57 < bt a0 j) : 0 = r1 ∧ 3 = r2 := by
  rw [if_neg (fun ha => by have := ha j hj; omega)] at h
  exact Prod.mk.inj (Option.some.inj h)
theorem read_good {a0 : ByteArray} {a1 r1 r2 : Int} (h : (if allDig a0 then some (readEnd (Lib.atoiAll a0.data.toList) a1) else some (0, 3)) = some (r1, r2)) (hd : ∀ i : Nat, i < a0.size → 48 ≤ bt a0 i ∧ bt a0 i ≤ 57) : readEnd (Lib.atoiAll a0.data.toList) a1 = (r1, r2) := by
  rw [if_pos (show allDig a0 from hd)] at h
  exact Option.some.inj h
theorem dig_snoc {a0 : ByteArray} {j : Nat} (h : ∀ i : Nat, i < j → 48 ≤ bt a0 i ∧ bt a0 i ≤ 57) (h1 : 48 ≤ bt a0 j) (h2 : bt a0 j ≤ 57) : ∀ i : Nat, i < j + 1 → 48 ≤ bt a0 i ∧ bt a0 i ≤ 57 := by
  intro i hi
  by_cases e : i = j
  · subst e; exact ⟨h1, h2⟩
  · exact h i (by omega)
theorem below_ok {w w1 : World} {T : Nat} (h : w1 = w ∨ ∃ t, w1 = Lib.bytesWorld w T t) : Below w.heap.size w w1 := by
  rcases h with rfl | ⟨t, rfl⟩
  · exact Below.refl _ _
  · exact bytes_below (Below.refl _ _) (Nat.le_refl _) _ _
theorem ba_nil {s : ByteArray} (h : s.size = 0) : s = ⟨#[]⟩ := by
  obtain ⟨d⟩ := s
  have h2 : d.size = 0 := h
  rw [Array.eq_empty_of_size_eq_zero h2]
set_option maxHeartbeats 4000000 in
set_option maxRecDepth 100000 in
theorem num_Read.calls (a0 : ByteArray) (a1 : Int) (r1 : Int) (r2 : Int) (w : World) (hG : Laid w) (h : num_Read.f a0 a1 = some (r1, r2)) :
    Calls Tryd.prog 68 #[.string a0, .int .i64 a1] w fun e w' => e = .returned (.tuple #[.int .i64 r1, .int .i64 r2]) ∧ Below w.heap.size w w' := by
  unfold num_Read.f at h
  by_cases hz : a0.size ≤ 281474976710656
  case neg => rw [if_neg hz] at h; cases h
  rw [if_pos hz] at h
  by_cases h0 : a0.size = 0
  · rw [if_pos h0] at h
    obtain ⟨rfl, rfl⟩ := Prod.mk.inj (Option.some.inj h)
    obtain rfl := ba_nil h0
    clear h0 hz
    go_enter Tryd.func68, Tryd.ntmps68
    go_wp2
    go_ret2
    exact ⟨rfl, Below.refl _ _⟩
  rw [if_neg h0] at h
  have hem : a0.toList.isEmpty = false := by
    rw [ByteArray.toList_eq]
    have : a0.data.toList.length = a0.size := by rw [Array.length_toList]; rfl
    cases hl : a0.data.toList with
    | nil => rw [hl] at this; exact absurd this.symm h0
    | cons _ _ => rfl
  by_cases h1 : 1 < a0.size ∧ bt a0 0 = 48
  · rw [if_pos h1] at h
    obtain ⟨rfl, rfl⟩ := Prod.mk.inj (Option.some.inj h)
    obtain ⟨h2, h3⟩ := h1
    have hb : ∀ h : 0 < a0.size, ((a0[0]'h).toNat : Int) = 48 := fun h => (bt_at a0 0 h).trans h3
    have q0 : 0 < a0.size := by omega
    have q1 := eq_true q0
    have q2 : decide (1 < a0.size) = true := decide_eq_true h2
    have q3 : decide (1 < (a0.size : Int)) = true := decide_eq_true (by omega)
    clear h0 hz h h3 h2 q0
    go_enter Tryd.func68, Tryd.ntmps68
    go_wp2
    go_ret2
    exact ⟨rfl, Below.refl _ _⟩
  rw [if_neg h1] at h
  have HH := Aside0.mk h
  have hmax : a0.size ≤ 9223372036854775806 := by omega
  have HZ := Aside0.mk hz
  have HM := Aside0.mk hmax
  have HG := Aside0.mk hG
  have hsz : 0 < a0.size := by omega
  have hsz2 := eq_true hsz
  have h1' : (decide (1 < a0.size) = false ∧ decide (1 < (a0.size : Int)) = false) ∨ ((decide (1 < a0.size) = true ∧ decide (1 < (a0.size : Int)) = true) ∧ (bt a0 0 == 48) = false) := by
    by_cases h2 : 1 < a0.size
    · exact Or.inr ⟨⟨decide_eq_true h2, decide_eq_true (by omega)⟩, beq_eq_false_iff_ne.mpr fun e => h1 ⟨h2, e⟩⟩
    · exact Or.inl ⟨decide_eq_false h2, decide_eq_false (by omega)⟩
  have hb0 : ∀ h : 0 < a0.size, ((a0[0]'h).toNat : Int) = bt a0 0 := fun h => bt_at a0 0 h
  clear h h0 h1 hz hmax hG hsz
  rcases h1' with ⟨e1, e2⟩ | ⟨⟨e1, e2⟩, e3⟩
  all_goals
    go_enter Tryd.func68, Tryd.ntmps68
    go_wp2
    go_loop [23] (fun v => ∃ j : Nat, j ≤ a0.size ∧ v = .int .i64 j ∧ Aside0 (∀ i : Nat, i < j → 48 ≤ bt a0 i ∧ bt a0 i ≤ 57)) (fun v => a0.size - (intOf v).toNat)
    case atStart => exact ⟨0, Nat.zero_le _, rfl, Aside0.mk (fun i hi => absurd hi (Nat.not_lt_zero _))⟩
    case round =>
      obtain ⟨j, hj, rfl, HD⟩ := hrel
      have hM : a0.size ≤ 281474976710656 := HZ.out
      by_cases hlt : j < a0.size
      · have hb : ∀ h : j < a0.size, ((a0[j]'h).toNat : Int) = bt a0 j := fun h => bt_at a0 j h
        by_cases c1 : bt a0 j < 48
        · have c1b := decide_eq_true c1
          obtain ⟨rfl, rfl⟩ := read_bad HH.out hlt (Or.inl c1)
          clear c1
          go_wp2
          go_ret2
          exact ⟨rfl, Below.refl _ _⟩
        · have c1b := decide_eq_false c1
          by_cases c2 : 57 < bt a0 j
          · have c2b := decide_eq_true c2
            obtain ⟨rfl, rfl⟩ := read_bad HH.out hlt (Or.inr c2)
            clear c1 c2
            go_wp2
            go_ret2
            exact ⟨rfl, Below.refl _ _⟩
          · have c2b := decide_eq_false c2
            have HD2 := Aside0.mk (dig_snoc HD.out (by omega) (by omega))
            clear c1 c2 HD
            go_wp2
            go_round
            case rel => exact ⟨j + 1, by omega, by go_num, HD2⟩
            case measure => simp [intOf]; omega
      · obtain rfl : j = a0.size := by omega
        have hr := read_good HH.out HD.out
        rcases he : Lib.atoiAll a0.data.toList with v | _ | _
        · rw [he] at hr
          have HE := Aside0.mk he
          clear he
          by_cases hv : a1 < v
          · have hv2 := decide_eq_true hv
            obtain ⟨rfl, rfl⟩ := Prod.mk.inj ((show (0, 2) = (r1, r2) from by rw [← hr]; exact (if_pos hv).symm))
            clear hr hv
            go_wp2_with (go_at_call 72; refine (Tryd.strconv_Atoi_ok a0 HM.out v HE.out _).mono ?_; rintro e w1 ⟨rfl, hw⟩; have HB := Aside0.mk (below_ok hw); clear hw)
            go_ret2
            exact ⟨rfl, HB.out⟩
          · have hv2 := decide_eq_false hv
            obtain ⟨rfl, rfl⟩ := Prod.mk.inj ((show (v, 0) = (r1, r2) from by rw [← hr]; exact (if_neg hv).symm))
            clear hr hv
            go_wp2_with (go_at_call 72; refine (Tryd.strconv_Atoi_ok a0 HM.out v HE.out _).mono ?_; rintro e w1 ⟨rfl, hw⟩; have HB := Aside0.mk (below_ok hw); clear hw)
            go_ret2
            exact ⟨rfl, HB.out⟩
        · rw [he] at hr
          have HE := Aside0.mk he
          obtain ⟨rfl, rfl⟩ := Prod.mk.inj (show (0, 2) = (r1, r2) from hr)
          clear he hr
          obtain ⟨tp, p, hvar⟩ := HG.out.2.2.1.1
          have HV := Aside0.mk hvar
          clear hvar
          go_wp2_with (go_at_call 72; refine (Tryd.strconv_Atoi_syntax_var a0 HZ.out HE.out tp p _ HV.out).mono ?_; rintro e w1 ⟨N, rfl, h1, h2, hb⟩; have HB := Aside0.mk hb; clear h1 h2 hb)
          go_ret2
          exact ⟨rfl, HB.out⟩
        · rw [he] at hr
          have HE := Aside0.mk he
          obtain ⟨rfl, rfl⟩ := Prod.mk.inj (show (0, 2) = (r1, r2) from hr)
          clear he hr
          obtain ⟨tp, p, hvar⟩ := HG.out.2.2.1.2
          have HV := Aside0.mk hvar
          clear hvar
          go_wp2_with (go_at_call 72; refine (Tryd.strconv_Atoi_range_var a0 HZ.out HE.out tp p _ HV.out).mono ?_; rintro e w1 ⟨N, rfl, h1, h2, hb⟩; have HB := Aside0.mk hb; clear h1 h2 hb)
          go_ret2
          exact ⟨rfl, HB.out⟩
end Go.Proofs.YtlhkojnocconfaaDoor.Q
