
/- The reference's numeral (camletref01.Show) is the decimal numeral of every int; numbers wrapped. -/
import Derived.Test.YtcdeekfgdmckmaaDoorQx0
import Derived.Test.YtcdeekfgdmckmaaDoorQx7
import Derived.Lib.ItoaLen
namespace Go.Proofs.YtcdeekfgdmckmaaDoor.Q
open Go.RowKit Go.Proofs.YtcdeekfgdmckmaaDoorW.PrintWords Go.Proofs.YtcdeekfgdmckmaaDoorW.PrintLast Go.Proofs.YtcdeekfgdmckmaaDoorW.PrintMore
attribute [local go_sem] max2_int min2_int max_two min_two max_three min_three max_four min_four   -- for this text's walks alone
set_option linter.unusedVariables false
set_option linter.unusedSimpArgs false

theorem tmod_pos31 {a n : Int} (h : 0 ≤ a) : Int.tmod a n = a % n := Int.tmod_eq_emod_of_nonneg h
theorem ba_app0 (a b : List UInt8) : (⟨a.toArray⟩ : ByteArray) ++ ⟨b.toArray⟩ = ⟨(a ++ b).toArray⟩ := by
  apply ByteArray.ext
  simp [ByteArray.data_append]
theorem ba_size0 (a : List UInt8) : (⟨a.toArray⟩ : ByteArray).size = a.length := by
  show a.toArray.size = _
  simp
theorem u64_wrap (x : Int) : IntKind.u64.wrap x = x % 18446744073709551616 := IntKind.wrap_u64 x
/-- the digits of u, none of 0 -/
def digs (u : Nat) : List UInt8 := if u = 0 then [] else Lib.decDigits u
theorem digs_step (u : Nat) (h : 0 < u) : digs u = digs (u / 10) ++ [UInt8.ofNat (48 + u % 10)] := by
  unfold digs
  rw [if_neg (by omega), Lib.decDigits]
  by_cases h1 : u < 10
  · rw [dif_pos h1, if_pos (by omega)]
    rw [Nat.mod_eq_of_lt h1]; rfl
  · rw [dif_neg h1, if_neg (by omega)]
theorem dec_digs (u : Nat) : Lib.decDigits u = digs (u / 10) ++ [UInt8.ofNat (48 + u % 10)] := by
  by_cases h : u = 0
  · subst h; rw [Lib.decDigits]; rfl
  · have := digs_step u (by omega)
    rw [← this]; unfold digs; rw [if_neg h]
theorem one_digit (u : Nat) : strOfNums [IntKind.u64.wrap (48 + Int.tmod (u : Int) 10) % 256] = ⟨([UInt8.ofNat (48 + u % 10)] : List UInt8).toArray⟩ := by
  have e : IntKind.u64.wrap (48 + Int.tmod (u : Int) 10) % 256 = ((48 + u % 10 : Nat) : Int) := by
    rw [u64_wrap, tmod_pos31 (by omega)]
    omega
  rw [e]
  rfl
theorem u64_tdiv (u : Nat) (h : u < 18446744073709551616) : IntKind.u64.wrap (Int.tdiv (u : Int) 10) = ((u / 10 : Nat) : Int) := by
  rw [u64_wrap, Int.tdiv_eq_ediv_of_nonneg (by omega)]
  omega
theorem show_l0 (a : Int) (u : Nat) : ∀ acc : List UInt8, u < 18446744073709551616 → acc.length + (digs u).length ≤ 100 →
    Ev (fun k => camletref01_Show.l0 k a (u : Int) ⟨acc.toArray⟩) ⟨((if a < 0 then [45] else []) ++ digs u ++ acc).toArray⟩ := by
  induction u using Nat.strongRecOn with
  | _ u ih =>
    intro acc hu hl
    by_cases h : u = 0
    · subst h
      refine Ev.step (f := fun _ => some (⟨((if a < 0 then [45] else []) ++ digs 0 ++ acc).toArray⟩ : ByteArray)) (fun k => ?_) (Ev.now _)
      simp only [camletref01_Show.l0]
      rw [if_neg (by omega)]
      by_cases ha : a < 0
      · rw [if_pos ha, if_pos ha, if_pos (by rw [ba_size0]; omega)]
        rw [show (⟨#[45]⟩ : ByteArray) = ⟨([45] : List UInt8).toArray⟩ from rfl, ba_app0]
        simp [digs]
      · rw [if_neg ha, if_neg ha]
        simp [digs]
    · have hs := digs_step u (by omega)
      have hl2 := hl
      rw [hs, List.length_append] at hl2
      simp only [List.length_cons, List.length_nil] at hl2
      refine Ev.step (f := fun k => camletref01_Show.l0 k a ((u / 10 : Nat) : Int) ⟨([UInt8.ofNat (48 + u % 10)] ++ acc).toArray⟩) (fun k => ?_) ?_
      · simp only [camletref01_Show.l0]
        rw [if_pos (by omega)]
        simp only [Option.bind_some]
        rw [one_digit, if_pos (by rw [ba_size0, ba_size0]; simp; omega), u64_tdiv u hu, ba_app0]
      · have := ih (u / 10) (by omega) ([UInt8.ofNat (48 + u % 10)] ++ acc) (by omega) (by simp; omega)
        rw [hs]
        simpa using this
theorem digs_len20 (u : Nat) (h : u < 18446744073709551616) : (digs u).length ≤ 20 := by
  have : ∀ n, ∀ u : Nat, u < 10 ^ n → (digs u).length ≤ n := by
    intro n
    induction n with
    | zero => intro u hu; have : u = 0 := by omega
              subst this; simp [digs]
    | succ n ih =>
      intro u hu
      by_cases h : u = 0
      · subst h; simp [digs]
      · rw [digs_step u (by omega), List.length_append]
        have := ih (u / 10) (by rw [Nat.pow_succ] at hu; omega)
        simp only [List.length_cons, List.length_nil]
        omega
  exact this 20 u (by omega)
theorem refshow (a : Int) (h0 : -9223372036854775808 ≤ a) (h1 : a ≤ 9223372036854775807) : Ev (fun k => camletref01_Show.f k a) ⟨(Lib.itoa a).toArray⟩ := by
  have key : ∀ u : Nat, u < 18446744073709551616 → Ev (fun k => camletref01_Show.j0 k a (u : Int)) ⟨((if a < 0 then [45] else []) ++ Lib.decDigits u).toArray⟩ := by
    intro u hu
    refine Ev.step (f := fun k => camletref01_Show.l0 k a ((u / 10 : Nat) : Int) ⟨([UInt8.ofNat (48 + u % 10)] : List UInt8).toArray⟩) (fun k => ?_) ?_
    · simp only [camletref01_Show.j0]
      rw [one_digit, u64_tdiv u hu]
    · have := show_l0 a (u / 10) [UInt8.ofNat (48 + u % 10)] (by omega) (by have := digs_len20 (u / 10) (by omega); simp; omega)
      rw [dec_digs]
      simpa using this
  by_cases h : a < 0
  · refine Ev.congr (f := fun k => camletref01_Show.j0 k a ((a.natAbs : Nat) : Int)) (fun k => ?_) ?_
    · unfold camletref01_Show.f
      rw [if_pos h, u64_wrap, u64_wrap]
      congr 1
      omega
    · have := key a.natAbs (by omega)
      rw [if_pos h] at this
      unfold Lib.itoa
      rw [if_pos h]
      simpa using this
  · refine Ev.congr (f := fun k => camletref01_Show.j0 k a ((a.toNat : Nat) : Int)) (fun k => ?_) ?_
    · unfold camletref01_Show.f
      rw [if_neg h, u64_wrap]
      congr 1
      omega
    · have := key a.toNat (by omega)
      rw [if_neg h] at this
      unfold Lib.itoa
      rw [if_neg h]
      simpa using this
end Go.Proofs.YtcdeekfgdmckmaaDoor.Q
