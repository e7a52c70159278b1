/- What is boxed is unboxed; what is shown is read again, or starts with a minus. -/
import Derived.Test.YtgnfobnlipjedaaDoorReadPlain
import Derived.Laws.BitsAllLaws
import Derived.Lib.ItoaLen
import Derived.Test.YtgnfobnlipjedaaDoorStNumBack
namespace Go.Proofs.YtgnfobnlipjedaaDoor.Q
open Go.RowKit Go.Proofs.YtgnfobnlipjedaaDoorW.PrintWords Go.Proofs.YtgnfobnlipjedaaDoorW.PrintLast Go.Proofs.YtgnfobnlipjedaaDoorW.PrintMore
set_option linter.unusedVariables false
set_option linter.unusedSimpArgs false

theorem nb_knows : camletlaw01_knows.f = some true := by decide +kernel
theorem nb_i64 {H : Type} {x : Int} {y : DataW H} (h : Dint .i64 H x y) : -9223372036854775808 ≤ x ∧ x ≤ 9223372036854775807 := by
  have h2 : IntKind.i64.min ≤ x ∧ x ≤ IntKind.i64.max := by simpa [Lit.wf] using h.2
  rw [show IntKind.i64.min = -9223372036854775808 from rfl, show IntKind.i64.max = 9223372036854775807 from rfl] at h2
  exact h2
theorem nb_u32 {H : Type} {x : Int} {y : DataW H} (h : Dint .u32 H x y) : 0 ≤ x ∧ x < 4294967296 := by
  have h2 : IntKind.u32.min ≤ x ∧ x ≤ IntKind.u32.max := by simpa [Lit.wf] using h.2
  rw [show IntKind.u32.min = 0 from rfl, show IntKind.u32.max = 4294967295 from rfl] at h2
  omega
def WB (a : Int) : Int := (a + 1073741824) % 2147483648 - 1073741824
theorem nb_wrap (a : Int) : num_Wrap.f a = some (WB a) := by unfold num_Wrap.f WB wrap64 wrap32; congr 1; omega
theorem nb_or_one (n : Nat) : (n * 2) ||| 1 = n * 2 + 1 := by
  have h : 2 * n + 1 = 2 * n ||| 1 := by simpa using Nat.two_pow_add_eq_or_of_lt (i := 1) (b := 1) (by decide) n
  rw [Nat.mul_comm n 2, ← h]
theorem nb_box (n : Int) : num_Box.f n = some ((2 * WB n + 1) % 4294967296) := by
  unfold num_Box.f
  rw [u32_or _ _ (by omega) (by omega) (by omega) (by omega)]
  congr 1
  have e : ((n % 4294967296 * 2) % 4294967296).toNat = (n % 2147483648).toNat * 2 := by omega
  rw [e, show (1 : Int).toNat = 1 from rfl, nb_or_one]
  unfold WB
  omega
theorem nb_unbox (w : Int) : num_Unbox.f w = some (WB (w / 2)) := by
  unfold num_Unbox.f WB wrap64 wrap32
  congr 1
  omega
theorem nb_isint (w : Int) (h0 : 0 ≤ w) (h1 : w < 4294967296) : num_IsInt.f w = some (decide (w % 2 = 1)) := by
  unfold num_IsInt.f
  rw [u32_and _ _ (by omega) (by omega) (by omega) (by omega), show (1 : Int).toNat = 1 from rfl, Nat.and_one_is_mod]
  congr 1
  rw [Bool.eq_iff_iff]
  simp
  omega
theorem nb_size (l : List UInt8) : (⟨l.toArray⟩ : ByteArray).size = l.length := by
  show l.toArray.size = _
  simp
theorem nb_bt (l : List UInt8) (i : Nat) (h : i < l.length) : bt ⟨l.toArray⟩ (i : Int) = ((l[i]'h).toNat : Int) := by
  rw [bt_data _ i (by rw [nb_size]; exact h)]
theorem nb_read (u : Nat) (hu : (u : Int) ≤ 9223372036854775807) : num_Read.f ⟨(Lib.decDigits u).toArray⟩ (u : Int) = some ((u : Int), 0) := by
  obtain ⟨h1, h2, h3, h4⟩ := dec_val u
  have hl : (Lib.decDigits u).length ≤ 21 := by rw [← Lib.itoa_nonneg]; exact Lib.itoa_length_le _ (by omega) hu
  have hlen : (Lib.decDigits u).length ≠ 0 := fun e => h3 (List.length_eq_zero_iff.mp e)
  have hlt : ¬ 10 ≤ u → (Lib.decDigits u).length = 1 := by
    intro h
    rw [Lib.decDigits, dif_pos (by omega)]
    rfl
  generalize Lib.decDigits u = l at *
  unfold num_Read.f
  rw [if_pos (by rw [nb_size]; omega), if_neg (by rw [nb_size]; omega), if_neg, if_pos, readEnd_dig l h3 h2 _ hu, h1, if_neg (by omega)]
  · intro i hi
    rw [nb_size] at hi
    have hb := nb_bt l i hi
    rw [hb]
    have := h2 l[i] (List.getElem_mem hi)
    clear hb
    omega
  · rw [nb_size]
    intro ⟨hs, hb⟩
    have h10 : 10 ≤ u := by
      by_cases h : 10 ≤ u
      · exact h
      · have := hlt h; omega
    have h5 := h4 h10
    have hb2 := nb_bt l 0 (by omega)
    rw [show (((0 : Nat) : Int)) = 0 from rfl, hb] at hb2
    cases l with
    | nil => exact h3 rfl
    | cons c r =>
      apply h5
      have hc : c.toNat = 48 := by
        have : (48 : Int) = (c.toNat : Int) := hb2
        omega
      show some c = some 48
      congr 1
      exact UInt8.toNat.inj (by rw [hc]; rfl)
theorem nb_ifp {c : Prop} [Decidable c] {a b : Nat → Option Bool} {r : Bool} (h : c) (k : Ev a r) : Ev (fun n => if c then a n else b n) r := Ev.congr (fun _ => if_pos h) k
theorem nb_ifn {c : Prop} [Decidable c] {a b : Nat → Option Bool} {r : Bool} (h : ¬ c) (k : Ev b r) : Ev (fun n => if c then a n else b n) r := Ev.congr (fun _ => if_neg h) k
theorem nb_j0 (n : Int) (hn : -9223372036854775808 ≤ n ∧ n ≤ 9223372036854775807) : Ev (fun k => camletlaw01_NumBack.j0 k n false) true := by
  have eS : num_Show.f n = some ⟨(Lib.itoa n).toArray⟩ := by unfold num_Show.f; rw [if_pos hn]
  refine Ev.step (f := fun _ => some true) (fun k => ?_) (Ev.now _)
  simp only [camletlaw01_NumBack.j0, Bool.false_eq_true, if_false, eS, Option.bind_some, nb_knows]
  by_cases h : n < 0
  · rw [if_pos h]
    obtain ⟨u, rfl⟩ : ∃ u : Nat, n = -(u : Int) := ⟨n.natAbs, by omega⟩
    obtain ⟨h1, h2, h3, h4⟩ := dec_val u
    have hlen : (Lib.decDigits u).length ≠ 0 := fun e => h3 (List.length_eq_zero_iff.mp e)
    rw [Lib.itoa_neg u (by omega)]
    have hsz : (⟨(45 :: Lib.decDigits u).toArray⟩ : ByteArray).size = (Lib.decDigits u).length + 1 := by rw [nb_size]; rfl
    rw [hsz, if_pos (by omega), if_pos (by omega)]
    have hb := nb_bt (45 :: Lib.decDigits u) 0 (by simp)
    rw [if_pos (by exact hb)]
  · rw [if_neg h]
    obtain ⟨u, rfl⟩ : ∃ u : Nat, n = (u : Int) := ⟨n.toNat, by omega⟩
    rw [Lib.itoa_nonneg, nb_read u hn.2]
    simp
theorem NumBack.proved : NumBack.Pure := by
  intro n w ⟨H, y0, y1, h0, h1⟩
  have b0 := nb_i64 h0
  have b1 := nb_u32 h1
  have e1 : WB ((2 * WB n + 1) % 4294967296 / 2) = WB n := by unfold WB; omega
  have e2 : decide ((2 * WB n + 1) % 4294967296 % 2 = 1) = true := decide_eq_true (by omega)
  refine Ev.rounds ?_
  unfold camletlaw01_NumBack.f
  simp only [nb_box, nb_unbox, nb_wrap, Option.bind_some, nb_isint ((2 * WB n + 1) % 4294967296) (by omega) (by omega), nb_isint w b1.1 b1.2, e1, e2, if_true]
  by_cases h : w % 2 = 1
  · refine nb_ifp (decide_eq_true h) ?_
    have e3 : ((2 * WB (WB (w / 2)) + 1) % 4294967296 != w) = false := bne_eq_false_iff_eq.mpr (by unfold WB; omega)
    rw [e3]
    exact nb_j0 n b0
  · exact nb_ifn (by simp [h]) (nb_j0 n b0)
end Go.Proofs.YtgnfobnlipjedaaDoor.Q
