/- Box, Unbox and IsInt agree with the reference for every number and word. -/
import Derived.Laws.BitsAllLaws
import Derived.Test.YtgnfobnlipjedaaQx3
import Derived.Test.YtgnfobnlipjedaaNumPlain
namespace Go.Proofs.Ytgnfobnlipjedaa.Pure
open Go.RowKit Go.Proofs.Ytgnfobnlipjedaa.Q Go.Proofs.YtgnfobnlipjedaaW.PrintWords Go.Proofs.YtgnfobnlipjedaaW.PrintLast Go.Proofs.YtgnfobnlipjedaaW.PrintMore
theorem or_one (n : Nat) : (n * 2) ||| 1 = n * 2 + 1 := by
  have h : 2 * n + 1 = 2 * n ||| 1 := by simpa using Nat.two_pow_add_eq_or_of_lt (i := 1) (b := 1) (by decide) n
  rw [Nat.mul_comm n 2, ← h]
theorem box_f (n : Int) : num_Box.f n = some ((2 * W n + 1) % 4294967296) := by
  unfold num_Box.f
  rw [u32_or _ _ (by omega) (by omega) (by omega) (by omega)]
  congr 1
  have e : ((n % 4294967296 * 2) % 4294967296).toNat = (n % 2147483648).toNat * 2 := by omega
  rw [e, show (1 : Int).toNat = 1 from rfl, or_one]
  unfold W
  omega
theorem refbox_f (n : Int) : camletref01_Box.f n = some ((2 * W n + 1) % 4294967296) := by
  unfold camletref01_Box.f
  rw [refwrap_f]
  have := W_bound n
  simp only [Option.bind_some]
  congr 1
  unfold wrap64
  omega
theorem unbox_f (w : Int) : num_Unbox.f w = some (W (w / 2)) := by
  unfold num_Unbox.f W wrap64 wrap32
  congr 1
  omega
theorem refunbox_f (w : Int) (h0 : 0 ≤ w) (h1 : w < 4294967296) : camletref01_Unbox.f w = some (W (w / 2)) := by
  unfold camletref01_Unbox.f
  rw [refwrap_f, Int.tdiv_eq_ediv_of_nonneg h0]
  simp only [Option.bind_some]
  rw [show w / 2 % 4294967296 = w / 2 by omega]
theorem isint_f (w : Int) (h0 : 0 ≤ w) (h1 : w < 4294967296) : num_IsInt.f w = some (decide (w % 2 = 1)) := by
  unfold num_IsInt.f
  rw [u32_and _ _ (by omega) (by omega) (by omega) (by omega), show (1 : Int).toNat = 1 from rfl, Nat.and_one_is_mod]
  congr 1
  rw [Bool.eq_iff_iff]
  simp
  omega
theorem refisint_f (w : Int) (h0 : 0 ≤ w) : camletref01_IsInt.f w = some (decide (w % 2 = 1)) := by
  unfold camletref01_IsInt.f
  rw [Int.tmod_eq_emod_of_nonneg h0]
  rfl
theorem NumWords : camletlaw01_NumWords.Pure := by
  intro n w _ hw
  have hb : 0 ≤ w ∧ w < 4294967296 := by
    have h : IntKind.u32.min ≤ w ∧ w ≤ IntKind.u32.max := by simpa [Lit.wf] using hw
    rw [show IntKind.u32.min = 0 from by decide, show IntKind.u32.max = 4294967295 from by decide] at h
    omega
  unfold camletlaw01_NumWords.f
  rw [box_f, refbox_f, unbox_f w, refunbox_f w hb.1 hb.2, isint_f w hb.1 hb.2, refisint_f w hb.1]
  simp [knows_f]
end Go.Proofs.Ytgnfobnlipjedaa.Pure
