/- Plain facts on the numbers of layer 1: the wrapped number is the one residue; what the primitives of both texts come to. -/
import Derived.Test.YtgnfobnlipjedaaQx2
namespace Go.Proofs.Ytgnfobnlipjedaa.Pure
open Go.RowKit Go.Proofs.Ytgnfobnlipjedaa.Q Go.Proofs.YtgnfobnlipjedaaW.PrintWords Go.Proofs.YtgnfobnlipjedaaW.PrintLast Go.Proofs.YtgnfobnlipjedaaW.PrintMore
def W (a : Int) : Int := (a + 1073741824) % 2147483648 - 1073741824
theorem nw_W (a : Int) : nw a = W a := by unfold nw W wrap64 wrap32; omega
theorem wrap_f (a : Int) : num_Wrap.f a = some (W a) := by rw [← nw_W]; rfl
theorem W_bound (a : Int) : -1073741824 ≤ W a ∧ W a < 1073741824 := by unfold W; omega
theorem W_id {a : Int} (h : -1073741824 ≤ a) (h2 : a < 1073741824) : W a = a := by unfold W; omega
theorem W_W (a : Int) : W (W a) = W a := W_id (W_bound a).1 (W_bound a).2
theorem tmod_pos {a n : Int} (h : 0 ≤ a) : Int.tmod a n = a % n := Int.tmod_eq_emod_of_nonneg h
theorem tmod_neg {a n : Int} (h : a < 0) : Int.tmod a n = -((-a) % n) := by
  have := Int.neg_tmod (-a) n
  rw [Int.neg_neg] at this
  rw [this, Int.tmod_eq_emod_of_nonneg (by omega)]
theorem tdiv_pos {a n : Int} (h : 0 ≤ a) (_ : 0 ≤ n) : Int.tdiv a n = a / n := Int.tdiv_eq_ediv_of_nonneg h
theorem refwrap_f (a : Int) : camletref01_Wrap.f a = some (W a) := by
  unfold camletref01_Wrap.f
  have h : Int.tmod a 2147483648 = if 0 ≤ a then a % 2147483648 else -((-a) % 2147483648) := by
    by_cases h : 0 ≤ a
    · rw [if_pos h, tmod_pos h]
    · rw [if_neg h, tmod_neg (by omega)]
  generalize Int.tmod a 2147483648 = m at h
  unfold W wrap64
  by_cases h0 : 0 ≤ a
  · rw [if_pos h0] at h; split <;> split <;> congr 1 <;> omega
  · rw [if_neg h0] at h; split <;> split <;> congr 1 <;> omega
theorem knows_f : camletlaw01_knows.f = some true := by decide +kernel
end Go.Proofs.Ytgnfobnlipjedaa.Pure
