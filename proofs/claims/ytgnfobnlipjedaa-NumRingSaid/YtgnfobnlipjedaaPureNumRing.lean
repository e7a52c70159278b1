/- Wrapping the operands ahead of a sum, a difference or a product makes no difference, and quotient times divisor plus remainder is the dividend. -/
import Derived.Test.YtgnfobnlipjedaaQx2
import Derived.Test.YtgnfobnlipjedaaNumPlain
namespace Go.Proofs.Ytgnfobnlipjedaa.Pure
open Go.RowKit Go.Proofs.Ytgnfobnlipjedaa.Q Go.Proofs.YtgnfobnlipjedaaW.PrintWords Go.Proofs.YtgnfobnlipjedaaW.PrintLast Go.Proofs.YtgnfobnlipjedaaW.PrintMore
theorem quot (x y : Int) (hx : -1073741824 ≤ x) (hx2 : x < 1073741824) (hy : -1073741824 ≤ y) (hy2 : y < 1073741824) (h0 : y ≠ 0) :
    W (wrap64 (wrap64 (W (wrap64 (Int.tdiv x y)) * y) + W (Int.tmod x y))) = x ∧ W (Int.tmod x y) = Int.tmod x y ∧ Int.tmod x y < mx y (wrap64 (-y)) ∧ wrap64 (-(Int.tmod x y)) < mx y (wrap64 (-y)) ∧ (Int.tmod x y = 0 ∨ (Int.tmod x y < 0 ↔ x < 0)) := by
  have e : y * Int.tdiv x y + Int.tmod x y = x := Int.mul_tdiv_add_tmod x y
  have b1 : (Int.tmod x y).natAbs < y.natAbs := by
    have := Int.natAbs_tmod x y
    rw [this]
    exact Nat.mod_lt _ (by omega)
  have b2 : (Int.tdiv x y).natAbs ≤ x.natAbs := by
    rw [Int.natAbs_tdiv]
    exact Nat.div_le_self _ _
  have s : Int.tmod x y = 0 ∨ (Int.tmod x y < 0 ↔ x < 0) := by
    by_cases hz : Int.tmod x y = 0
    · exact .inl hz
    · right
      by_cases hp : 0 ≤ x
      · have := Int.tmod_nonneg y hp
        omega
      · have h1 := Int.tmod_nonneg (a := -x) y (by omega)
        rw [Int.neg_tmod] at h1
        omega
  generalize hq : Int.tdiv x y = q at *
  generalize hr : Int.tmod x y = r at *
  have hm : mx y (wrap64 (-y)) = if y < -y then -y else y := by
    have : wrap64 (-y) = -y := by unfold wrap64; omega
    rw [this]; rfl
  have hrr : W r = r := W_id (by omega) (by omega)
  have hwr : wrap64 (-r) = -r := by unfold wrap64; omega
  have hwq : wrap64 q = q := by unfold wrap64; omega
  rw [hm, hrr, hwr, hwq]
  refine ⟨?_, rfl, by split <;> omega, by split <;> omega, s⟩
  by_cases hb : q < 1073741824
  · rw [W_id (a := q) (by omega) hb, Int.mul_comm q y]
    have : y * q = x - r := by omega
    rw [this]
    have : wrap64 (x - r) = x - r := by unfold wrap64; omega
    rw [this]
    have : wrap64 (x - r + r) = x := by unfold wrap64; omega
    rw [this]
    exact W_id hx hx2
  · have hq1 : q = 1073741824 := by omega
    have hx1 : x = -1073741824 := by omega
    subst hq1 hx1
    have hWq : W 1073741824 = -1073741824 := by decide
    rw [hWq]
    have hy1 : y = -1 := by omega
    subst hy1
    have : r = 0 := by omega
    subst this
    decide +kernel
theorem NumRing : camletlaw01_NumRing.Pure := by
  intro a b _ _
  refine ⟨1, ?_⟩
  have hd : ∀ p, num_Do.f p a b = if p < 1 then some (0, 28) else if 9 < p then some (0, 28) else if (p = 4 ∨ p = 5) ∧ W b = 0 then some (0, 2) else some (W (opOf p (W a) (W b)), 0) := by
    intro p; unfold num_Do.f; simp only [nw_W]
  unfold camletlaw01_NumRing.f
  have h1 : num_Do.f 1 a b = some (W (wrap64 (W a + W b)), 0) := by rw [hd]; simp [opOf]
  have h2 : num_Do.f 2 a b = some (W (wrap64 (W a - W b)), 0) := by rw [hd]; simp [opOf]
  have h3 : num_Do.f 3 a b = some (W (wrap64 (W a * W b)), 0) := by rw [hd]; simp [opOf]
  simp only [wrap_f, h1, h2, h3, Option.bind_some, if_true, bne_self_eq_false]
  simp only [camletlaw01_NumRing.j0, Bool.false_eq_true, if_false]
  by_cases h0 : W b = 0
  · have h4 : num_Do.f 4 a b = some (0, 2) := by rw [hd]; simp [h0]
    have h5 : num_Do.f 5 a b = some (0, 2) := by rw [hd]; simp [h0]
    rw [h4, h5]
    simp [h0, knows_f]
  · have h4 : num_Do.f 4 a b = some (W (wrap64 (Int.tdiv (W a) (W b))), 0) := by rw [hd]; simp [opOf, h0]
    have h5 : num_Do.f 5 a b = some (W (Int.tmod (W a) (W b)), 0) := by rw [hd]; simp [opOf, h0]
    rw [h4, h5]
    obtain ⟨q1, q2, q3, q4, q5⟩ := quot (W a) (W b) (W_bound a).1 (W_bound a).2 (W_bound b).1 (W_bound b).2 h0
    have w0 : wrap64 (0 + 0) = 0 := by decide +kernel
    simp only [Option.bind_some, w0, if_true, if_neg h0, wrap_f, q1]
    rw [q2, if_pos q3, if_pos q4]
    by_cases hz : Int.tmod (W a) (W b) = 0
    · rw [if_pos hz, knows_f]; rfl
    · rw [if_neg hz]
      have hs : (decide (Int.tmod (W a) (W b) < 0) == decide (W a < 0)) = true := by
        rcases q5 with q5 | q5
        · exact absurd q5 hz
        · simp [q5]
      rw [if_pos hs, knows_f]; rfl
end Go.Proofs.Ytgnfobnlipjedaa.Pure
