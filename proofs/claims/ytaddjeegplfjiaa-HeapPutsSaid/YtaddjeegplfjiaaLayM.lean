/- The laying of a value into memory, told by lists. -/
import Derived.Test.YtaddjeegplfjiaaQx0
import Derived.Test.YtaddjeegplfjiaaQx3
import Derived.Test.YtaddjeegplfjiaaHheapMay
--@needs XHheapMay
--@uses camlet/num.Box
namespace Go.Proofs.Ytaddjeegplfjiaa.Q
open Go.RowKit Go.Proofs.YtaddjeegplfjiaaW.PrintWords Go.Proofs.YtaddjeegplfjiaaW.PrintLast Go.Proofs.YtaddjeegplfjiaaW.PrintMore
attribute [local go_sem] max2_int min2_int max_two min_two max_three min_three max_four min_four   -- for this text's walks alone
set_option linter.unusedVariables false
set_option linter.unusedSimpArgs false

def boxV (n : Int) : Int := (num_Box.f n).getD 0
theorem boxV_eq (n : Int) : num_Box.f n = some (boxV n) := rfl
/-- a closure has one word more -/
def clN (x : S34) : Int := if x.f0 = 3 then 1 else 0
def headV (x : S34) : Int := 1 + 2 * clN x + 16 * (if x.f0 = 3 then 0 else x.f1) + 16384 * ((x.f2.length : Int) + clN x)
def clM (x : S34) (m : List Int) (a : Int) : List Int := if x.f0 = 3 then m.set (a + 1).toNat (2 * x.f1 + 1) else m
def layKids (f : S34 → List Int × Int → Int × (List Int × Int)) : List S34 → Int → List Int × Int → List Int × Int
  | [], _, s => s
  | x :: r, p, s => layKids f r (p + 1) ((f x s).2.1.set p.toNat (f x s).1, (f x s).2.2)
def layV : Nat → S34 → List Int × Int → Int × (List Int × Int)
  | 0, _, s => (0, s)
  | d + 1, x, s => if x.f0 = 1 then (boxV x.f1, s) else
    (4 * s.2, layKids (layV d) x.f2 (s.2 + 1 + clN x) ((clM x s.1 s.2).set s.2.toNat (headV x), s.2 + 1 + clN x + x.f2.length))
def wordsV : Nat → S34 → Int
  | 0, _ => 0
  | d + 1, x => if x.f0 = 1 then 0 else 1 + clN x + x.f2.length + (x.f2.map (wordsV d)).sum
theorem clM_len (x : S34) (m : List Int) (a : Int) : (clM x m a).length = m.length := by unfold clM; split <;> simp
theorem layKids_ok {f : S34 → List Int × Int → Int × (List Int × Int)} {g : S34 → Int} (h1 : ∀ x s, (f x s).2.1.length = s.1.length) (h2 : ∀ x s, (f x s).2.2 = s.2 + g x) : ∀ (l : List S34) (p : Int) (s : List Int × Int), (layKids f l p s).1.length = s.1.length ∧ (layKids f l p s).2 = s.2 + (l.map g).sum := by
  intro l
  induction l with
  | nil => intro p s; exact ⟨rfl, by simp [layKids]⟩
  | cons x r ih =>
    intro p s
    rw [layKids]
    obtain ⟨e1, e2⟩ := ih (p + 1) ((f x s).2.1.set p.toNat (f x s).1, (f x s).2.2)
    refine ⟨e1.trans (by simp [h1]), e2.trans ?_⟩
    rw [List.map_cons, List.sum_cons]
    show (f x s).2.2 + _ = _
    rw [h2]; omega
theorem layV_ok : ∀ (d : Nat) (x : S34) (s : List Int × Int), (layV d x s).2.1.length = s.1.length ∧ (layV d x s).2.2 = s.2 + wordsV d x := by
  intro d
  induction d with
  | zero => intro x s; exact ⟨rfl, by simp [layV, wordsV]⟩
  | succ d ih =>
    intro x s
    rw [layV, wordsV]
    by_cases h : x.f0 = 1
    · rw [if_pos h, if_pos h]
      exact ⟨rfl, by simp⟩
    · rw [if_neg h, if_neg h]
      obtain ⟨e1, e2⟩ := layKids_ok (g := wordsV d) (fun x s => (ih x s).1) (fun x s => (ih x s).2) x.f2 (s.2 + 1 + clN x) ((clM x s.1 s.2).set s.2.toNat (headV x), s.2 + 1 + clN x + x.f2.length)
      refine ⟨e1.trans (by simp [clM_len]), e2.trans ?_⟩
      dsimp only
      omega
theorem wordsV_nn (d : Nat) : ∀ x : S34, 0 ≤ wordsV d x := by
  induction d with
  | zero => intro x; exact Int.le_refl _
  | succ d ih =>
    intro x
    rw [wordsV]
    split
    · exact Int.le_refl _
    · have h1 : 0 ≤ clN x := by unfold clN; split <;> decide
      have h2 : ∀ l : List S34, 0 ≤ (l.map (wordsV d)).sum := by
        intro l
        induction l with
        | nil => simp
        | cons y r ihr => rw [List.map_cons, List.sum_cons]; have := ih y; omega
      have := h2 x.f2
      omega
theorem wordsV_sum (d : Nat) (l : List S34) : 0 ≤ (l.map (wordsV d)).sum := by
  induction l with
  | nil => simp
  | cons y r ihr => rw [List.map_cons, List.sum_cons]; have := wordsV_nn d y; omega
theorem layV_blk {d : Nat} {x : S34} {m : List Int} {a : Int} (h1 : x.f0 ≠ 1) (h3 : x.f0 ≠ 3) : layV (d + 1) x (m, a) = (4 * a, layKids (layV d) x.f2 (a + 1) (m.set a.toNat (1 + 2 * 0 + 16 * x.f1 + 16384 * (x.f2.length : Int)), a + (1 + (x.f2.length : Int)))) := by
  have e : clN x = 0 := by unfold clN; rw [if_neg h3]
  have e2 : clM x m a = m := by unfold clM; rw [if_neg h3]
  have e3 : headV x = 1 + 2 * 0 + 16 * x.f1 + 16384 * (x.f2.length : Int) := by unfold headV; rw [e, if_neg h3]; omega
  rw [layV, if_neg h1]
  dsimp only
  rw [e, e2, e3, show a + 1 + 0 = a + 1 by omega, show a + 1 + (x.f2.length : Int) = a + (1 + (x.f2.length : Int)) by omega]
theorem layV_clo {d : Nat} {x : S34} {m : List Int} {a : Int} (h3 : x.f0 = 3) : layV (d + 1) x (m, a) = (4 * a, layKids (layV d) x.f2 (a + 1 + 1) ((m.set (a + 1).toNat (2 * x.f1 + 1)).set a.toNat (1 + 2 * 1 + 16 * 0 + 16384 * ((x.f2.length : Int) + 1)), a + (1 + ((x.f2.length : Int) + 1)))) := by
  have h1 : x.f0 ≠ 1 := by omega
  have e : clN x = 1 := by unfold clN; rw [if_pos h3]
  have e2 : clM x m a = m.set (a + 1).toNat (2 * x.f1 + 1) := by unfold clM; rw [if_pos h3]
  have e3 : headV x = 1 + 2 * 1 + 16 * 0 + 16384 * ((x.f2.length : Int) + 1) := by unfold headV; rw [e, if_pos h3]
  rw [layV, if_neg h1]
  dsimp only
  rw [e, e2, e3, show a + 1 + 1 + (x.f2.length : Int) = a + (1 + ((x.f2.length : Int) + 1)) by omega]
theorem wordsV_blk {d : Nat} {x : S34} (h1 : x.f0 ≠ 1) (h3 : x.f0 ≠ 3) : wordsV (d + 1) x = 1 + (x.f2.length : Int) + (x.f2.map (wordsV d)).sum := by
  have e : clN x = 0 := by unfold clN; rw [if_neg h3]
  rw [wordsV, if_neg h1, e]; omega
theorem wordsV_clo {d : Nat} {x : S34} (h3 : x.f0 = 3) : wordsV (d + 1) x = 2 + (x.f2.length : Int) + (x.f2.map (wordsV d)).sum := by
  have h1 : x.f0 ≠ 1 := by omega
  have e : clN x = 1 := by unfold clN; rw [if_pos h3]
  rw [wordsV, if_neg h1, e]; omega
end Go.Proofs.Ytaddjeegplfjiaa.Q
