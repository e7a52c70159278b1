/- The greater of two offsets has the greater line, or the same line and the greater column. -/
import Derived.Test.YtnpkokpkakhnaaaDoorPosRef
import Derived.Test.YtnpkokpkakhnaaaDoorShowPlain
import Derived.Test.YtnpkokpkakhnaaaDoorStPosRises
namespace Go.Proofs.YtnpkokpkakhnaaaDoor.Q
open Go.RowKit Go.Proofs.YtnpkokpkakhnaaaDoorW.PrintWords Go.Proofs.YtnpkokpkakhnaaaDoorW.PrintLast Go.Proofs.YtnpkokpkakhnaaaDoorW.PrintMore
set_option linter.unusedVariables false
set_option linter.unusedSimpArgs false

theorem PosRises.proved : PosRises.Pure := by
  intro s a b ⟨H, y0, y1, y2, h0, h1, h2⟩ hsz
  refine Ev.rounds ?_
  by_cases hs : (s.size : Int) > 1000
  · refine Ev.congr (fun k => by unfold camletlaw03_PosRises.f; rw [if_pos hs, pos_knows]; rfl) (Ev.now true)
  · have hs2 : s.size ≤ 1000000 := by omega
    have ht : ∀ l1 c1 l2 c2, Ev (fun k => camletlaw03_PosRises.j0 k a b true l1 c1 l2 c2) true := by
      intro l1 c1 l2 c2
      exact Ev.step (f := fun _ => some true) (fun k => by simp only [camletlaw03_PosRises.j0, if_true, pos_knows]; rfl) (Ev.now _)
    by_cases ha : a < 0 ∨ a > s.size
    · by_cases hb : b < 0 ∨ b > s.size
      · refine Ev.congr (fun k => ?_) (ht 0 0 0 0)
        unfold camletlaw03_PosRises.f
        rw [if_neg hs, at_out s hs2 a ha, at_out s hs2 b hb]
        simp
      · obtain ⟨q, rfl⟩ : ∃ q : Nat, b = (q : Int) := ⟨b.toNat, by omega⟩
        refine Ev.congr (fun k => ?_) (ht 0 0 ((pst s q).1 : Int) (pcol s q))
        unfold camletlaw03_PosRises.f
        rw [if_neg hs, at_out s hs2 a ha, at_in s hs2 q (by omega)]
        simp
    · obtain ⟨p, rfl⟩ : ∃ p : Nat, a = (p : Int) := ⟨a.toNat, by omega⟩
      by_cases hb : b < 0 ∨ b > s.size
      · refine Ev.congr (fun k => ?_) (ht ((pst s p).1 : Int) (pcol s p) 0 0)
        unfold camletlaw03_PosRises.f
        rw [if_neg hs, at_out s hs2 b hb, at_in s hs2 p (by omega)]
        simp
      · obtain ⟨q, rfl⟩ : ∃ q : Nat, b = (q : Int) := ⟨b.toNat, by omega⟩
        refine Ev.congr (f := fun k => camletlaw03_PosRises.j0 k (p : Int) (q : Int) false ((pst s p).1 : Int) (pcol s p) ((pst s q).1 : Int) (pcol s q)) (fun k => ?_) ?_
        · unfold camletlaw03_PosRises.f
          rw [if_neg hs, at_in s hs2 q (by omega), at_in s hs2 p (by omega)]
          simp
        · have l1 := (pst_le s p).2
          have c1 := (pcol_pos s p).1
          refine Ev.step (f := fun _ => some true) (fun k => ?_) (Ev.now _)
          simp only [camletlaw03_PosRises.j0, Bool.false_eq_true, if_false, pos_knows, Option.bind_some]
          have m1 := pst_mono s p q
          have m2 := pst_mono s q p
          by_cases hl : (pst s p).1 < (pst s q).1
          · have hpq : (p : Int) < (q : Int) := by
              by_cases h : q ≤ p
              · have := (m2 h).1; omega
              · omega
            rw [if_pos (by omega), decide_eq_true hpq, beq_self_eq_true, if_pos rfl, if_pos (by omega), if_pos (by omega)]
          · rw [if_neg (by omega)]
            by_cases he : (pst s p).1 = (pst s q).1
            · have hc : decide (pcol s p < pcol s q) = decide ((p : Int) < (q : Int)) := by
                have e : pst s p = pst s q := by
                  by_cases h : p ≤ q
                  · exact (m1 h).2 he
                  · exact ((m2 (by omega)).2 he.symm).symm
                apply decide_eq_decide.mpr
                unfold pcol
                rw [e]
                omega
              rw [if_pos (by omega), hc, beq_self_eq_true, if_pos rfl, if_pos (by omega), if_pos (by omega)]
            · have hpq : ¬ (p : Int) < (q : Int) := by
                intro h
                have := (m1 (by omega)).1
                omega
              rw [if_neg (by omega), decide_eq_false hpq, beq_self_eq_true, if_pos rfl, if_pos (by omega), if_pos (by omega)]
end Go.Proofs.YtnpkokpkakhnaaaDoor.Q
