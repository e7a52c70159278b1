/- Of inverts At for every offset, and At inverts Of for every position. -/
import Derived.Test.YtnpkokpkakhnaaaDoorPosRef
import Derived.Test.YtnpkokpkakhnaaaDoorShowPlain
import Derived.Test.YtnpkokpkakhnaaaDoorStPosBack
namespace Go.Proofs.YtnpkokpkakhnaaaDoor.Q
open Go.RowKit Go.Proofs.YtnpkokpkakhnaaaDoorW.PrintWords Go.Proofs.YtnpkokpkakhnaaaDoorW.PrintLast Go.Proofs.YtnpkokpkakhnaaaDoorW.PrintMore
set_option linter.unusedVariables false
set_option linter.unusedSimpArgs false

theorem PosBack.proved : PosBack.Pure := by
  intro s a p ⟨H, y0, y1, y2, h0, h1, h2⟩ hsz
  refine Ev.rounds ?_
  by_cases hs : (s.size : Int) > 1000
  · refine Ev.congr (fun k => by unfold camletlaw03_PosBack.f; rw [if_pos hs, pos_knows]; rfl) (Ev.now true)
  · have hs2 : s.size ≤ 1000000 := by omega
    have hj : Ev (fun k => camletlaw03_PosBack.j0 k s p.f0 p.f1) true := by
      refine Ev.step (f := fun _ => some true) (fun k => ?_) (Ev.now _)
      simp only [camletlaw03_PosBack.j0, pos_knows]
      rcases of_is s hs2 p.f0 p.f1 with ⟨q, g1, g2, g3, g4⟩ | ⟨g1, g2⟩
      · rw [g4]
        simp only [Option.bind_some, if_true, at_in s hs2 q g1]
        rw [if_neg (by rw [g2, g3]; simp)]
      · rw [g1]; simp
    by_cases h : a < 0 ∨ a > s.size
    · refine Ev.congr (fun k => ?_) hj
      unfold camletlaw03_PosBack.f
      rw [if_neg hs, at_out s hs2 a h]
      simp only [Option.bind_some, Bool.false_eq_true, if_false]
      by_cases h0 : a ≥ 0
      · rw [if_pos h0, if_neg (by omega)]
      · rw [if_neg h0]
    · obtain ⟨q, rfl⟩ : ∃ q : Nat, a = (q : Int) := ⟨a.toNat, by omega⟩
      refine Ev.congr (fun k => ?_) hj
      unfold camletlaw03_PosBack.f
      rw [if_neg hs, at_in s hs2 q (by omega)]
      simp only [Option.bind_some, if_true, of_spot s hs2 q (by omega)]
      rw [if_neg (by omega), if_neg (by omega)]
end Go.Proofs.YtnpkokpkakhnaaaDoor.Q
