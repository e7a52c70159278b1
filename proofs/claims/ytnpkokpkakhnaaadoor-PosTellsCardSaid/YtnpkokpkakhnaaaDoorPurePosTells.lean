/- At, Of and Show agree with the reference for every offset and position. -/
import Derived.Test.YtnpkokpkakhnaaaDoorPosRef
import Derived.Test.YtnpkokpkakhnaaaDoorShowPlain
import Derived.Test.YtnpkokpkakhnaaaDoorStPosTells
namespace Go.Proofs.YtnpkokpkakhnaaaDoor.Q
open Go.RowKit Go.Proofs.YtnpkokpkakhnaaaDoorW.PrintWords Go.Proofs.YtnpkokpkakhnaaaDoorW.PrintLast Go.Proofs.YtnpkokpkakhnaaaDoorW.PrintMore
set_option linter.unusedVariables false
set_option linter.unusedSimpArgs false

theorem pt_i64 {H : Type} {x : Int} {y : DataW H} (h : Dint .i64 H x y) : -9223372036854775808 ≤ x ∧ x ≤ 9223372036854775807 := by
  have h2 : IntKind.i64.min ≤ x ∧ x ≤ IntKind.i64.max := by simpa [Lit.wf] using h.2
  rw [show IntKind.i64.min = -9223372036854775808 from rfl, show IntKind.i64.max = 9223372036854775807 from rfl] at h2
  exact h2
theorem show_both (l c : Int) (hl : -9223372036854775808 ≤ l ∧ l ≤ 9223372036854775807) (hc : -9223372036854775808 ≤ c ∧ c ≤ 9223372036854775807) : ∃ r, pos_Show.f l c = some r ∧ Ev (fun k => camletref03_Show.f k l c) r := by
  have el : num_Show.f l = some ⟨(Lib.itoa l).toArray⟩ := by unfold num_Show.f; rw [if_pos hl]
  have ec : num_Show.f c = some ⟨(Lib.itoa c).toArray⟩ := by unfold num_Show.f; rw [if_pos hc]
  have sl := Lib.itoa_length_le l hl.1 hl.2
  have sc := Lib.itoa_length_le c hc.1 hc.2
  have zl : (⟨(Lib.itoa l).toArray⟩ : ByteArray).size = (Lib.itoa l).length := by show (Lib.itoa l).toArray.size = _; simp
  have zc : (⟨(Lib.itoa c).toArray⟩ : ByteArray).size = (Lib.itoa c).length := by show (Lib.itoa c).toArray.size = _; simp
  have b1 : (⟨(Lib.itoa l).toArray⟩ : ByteArray).size + 1 ≤ 9223372036854775807 := by omega
  have b2 : ((⟨(Lib.itoa l).toArray⟩ : ByteArray) ++ (⟨#[58]⟩ : ByteArray)).size + (⟨(Lib.itoa c).toArray⟩ : ByteArray).size ≤ 9223372036854775807 := by
    rw [ByteArray.size_append, show (⟨#[58]⟩ : ByteArray).size = 1 from rfl]; omega
  refine ⟨_, by unfold pos_Show.f; rw [el, ec]; simp only [Option.bind_some]; rw [if_pos b1, if_pos b2], ?_⟩
  unfold camletref03_Show.f
  refine Ev.bind (refshow l hl.1 hl.2) ?_
  refine Ev.ifp b1 ?_
  refine Ev.bind (refshow c hc.1 hc.2) ?_
  exact Ev.ifp b2 (Ev.now _)
theorem PosTells.proved : PosTells.Pure := by
  intro s a p ⟨H, y0, y1, y2, h0, h1, h2⟩ hsz
  obtain ⟨z0, z1, _, g0, g1⟩ := h2
  refine Ev.rounds ?_
  by_cases hs : (s.size : Int) > 1000
  · refine Ev.congr (fun k => by unfold camletlaw03_PosTells.f; rw [if_pos hs, pos_knows]; rfl) (Ev.now true)
  · have hs2 : s.size ≤ 1000000 := by omega
    obtain ⟨r1, e1, f1⟩ := at_both s hs2 a
    obtain ⟨r2, e2, f2⟩ := of_both s hs2 p.f0 p.f1
    obtain ⟨r3, e3, f3⟩ := show_both p.f0 p.f1 (pt_i64 g0) (pt_i64 g1)
    unfold camletlaw03_PosTells.f
    simp only [e1, e2, e3, Option.bind_some, pos_knows]
    refine Ev.ifn hs ?_
    refine Ev.bind f1 ?_
    refine Ev.bind f2 ?_
    refine Ev.ifp (by simp) ?_
    refine Ev.ifp (by simp) ?_
    refine Ev.ifp rfl ?_
    refine Ev.ifp (by simp) ?_
    refine Ev.bind f3 ?_
    refine Ev.ifp rfl ?_
    exact Ev.now _
end Go.Proofs.YtnpkokpkakhnaaaDoor.Q
