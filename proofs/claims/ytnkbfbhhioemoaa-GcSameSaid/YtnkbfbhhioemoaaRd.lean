/- Readings of the laws' arguments, kind by kind. By a program of this session (wip/tools/rowgen.py). -/
import Derived.Test.YtnkbfbhhioemoaaReads
namespace Go.Proofs.Ytnkbfbhhioemoaa.Q
open Go.RowKit Go.Proofs.YtnkbfbhhioemoaaW.PrintWords Go.Proofs.YtnkbfbhhioemoaaW.PrintLast Go.Proofs.YtnkbfbhhioemoaaW.PrintMore
attribute [local go_sem] max2_int min2_int max_two min_two max_three min_three max_four min_four   -- for this text's walks alone
set_option linter.unusedVariables false
set_option linter.unusedSimpArgs false

def D23 (H : Type) (x : S23) (y : DataW H) : Prop := ∃ y0 y1 y2 : DataW H, y = .agg [y0, y1, y2] ∧ (Dint .i64) H x.f0 y0 ∧ (Dint .i64) H x.f1 y1 ∧ (Dint .i64) H x.f2 y2
instance : Inhabited S23 := ⟨z23⟩
theorem rd_S23 (fuel : Nat) : RdAt 23 k23 D23 fuel := by
  intro H enc W sp cs y h
  obtain ⟨xs, n, rfl, rfl, hlen, hxl, hf⟩ := DataW.trod_array Try.underlying23 h
  have hlen : cs.length = 3 := by rw [hlen]; kernel_rfl
  obtain ⟨z0, z1, z2, rfl⟩ : ∃ z0 z1 z2, xs = [z0, z1, z2] := by match xs, hxl with | [z0, z1, z2], _ => exact ⟨z0, z1, z2, rfl⟩
  have c0 : Try.prog.cellsOf 3 = 1 := by kernel_rfl
  have f0 := hf 0 (by omega)
  replace f0 : DataW.trod enc Try.prog W 0 sp true n 3 ((cs.drop 0).take (Try.prog.cellsOf 3)) = some z0 := f0
  rw [c0] at f0
  obtain ⟨x0, K0, D0⟩ := (rd_int Try.underlying3 n) H enc W sp _ _ f0
  replace K0 : (cs.drop 0).take 1 = [.int .i64 x0] := K0
  have c1 : Try.prog.cellsOf 3 = 1 := by kernel_rfl
  have f1 := hf 1 (by omega)
  replace f1 : DataW.trod enc Try.prog W 0 sp true n 3 ((cs.drop 1).take (Try.prog.cellsOf 3)) = some z1 := f1
  rw [c1] at f1
  obtain ⟨x1, K1, D1⟩ := (rd_int Try.underlying3 n) H enc W sp _ _ f1
  replace K1 : (cs.drop 1).take 1 = [.int .i64 x1] := K1
  have c2 : Try.prog.cellsOf 3 = 1 := by kernel_rfl
  have f2 := hf 2 (by omega)
  replace f2 : DataW.trod enc Try.prog W 0 sp true n 3 ((cs.drop 2).take (Try.prog.cellsOf 3)) = some z2 := f2
  rw [c2] at f2
  obtain ⟨x2, K2, D2⟩ := (rd_int Try.underlying3 n) H enc W sp _ _ f2
  replace K2 : (cs.drop 2).take 1 = [.int .i64 x2] := K2
  have e : cs = (cs.drop 0).take 1 ++ ((cs.drop 1).take 1 ++ ((cs.drop 2).take 1)) := by
    rw [← cut_end cs 2 1 (by omega), ← cut_at cs 1 1 2 (by omega), ← cut_at cs 0 1 1 (by omega)]; rfl
  have e2 : cs = [.int .i64 x0, .int .i64 x1, .int .i64 x2] := by rw [e, K0, K1, K2]; rfl
  refine ⟨(⟨x0, x1, x2⟩ : S23), ?_, z0.1, z1.1, z2.1, rfl, D0, D1, D2⟩
  rw [e2]
  exact k23_mk W (⟨x0, x1, x2⟩ : S23) 
end Go.Proofs.Ytnkbfbhhioemoaa.Q
