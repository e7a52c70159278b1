/- Readings of the laws' arguments, kind by kind. By a program of this session (wip/tools/rowgen.py). -/
import Derived.Test.YtbjfchkfhbpclaaReads
namespace Go.Proofs.Ytbjfchkfhbpclaa.Q
open Go.RowKit Go.Proofs.YtbjfchkfhbpclaaW.PrintWords Go.Proofs.YtbjfchkfhbpclaaW.PrintLast Go.Proofs.YtbjfchkfhbpclaaW.PrintMore
attribute [local go_sem] max2_int min2_int max_two min_two max_three min_three max_four min_four   -- for this text's walks alone
set_option linter.unusedVariables false
set_option linter.unusedSimpArgs false

def D42 (H : Type) (x : S42) (y : DataW H) : Prop := ∃ y0 y1 y2 y3 y4 : DataW H, y = .agg [y0, y1, y2, y3, y4] ∧ (Dint .i64) H x.f0 y0 ∧ (Dint .i64) H x.f1 y1 ∧ (Dint .i64) H x.f2 y2 ∧ (Dint .i64) H x.f3 y3 ∧ (Dint .i64) H x.f4 y4
instance : Inhabited S42 := ⟨z42⟩
theorem rd_S42 (fuel : Nat) : RdAt 42 k42 D42 fuel := by
  intro H enc W sp cs y h
  obtain ⟨xs, n, rfl, rfl, hlen, hxl, hf⟩ := DataW.trod_struct Try.underlying42 h
  have hlen : cs.length = 5 := by rw [hlen]; kernel_rfl
  obtain ⟨z0, z1, z2, z3, z4, rfl⟩ : ∃ z0 z1 z2 z3 z4, xs = [z0, z1, z2, z3, z4] := by match xs, hxl with | [z0, z1, z2, z3, z4], _ => exact ⟨z0, z1, z2, z3, z4, rfl⟩
  have c0 : Try.prog.cellsOf 40 = 1 := by kernel_rfl
  have f0 := hf 0 _ rfl
  replace f0 : DataW.trod enc Try.prog W 0 sp true n 40 ((cs.drop 0).take (Try.prog.cellsOf 40)) = some z0 := f0
  rw [c0] at f0
  obtain ⟨x0, K0, D0⟩ := (rd_int Try.underlying40 n) H enc W sp _ _ f0
  replace K0 : (cs.drop 0).take 1 = [.int .i64 x0] := K0
  have c1 : Try.prog.cellsOf 3 = 1 := by kernel_rfl
  have f1 := hf 1 _ rfl
  replace f1 : DataW.trod enc Try.prog W 0 sp true n 3 ((cs.drop 1).take (Try.prog.cellsOf 3)) = some z1 := f1
  rw [c1] at f1
  obtain ⟨x1, K1, D1⟩ := (rd_int Try.underlying3 n) H enc W sp _ _ f1
  replace K1 : (cs.drop 1).take 1 = [.int .i64 x1] := K1
  have c2 : Try.prog.cellsOf 3 = 1 := by kernel_rfl
  have f2 := hf 2 _ rfl
  replace f2 : DataW.trod enc Try.prog W 0 sp true n 3 ((cs.drop 2).take (Try.prog.cellsOf 3)) = some z2 := f2
  rw [c2] at f2
  obtain ⟨x2, K2, D2⟩ := (rd_int Try.underlying3 n) H enc W sp _ _ f2
  replace K2 : (cs.drop 2).take 1 = [.int .i64 x2] := K2
  have c3 : Try.prog.cellsOf 3 = 1 := by kernel_rfl
  have f3 := hf 3 _ rfl
  replace f3 : DataW.trod enc Try.prog W 0 sp true n 3 ((cs.drop 3).take (Try.prog.cellsOf 3)) = some z3 := f3
  rw [c3] at f3
  obtain ⟨x3, K3, D3⟩ := (rd_int Try.underlying3 n) H enc W sp _ _ f3
  replace K3 : (cs.drop 3).take 1 = [.int .i64 x3] := K3
  have c4 : Try.prog.cellsOf 3 = 1 := by kernel_rfl
  have f4 := hf 4 _ rfl
  replace f4 : DataW.trod enc Try.prog W 0 sp true n 3 ((cs.drop 4).take (Try.prog.cellsOf 3)) = some z4 := f4
  rw [c4] at f4
  obtain ⟨x4, K4, D4⟩ := (rd_int Try.underlying3 n) H enc W sp _ _ f4
  replace K4 : (cs.drop 4).take 1 = [.int .i64 x4] := K4
  have e : cs = (cs.drop 0).take 1 ++ ((cs.drop 1).take 1 ++ ((cs.drop 2).take 1 ++ ((cs.drop 3).take 1 ++ ((cs.drop 4).take 1)))) := by
    rw [← cut_end cs 4 1 (by omega), ← cut_at cs 3 1 4 (by omega), ← cut_at cs 2 1 3 (by omega), ← cut_at cs 1 1 2 (by omega), ← cut_at cs 0 1 1 (by omega)]; rfl
  have e2 : cs = [.int .i64 x0, .int .i64 x1, .int .i64 x2, .int .i64 x3, .int .i64 x4] := by rw [e, K0, K1, K2, K3, K4]; rfl
  refine ⟨(⟨x0, x1, x2, x3, x4⟩ : S42), ?_, z0.1, z1.1, z2.1, z3.1, z4.1, rfl, D0, D1, D2, D3, D4⟩
  rw [e2]
  exact k42_mk W (⟨x0, x1, x2, x3, x4⟩ : S42) 
def D44 (H : Type) (x : S44) (y : DataW H) : Prop := ∃ y0 y1 y2 : DataW H, y = .agg [y0, y1, y2] ∧ Dstr H x.f0 y0 ∧ D42 H x.f1 y1 ∧ Dstr H x.f2 y2
instance : Inhabited S44 := ⟨z44⟩
theorem rd_S44 (fuel : Nat) : RdAt 44 k44 D44 fuel := by
  intro H enc W sp cs y h
  obtain ⟨xs, n, rfl, rfl, hlen, hxl, hf⟩ := DataW.trod_struct Try.underlying44 h
  have hlen : cs.length = 7 := by rw [hlen]; kernel_rfl
  obtain ⟨z0, z1, z2, rfl⟩ : ∃ z0 z1 z2, xs = [z0, z1, z2] := by match xs, hxl with | [z0, z1, z2], _ => exact ⟨z0, z1, z2, rfl⟩
  have c0 : Try.prog.cellsOf 9 = 1 := by kernel_rfl
  have f0 := hf 0 _ rfl
  replace f0 : DataW.trod enc Try.prog W 0 sp true n 9 ((cs.drop 0).take (Try.prog.cellsOf 9)) = some z0 := f0
  rw [c0] at f0
  obtain ⟨x0, K0, D0⟩ := (rd_str Try.underlying9 n) H enc W sp _ _ f0
  replace K0 : (cs.drop 0).take 1 = [.string x0] := K0
  have c1 : Try.prog.cellsOf 42 = 5 := by kernel_rfl
  have f1 := hf 1 _ rfl
  replace f1 : DataW.trod enc Try.prog W 0 sp true n 42 ((cs.drop 1).take (Try.prog.cellsOf 42)) = some z1 := f1
  rw [c1] at f1
  obtain ⟨x1, KK1, D1⟩ := (rd_S42 n) H enc W sp _ _ f1
  have K1 := k42_open KK1
  have c2 : Try.prog.cellsOf 9 = 1 := by kernel_rfl
  have f2 := hf 2 _ rfl
  replace f2 : DataW.trod enc Try.prog W 0 sp true n 9 ((cs.drop 6).take (Try.prog.cellsOf 9)) = some z2 := f2
  rw [c2] at f2
  obtain ⟨x2, K2, D2⟩ := (rd_str Try.underlying9 n) H enc W sp _ _ f2
  replace K2 : (cs.drop 6).take 1 = [.string x2] := K2
  have e : cs = (cs.drop 0).take 1 ++ ((cs.drop 1).take 5 ++ ((cs.drop 6).take 1)) := by
    rw [← cut_end cs 6 1 (by omega), ← cut_at cs 1 5 6 (by omega), ← cut_at cs 0 1 1 (by omega)]; rfl
  have e2 : cs = [.string x0, .int .i64 x1.f0, .int .i64 x1.f1, .int .i64 x1.f2, .int .i64 x1.f3, .int .i64 x1.f4, .string x2] := by rw [e, K0, K1, K2]; rfl
  refine ⟨(⟨x0, x1, x2⟩ : S44), ?_, z0.1, z1.1, z2.1, rfl, D0, D1, D2⟩
  rw [e2]
  exact k44_mk W (⟨x0, x1, x2⟩ : S44) 
end Go.Proofs.Ytbjfchkfhbpclaa.Q
