/- Readings of the laws' arguments, kind by kind. By a program of this session (wip/tools/rowgen.py). -/
import Derived.Test.YtlhkojnocconfaaDoorReads
namespace Go.Proofs.YtlhkojnocconfaaDoor.Q
open Go.RowKit Go.Proofs.YtlhkojnocconfaaDoorW.PrintWords Go.Proofs.YtlhkojnocconfaaDoorW.PrintLast Go.Proofs.YtlhkojnocconfaaDoorW.PrintMore
attribute [local go_sem] max2_int min2_int max_two min_two max_three min_three max_four min_four   -- for this text's walks alone
set_option linter.unusedVariables false
set_option linter.unusedSimpArgs false

def D34 (H : Type) (x : S34) (y : DataW H) : Prop := ∃ y0 y1 y2 y3 y4 : DataW H, y = .agg [y0, y1, y2, y3, y4] ∧ (Dint .i64) H x.f0 y0 ∧ (Dint .i64) H x.f1 y1 ∧ (Dint .i64) H x.f2 y2 ∧ (Dint .i64) H x.f3 y3 ∧ (Dint .i64) H x.f4 y4
instance : Inhabited S34 := ⟨z34⟩
theorem rd_S34 (fuel : Nat) : RdAt 34 k34 D34 fuel := by
  intro H enc W sp cs y h
  obtain ⟨xs, n, rfl, rfl, hlen, hxl, hf⟩ := DataW.trod_struct Tryd.underlying34 h
  have hlen : cs.length = 5 := by rw [hlen]; kernel_rfl
  obtain ⟨z0, z1, z2, z3, z4, rfl⟩ : ∃ z0 z1 z2 z3 z4, xs = [z0, z1, z2, z3, z4] := by match xs, hxl with | [z0, z1, z2, z3, z4], _ => exact ⟨z0, z1, z2, z3, z4, rfl⟩
  have c0 : Tryd.prog.cellsOf 32 = 1 := by kernel_rfl
  have f0 := hf 0 _ rfl
  replace f0 : DataW.trod enc Tryd.prog W 0 sp true n 32 ((cs.drop 0).take (Tryd.prog.cellsOf 32)) = some z0 := f0
  rw [c0] at f0
  obtain ⟨x0, K0, D0⟩ := (rd_int Tryd.underlying32 n) H enc W sp _ _ f0
  replace K0 : (cs.drop 0).take 1 = [.int .i64 x0] := K0
  have c1 : Tryd.prog.cellsOf 3 = 1 := by kernel_rfl
  have f1 := hf 1 _ rfl
  replace f1 : DataW.trod enc Tryd.prog W 0 sp true n 3 ((cs.drop 1).take (Tryd.prog.cellsOf 3)) = some z1 := f1
  rw [c1] at f1
  obtain ⟨x1, K1, D1⟩ := (rd_int Tryd.underlying3 n) H enc W sp _ _ f1
  replace K1 : (cs.drop 1).take 1 = [.int .i64 x1] := K1
  have c2 : Tryd.prog.cellsOf 3 = 1 := by kernel_rfl
  have f2 := hf 2 _ rfl
  replace f2 : DataW.trod enc Tryd.prog W 0 sp true n 3 ((cs.drop 2).take (Tryd.prog.cellsOf 3)) = some z2 := f2
  rw [c2] at f2
  obtain ⟨x2, K2, D2⟩ := (rd_int Tryd.underlying3 n) H enc W sp _ _ f2
  replace K2 : (cs.drop 2).take 1 = [.int .i64 x2] := K2
  have c3 : Tryd.prog.cellsOf 3 = 1 := by kernel_rfl
  have f3 := hf 3 _ rfl
  replace f3 : DataW.trod enc Tryd.prog W 0 sp true n 3 ((cs.drop 3).take (Tryd.prog.cellsOf 3)) = some z3 := f3
  rw [c3] at f3
  obtain ⟨x3, K3, D3⟩ := (rd_int Tryd.underlying3 n) H enc W sp _ _ f3
  replace K3 : (cs.drop 3).take 1 = [.int .i64 x3] := K3
  have c4 : Tryd.prog.cellsOf 3 = 1 := by kernel_rfl
  have f4 := hf 4 _ rfl
  replace f4 : DataW.trod enc Tryd.prog W 0 sp true n 3 ((cs.drop 4).take (Tryd.prog.cellsOf 3)) = some z4 := f4
  rw [c4] at f4
  obtain ⟨x4, K4, D4⟩ := (rd_int Tryd.underlying3 n) H enc W sp _ _ f4
  replace K4 : (cs.drop 4).take 1 = [.int .i64 x4] := K4
  have e : cs = (cs.drop 0).take 1 ++ ((cs.drop 1).take 1 ++ ((cs.drop 2).take 1 ++ ((cs.drop 3).take 1 ++ ((cs.drop 4).take 1)))) := by
    rw [← cut_end cs 4 1 (by omega), ← cut_at cs 3 1 4 (by omega), ← cut_at cs 2 1 3 (by omega), ← cut_at cs 1 1 2 (by omega), ← cut_at cs 0 1 1 (by omega)]; rfl
  have e2 : cs = [.int .i64 x0, .int .i64 x1, .int .i64 x2, .int .i64 x3, .int .i64 x4] := by rw [e, K0, K1, K2, K3, K4]; rfl
  refine ⟨(⟨x0, x1, x2, x3, x4⟩ : S34), ?_, z0.1, z1.1, z2.1, z3.1, z4.1, rfl, D0, D1, D2, D3, D4⟩
  rw [e2]
  exact k34_mk W (⟨x0, x1, x2, x3, x4⟩ : S34) 
def D36 (H : Type) (x : S36) (y : DataW H) : Prop := ∃ y0 y1 y2 : DataW H, y = .agg [y0, y1, y2] ∧ Dstr H x.f0 y0 ∧ D34 H x.f1 y1 ∧ Dstr H x.f2 y2
instance : Inhabited S36 := ⟨z36⟩
theorem rd_S36 (fuel : Nat) : RdAt 36 k36 D36 fuel := by
  intro H enc W sp cs y h
  obtain ⟨xs, n, rfl, rfl, hlen, hxl, hf⟩ := DataW.trod_struct Tryd.underlying36 h
  have hlen : cs.length = 7 := by rw [hlen]; kernel_rfl
  obtain ⟨z0, z1, z2, rfl⟩ : ∃ z0 z1 z2, xs = [z0, z1, z2] := by match xs, hxl with | [z0, z1, z2], _ => exact ⟨z0, z1, z2, rfl⟩
  have c0 : Tryd.prog.cellsOf 9 = 1 := by kernel_rfl
  have f0 := hf 0 _ rfl
  replace f0 : DataW.trod enc Tryd.prog W 0 sp true n 9 ((cs.drop 0).take (Tryd.prog.cellsOf 9)) = some z0 := f0
  rw [c0] at f0
  obtain ⟨x0, K0, D0⟩ := (rd_str Tryd.underlying9 n) H enc W sp _ _ f0
  replace K0 : (cs.drop 0).take 1 = [.string x0] := K0
  have c1 : Tryd.prog.cellsOf 34 = 5 := by kernel_rfl
  have f1 := hf 1 _ rfl
  replace f1 : DataW.trod enc Tryd.prog W 0 sp true n 34 ((cs.drop 1).take (Tryd.prog.cellsOf 34)) = some z1 := f1
  rw [c1] at f1
  obtain ⟨x1, KK1, D1⟩ := (rd_S34 n) H enc W sp _ _ f1
  have K1 := k34_open KK1
  have c2 : Tryd.prog.cellsOf 9 = 1 := by kernel_rfl
  have f2 := hf 2 _ rfl
  replace f2 : DataW.trod enc Tryd.prog W 0 sp true n 9 ((cs.drop 6).take (Tryd.prog.cellsOf 9)) = some z2 := f2
  rw [c2] at f2
  obtain ⟨x2, K2, D2⟩ := (rd_str Tryd.underlying9 n) H enc W sp _ _ f2
  replace K2 : (cs.drop 6).take 1 = [.string x2] := K2
  have e : cs = (cs.drop 0).take 1 ++ ((cs.drop 1).take 5 ++ ((cs.drop 6).take 1)) := by
    rw [← cut_end cs 6 1 (by omega), ← cut_at cs 1 5 6 (by omega), ← cut_at cs 0 1 1 (by omega)]; rfl
  have e2 : cs = [.string x0, .int .i64 x1.f0, .int .i64 x1.f1, .int .i64 x1.f2, .int .i64 x1.f3, .int .i64 x1.f4, .string x2] := by rw [e, K0, K1, K2]; rfl
  refine ⟨(⟨x0, x1, x2⟩ : S36), ?_, z0.1, z1.1, z2.1, rfl, D0, D1, D2⟩
  rw [e2]
  exact k36_mk W (⟨x0, x1, x2⟩ : S36) 
end Go.Proofs.YtlhkojnocconfaaDoor.Q
