/- Readings of the laws' arguments, kind by kind. By a program of this session (wip/tools/rowgen.py). -/
import Derived.Test.YtaijpfooobcdkaaDoorReads
namespace Go.Proofs.YtaijpfooobcdkaaDoor.Q
open Go.RowKit Go.Proofs.YtaijpfooobcdkaaDoorW.PrintWords Go.Proofs.YtaijpfooobcdkaaDoorW.PrintLast Go.Proofs.YtaijpfooobcdkaaDoorW.PrintMore
attribute [local go_sem] max2_int min2_int max_two min_two max_three min_three max_four min_four   -- for this text's walks alone
set_option linter.unusedVariables false
set_option linter.unusedSimpArgs false

def D25 (H : Type) (x : S25) (y : DataW H) : Prop := ∃ y0 y1 y2 y3 : DataW H, y = .agg [y0, y1, y2, y3] ∧ (Dint .i64) H x.f0 y0 ∧ (Dint .i64) H x.f1 y1 ∧ (Dsl (Dint .i64)) H x.f2 y2 ∧ (Dint .i64) H x.f3 y3
instance : Inhabited S25 := ⟨z25⟩
theorem rd_S25 (fuel : Nat) : RdAt 25 k25 D25 fuel := by
  intro H enc W sp cs y h
  obtain ⟨xs, n, rfl, rfl, hlen, hxl, hf⟩ := DataW.trod_struct Tryd.underlying25 h
  have hlen : cs.length = 4 := by rw [hlen]; kernel_rfl
  obtain ⟨z0, z1, z2, z3, rfl⟩ : ∃ z0 z1 z2 z3, xs = [z0, z1, z2, z3] := by match xs, hxl with | [z0, z1, z2, z3], _ => exact ⟨z0, z1, z2, z3, rfl⟩
  have c0 : Tryd.prog.cellsOf 22 = 1 := by kernel_rfl
  have f0 := hf 0 _ rfl
  replace f0 : DataW.trod enc Tryd.prog W 0 sp true n 22 ((cs.drop 0).take (Tryd.prog.cellsOf 22)) = some z0 := f0
  rw [c0] at f0
  obtain ⟨x0, K0, D0⟩ := (rd_int Tryd.underlying22 n) H enc W sp _ _ f0
  replace K0 : (cs.drop 0).take 1 = [.int .i64 x0] := K0
  have c1 : Tryd.prog.cellsOf 3 = 1 := by kernel_rfl
  have f1 := hf 1 _ rfl
  replace f1 : DataW.trod enc Tryd.prog W 0 sp true n 3 ((cs.drop 1).take (Tryd.prog.cellsOf 3)) = some z1 := f1
  rw [c1] at f1
  obtain ⟨x1, K1, D1⟩ := (rd_int Tryd.underlying3 n) H enc W sp _ _ f1
  replace K1 : (cs.drop 1).take 1 = [.int .i64 x1] := K1
  have c2 : Tryd.prog.cellsOf 23 = 1 := by kernel_rfl
  have f2 := hf 2 _ rfl
  replace f2 : DataW.trod enc Tryd.prog W 0 sp true n 23 ((cs.drop 2).take (Tryd.prog.cellsOf 23)) = some z2 := f2
  rw [c2] at f2
  obtain ⟨x2, ⟨A2, cc2, K2, l2, g2⟩, D2⟩ := (rd_slice (fuel := n) Tryd.underlying23 (by kernel_rfl) (fun m_ _ => (rd_int Tryd.underlying3 m_))) H enc W sp _ _ f2
  have c3 : Tryd.prog.cellsOf 3 = 1 := by kernel_rfl
  have f3 := hf 3 _ rfl
  replace f3 : DataW.trod enc Tryd.prog W 0 sp true n 3 ((cs.drop 3).take (Tryd.prog.cellsOf 3)) = some z3 := f3
  rw [c3] at f3
  obtain ⟨x3, K3, D3⟩ := (rd_int Tryd.underlying3 n) H enc W sp _ _ f3
  replace K3 : (cs.drop 3).take 1 = [.int .i64 x3] := K3
  have e : cs = (cs.drop 0).take 1 ++ ((cs.drop 1).take 1 ++ ((cs.drop 2).take 1 ++ ((cs.drop 3).take 1))) := by
    rw [← cut_end cs 3 1 (by omega), ← cut_at cs 2 1 3 (by omega), ← cut_at cs 1 1 2 (by omega), ← cut_at cs 0 1 1 (by omega)]; rfl
  have e2 : cs = [.int .i64 x0, .int .i64 x1, .slice A2 x2.length cc2, .int .i64 x3] := by rw [e, K0, K1, K2, K3]; rfl
  refine ⟨(⟨x0, x1, x2, x3⟩ : S25), ?_, z0.1, z1.1, z2.1, z3.1, rfl, D0, D1, D2, D3⟩
  rw [e2]
  exact k25_mk W (⟨x0, x1, x2, x3⟩ : S25) l2 g2
end Go.Proofs.YtaijpfooobcdkaaDoor.Q
