/- Readings of the laws' arguments, kind by kind. By a program of this session (wip/tools/rowgen.py). -/
import Derived.Test.YtaddjeegplfjiaaReads
namespace Go.Proofs.Ytaddjeegplfjiaa.Q
open Go.RowKit Go.Proofs.YtaddjeegplfjiaaW.PrintWords Go.Proofs.YtaddjeegplfjiaaW.PrintLast Go.Proofs.YtaddjeegplfjiaaW.PrintMore
attribute [local go_sem] max2_int min2_int max_two min_two max_three min_three max_four min_four   -- for this text's walks alone
set_option linter.unusedVariables false
set_option linter.unusedSimpArgs false

inductive D34 (H : Type) : S34 → DataW H → Prop
  | mk (x : S34) (y0 y1 y2 : DataW H) (h0 : (Dint .i64) H x.f0 y0) (h1 : (Dint .i64) H x.f1 y1) (es2 sp2 : List (DataW H)) (h2 : y2 = .slice es2 sp2 ∨ (y2 = .nil ∧ es2 = [] ∧ sp2 = [])) (n2 : es2.length = x.f2.length) (m2 : x.f2.length ≤ 9223372036854775807) (r2 : ∀ (i : Nat) x_ e_, x.f2[i]? = some x_ → es2[i]? = some e_ → D34 H x_ e_) : D34 H x (.agg [y0, y1, y2])
instance : Inhabited S34 := ⟨z34⟩
theorem rd_S34 (fuel : Nat) : RdAt 34 k34 D34 fuel := by
  induction fuel using Nat.strongRecOn with
  | _ fuel ih =>
  intro H enc W sp cs y h
  obtain ⟨xs, n, rfl, rfl, hlen, hxl, hf⟩ := DataW.trod_struct Try.underlying34 h
  have hlen : cs.length = 3 := by rw [hlen]; kernel_rfl
  obtain ⟨z0, z1, z2, rfl⟩ : ∃ z0 z1 z2, xs = [z0, z1, z2] := by match xs, hxl with | [z0, z1, z2], _ => exact ⟨z0, z1, z2, rfl⟩
  have c0 : Try.prog.cellsOf 31 = 1 := by kernel_rfl
  have f0 := hf 0 _ rfl
  replace f0 : DataW.trod enc Try.prog W 0 sp true n 31 ((cs.drop 0).take (Try.prog.cellsOf 31)) = some z0 := f0
  rw [c0] at f0
  obtain ⟨x0, K0, D0⟩ := (rd_int Try.underlying31 n) H enc W sp _ _ f0
  replace K0 : (cs.drop 0).take 1 = [.int .i64 x0] := K0
  have c1 : Try.prog.cellsOf 3 = 1 := by kernel_rfl
  have f1 := hf 1 _ rfl
  replace f1 : DataW.trod enc Try.prog W 0 sp true n 3 ((cs.drop 1).take (Try.prog.cellsOf 3)) = some z1 := f1
  rw [c1] at f1
  obtain ⟨x1, K1, D1⟩ := (rd_int Try.underlying3 n) H enc W sp _ _ f1
  replace K1 : (cs.drop 1).take 1 = [.int .i64 x1] := K1
  have c2 : Try.prog.cellsOf 32 = 1 := by kernel_rfl
  have f2 := hf 2 _ rfl
  replace f2 : DataW.trod enc Try.prog W 0 sp true n 32 ((cs.drop 2).take (Try.prog.cellsOf 32)) = some z2 := f2
  rw [c2] at f2
  obtain ⟨x2, ⟨A2, cc2, K2, l2, g2⟩, D2⟩ := (rd_slice Try.underlying32 (by kernel_rfl) (fun m_ hm_ => ih m_ (by omega))) H enc W sp _ _ f2
  have e : cs = (cs.drop 0).take 1 ++ ((cs.drop 1).take 1 ++ ((cs.drop 2).take 1)) := by
    rw [← cut_end cs 2 1 (by omega), ← cut_at cs 1 1 2 (by omega), ← cut_at cs 0 1 1 (by omega)]; rfl
  have e2 : cs = [.int .i64 x0, .int .i64 x1, .slice A2 x2.length cc2] := by rw [e, K0, K1, K2]; rfl
  obtain ⟨es2, sp2, h2, n2, m2, r2⟩ := D2
  refine ⟨(⟨x0, x1, x2⟩ : S34), ?_, D34.mk (⟨x0, x1, x2⟩ : S34) z0.1 z1.1 z2.1 D0 D1 es2 sp2 h2 n2 m2 r2⟩
  rw [e2]
  exact k34_mk W (⟨x0, x1, x2⟩ : S34) l2 g2
end Go.Proofs.Ytaddjeegplfjiaa.Q
