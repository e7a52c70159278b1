/- Words for a walk by hand: what is made new, told with what stands below it. -/
import Derived.Test.YtaddjeegplfjiaaQx0
import Derived.Test.YtaddjeegplfjiaaAw
import Derived.Test.YtaddjeegplfjiaaAwRow
--@needs XAw
--@needs XAwRow
namespace Go.Proofs.Ytaddjeegplfjiaa.Q
open Go.RowKit Go.Proofs.YtaddjeegplfjiaaW.PrintWords Go.Proofs.YtaddjeegplfjiaaW.PrintLast Go.Proofs.YtaddjeegplfjiaaW.PrintMore
attribute [local go_sem] max2_int min2_int max_two min_two max_three min_three max_four min_four   -- for this text's walks alone
set_option linter.unusedVariables false
set_option linter.unusedSimpArgs false

section
variable {P : Program} {ops : Array Oper} {rest : List Oper} {o : Oper} {a : Act} {Q : Exit → Act → World → Prop} {S : Nat → Prop} {w W : World} {L : List (Nat × Blk)}
theorem aw_newvB (f : Nat → Value) (t : TypeId) (l : List Value) (hw : Region.wanted o (yielded ops a.tmps) = true) (hrun : ∀ W, (execOp a.eval o).run P W = .ok (.value (f W.heap.size)) (W.alloc (.cells l.toArray t (0, 0)))) (HA : Aw S w W L)
    (h : ∀ g W', Below W.heap.size W W' → Aw S w W' ((g, .c t l) :: L) → wpList P ops Q rest (a.put o.dst (f g)) W') : wpList P ops Q (o :: rest) a W := by
  obtain ⟨g, W2, rfl, rfl, H2⟩ := HA.new (b := .c t l) rfl
  exact aw_ev hw (hrun W) (h _ _ (below_alloc (Below.refl _ _) _) H2)
theorem aw_make_rowB (n : Nat) {t e : TypeId} {z : Value} {bytes : Nat} {x y : Operand} {kl kc : IntKind} (ho : o.op = .makeSlice t x y) (ht : P.underlying t = some (.slice e)) (hi : (P.info? e).map (fun i => (i.zero, i.size, i.bytes)) = some (some z, 1, bytes)) (hz1 : z.cells = #[z])
    (hx : a.eval x = .int kl (n : Int)) (hy : a.eval y = .int kc (n : Int)) (hw : Region.wanted o (yielded ops a.tmps) = true) (HA : Aw S w W L) (hbytes : bytes * n ≤ 281474976710656) (h63 : n ≤ 9223372036854775807)
    (h : ∀ g W', Below W.heap.size W W' → Aw S w W' ((g, .c e (List.replicate n z)) :: L) → wpList P ops Q rest (a.put o.dst (.slice (some ⟨g, 0, none⟩) n n)) W') : wpList P ops Q (o :: rest) a W := by
  obtain ⟨g, W2, rfl, rfl, H2⟩ := HA.new (b := .c e (List.replicate n z)) (o := .cells (madeCells #[z] n) e (0, 0)) (by rw [madeCells_rep]; rfl)
  refine aw_ev hw ?_ (h _ _ (below_alloc (Below.refl _ _) _) H2)
  have hr := run_make_row' (P := P) t e z bytes ht hi hz1 kl kc n hbytes h63 W
  unfold execOp
  rw [ho]
  simp only [hx, hy, Sem.run_bind, hr]
  rfl
theorem Aw.loadW_run (h : Aw S w W L) {i g : Nat} {t T : TypeId} {l : List Value} (hi : L[i]? = some (g, .c T l)) (ht : rowB P t l.length = true) : (Instr.loadAt t (.pointer (some ⟨g, 0, none⟩))).run P W = .ok (.agg l.toArray) W := by
  obtain ⟨d, hu, hd, hs⟩ := rowB_of ht
  exact run_loadAt_mid W g 0 t l d (h.range hi (by simp)) hu hd hs
end
end Go.Proofs.Ytaddjeegplfjiaa.Q
