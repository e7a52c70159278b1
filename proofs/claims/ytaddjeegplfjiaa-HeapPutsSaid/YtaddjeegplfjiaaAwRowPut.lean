/- Words for a walk by hand: a store in place into a slice of the call's own. -/
import Derived.Test.YtaddjeegplfjiaaQx0
import Derived.Test.YtaddjeegplfjiaaAw
import Derived.Test.YtaddjeegplfjiaaAwReg
import Derived.Test.YtaddjeegplfjiaaAwSl
--@needs XAw
--@needs XAwSl
--@needs XAwReg
namespace Go.Proofs.Ytaddjeegplfjiaa.Q
open Go.RowKit Go.Proofs.YtaddjeegplfjiaaW.PrintWords Go.Proofs.YtaddjeegplfjiaaW.PrintLast Go.Proofs.YtaddjeegplfjiaaW.PrintMore
attribute [local go_sem] max2_int min2_int max_two min_two max_three min_three max_four min_four   -- for this text's walks alone
set_option linter.unusedVariables false
set_option linter.unusedSimpArgs false

section
variable {P : Program} {ops : Array Oper} {rest : List Oper} {o : Oper} {a : Act} {Q : Exit → Act → World → Prop} {S : Nat → Prop} {w W : World} {L : List (Nat × Blk)} {g i j e cap : Nat} {xs : List Value}
theorem Aw.rput (h : Aw S w W L) (v : Value) (hi : L[i]? = some (g, Blk.r e 1 cap xs)) : Aw S w (W.setCell ⟨g, j, none⟩ v) (L.set i (g, Blk.r e 1 cap (xs.set j v))) := by
  obtain ⟨o, ho, cur, rfl, h1, h2, h3⟩ := h.atp hi
  have hs := blk_set (g := g) ho j v
  refine h.put (b' := Blk.r e 1 cap (xs.set j v)) hi ⟨rfl, rfl, rfl⟩ (by simp [World.setCell]) hs ⟨_, rfl, by simpa using h1, h2, ?_⟩ (fun k _ hk => Below.heap_setCell W ⟨g, j, none⟩ v k hk)
  rw [List.length_set, Array.toList_setIfInBounds, List.take_set, h3]
theorem Aw.rfree (h : Aw S w W L) (hi : L[i]? = some (g, Blk.r e 1 cap xs)) : W.frozen? ⟨g, j, none⟩ = false := by
  obtain ⟨o, ho, cur, rfl, h1, h2, h3⟩ := h.atp hi
  exact blk_frozen ho j
theorem aw_rstore (i : Nat) {t : TypeId} {p x : Operand} {v : Value} (hN : o.dst = none) (ho : o.op = .store t p x) (hp : a.eval p = .pointer (some ⟨g, j, none⟩)) (hx : a.eval x = v) (h1 : v.oneCell' = true) (HA : Aw S w W L)
    (hi : L[i]? = some (g, Blk.r e 1 cap xs)) (hw : Region.wanted o (yielded ops a.tmps) = true) (hj : j < xs.length) (ht : sizeB P t 1 = true) (h : ∀ W', Aw S w W' (L.set i (g, Blk.r e 1 cap (xs.set j v))) → wpList P ops Q rest a W') : wpList P ops Q (o :: rest) a W := by
  have hcell := HA.rcell hi (List.getElem?_eq_getElem hj)
  refine aw_sk hw hN ?_ (h (W.setCell ⟨g, j, none⟩ v) (HA.rput v hi))
  have hs : ∃ inf, P.info? t = some inf ∧ inf.size = 1 := by
    unfold sizeB at ht
    cases hq : P.info? t with
    | none => simp [hq] at ht
    | some inf => exact ⟨inf, rfl, by simpa [hq] using ht⟩
  obtain ⟨inf, hq, hs⟩ := hs
  have hcs : (a.eval x).cells = #[v] := by rw [hx]; cases v <;> simp_all [Value.oneCell', Value.cells]
  have hadd : (⟨g, j, none⟩ : Addr).add 0 = ⟨g, j, none⟩ := by unfold Addr.add; split <;> simp_all
  unfold execOp
  rw [ho]
  simp [hp, Instr.storeAt, Instr.sureAddr, storeVar, sizeOf, typeInfo, hq, hs, hcs, storeCells, Sem.run_bind, hadd, run_store P W _ _ _ h1, hcell, HA.rfree hi]
end
end Go.Proofs.Ytaddjeegplfjiaa.Q
