/- Words for a walk by hand: a region that draws its order and writes: one operation of it by the rules of XAw. -/
import Derived.Test.YtaddjeegplfjiaaQx0
import Derived.Test.YtaddjeegplfjiaaAw
import Derived.Test.YtaddjeegplfjiaaAwSl
--@needs XAw
--@needs XAwSl
import Derived.Deep.RegionLaw
namespace Go.Proofs.Ytaddjeegplfjiaa.Q
open Go.RowKit Go.Proofs.YtaddjeegplfjiaaW.PrintWords Go.Proofs.YtaddjeegplfjiaaW.PrintLast Go.Proofs.YtaddjeegplfjiaaW.PrintMore
attribute [local go_sem] max2_int min2_int max_two min_two max_three min_three max_four min_four   -- for this text's walks alone
set_option linter.unusedVariables false
set_option linter.unusedSimpArgs false

/-- what holds behind one operation of a region: the rest of it, no other way out -/
def regQ (K : Act → World → Prop) : Exit → Act → World → Prop
  | .normal, a, w => K a w
  | _, _, _ => False
section
variable {P : Program} {ops : Array Oper} {o : Oper} {a : Act} {K : Act → World → Prop} {Q : Exit → Act → World → Prop} {E : Prop} {S : Nat → Prop} {w W : World} {L : List (Nat × Blk)}
theorem wp_regQ {K2 : Act → World → Prop} (h : ∀ a w, K2 a w → K a w) (hh : o.wp P a W K2 (regQ K)) : o.wp P a W K Q := by
  unfold Oper.wp at *
  generalize (execOp a.eval o).run P W = r at *
  cases r with
  | ok n w' =>
    cases n <;> simp only [Oper.upon] at hh ⊢ <;>
      first
        | exact h _ _ hh
        | exact Calls.mono hh (fun e w'' he => by
            cases e with
            | returned v => exact h _ _ he
            | panicked c => exact he.elim
            | outgrown => obtain ⟨_, _, he⟩ := he; exact he.elim)
        | exact Rows.mono hh (fun _ _ he => h _ _ he)
  | halt x w' => cases x <;> simp only [Oper.upon] at hh ⊢ <;> exact hh.elim
/-- one operation of a region, by the rules for a list of operations -/
theorem reg_step (hw : Region.wanted o (yielded ops a.tmps) = true) (h : wpList P ops (regQ K) [o] a W) : if Region.wanted o (yielded ops a.tmps) = true then Oper.wp P o a W K Q else E := by
  rw [if_pos hw]
  unfold wpList at h
  rw [if_pos hw] at h
  rcases h with h | ⟨_, _, _, h⟩
  · exact wp_regQ (fun _ _ h => h) h
  · exact h.elim
theorem reg_end (h : K a W) : wpList P ops (regQ K) [] a W := h
theorem Aw.newD (h : Aw S w W L) (t : TypeId) (l : List Value) : Aw S w (W.alloc (.cells l.toArray t (0, 0))) ((W.heap.size, .c t l) :: L) := by
  obtain ⟨g, W2, rfl, rfl, H⟩ := h.new (b := .c t l) (o := .cells l.toArray t (0, 0)) rfl
  exact H
theorem Aw.setD (h : Aw S w W L) {i g j : Nat} {T : TypeId} {l : List Value} (v : Value) (hi : L[i]? = some (g, .c T l)) : Aw S w (W.setCell ⟨g, j, none⟩ v) (L.set i (g, .c T (l.set j v))) := by
  have h2 := blk_set (g := g) (h.at hi) j v
  rw [List.setIfInBounds_toArray] at h2
  exact h.put (b' := .c T (l.set j v)) hi ⟨rfl, rfl, rfl⟩ (by simp [World.setCell]) h2 rfl (fun k _ hk => Below.heap_setCell W ⟨g, j, none⟩ v k hk)
theorem Aw.setW (h : Aw S w W L) {i g : Nat} {T : TypeId} {l : List Value} (vs : List Value) (hi : L[i]? = some (g, .c T l)) (hj : vs.length = l.length) : Aw S w (W.setCells g 0 vs) (L.set i (g, .c T vs)) := by
  obtain ⟨e1, e2, e3, e4⟩ := setCells_heap g vs 0 W l (h.at hi) (by omega)
  have e : l.take 0 ++ vs ++ l.drop (0 + vs.length) = vs := by rw [List.drop_eq_nil_of_le (by omega)]; simp
  rw [e] at e1
  exact h.put (b' := .c T vs) hi e4 (Nat.le_of_eq e2.symm) e1 rfl (fun k _ hk => e3 k hk)
theorem Aw.storeW_run (h : Aw S w W L) {i g : Nat} {t T : TypeId} {l : List Value} (vs : List Value) (hi : L[i]? = some (g, .c T l)) (hj : vs.length = l.length) (ht : sizeB P t vs.length = true) (h1 : vs.all (·.oneCell') = true) :
    (Instr.storeAt t (.pointer (some ⟨g, 0, none⟩)) (.agg vs.toArray)).run P W = .ok () (W.setCells g 0 vs) := by
  have := run_storeAt_mid (P := P) W g 0 t vs.toArray (by rw [List.size_toArray]; exact h.there hi (by omega)) (by rw [List.size_toArray]; simpa [sizeB] using ht) (all_oneCell_toArray (by simpa using h1))
  rwa [List.toList_toArray] at this
end
end Go.Proofs.Ytaddjeegplfjiaa.Q
