/- Words for a walk by hand: the length of a map and a store into it as runs (for a region that draws its order). -/
import Derived.Test.YtaddjeegplfjiaaQx0
import Derived.Test.YtaddjeegplfjiaaAw
import Derived.Test.YtaddjeegplfjiaaAwMap
--@needs XAwMap
namespace Go.Proofs.Ytaddjeegplfjiaa.Q
open Go.RowKit Go.Proofs.YtaddjeegplfjiaaW.PrintWords Go.Proofs.YtaddjeegplfjiaaW.PrintLast Go.Proofs.YtaddjeegplfjiaaW.PrintMore
attribute [local go_sem] max2_int min2_int max_two min_two max_three min_three max_four min_four   -- for this text's walks alone
set_option linter.unusedVariables false
set_option linter.unusedSimpArgs false

open Go.Maps
section
variable {P : Program} {S : Nat → Prop} {w W : World} {L : List (Nat × Blk)} {K E : TypeId} {q : IntKind} {n g : Nat} {f : Lit → Option Int}
theorem Aw.len_run (i : Nat) {t : TypeId} (HA : Aw S w W L) (ht : P.underlying t = some (.map K E)) (ty : TypeId) (hi : L[i]? = some (g, Blk.m P K E q n f)) : (Builtin.len_ #[t] ty #[.map (some g)]).run P W = .ok (.int .i64 n) W := by
  obtain ⟨D, hown, hs, hf⟩ := HA.owns hi
  have := hown.len ht ty
  rwa [hs] at this
theorem Aw.mapput_run (i : Nat) {t : TypeId} {key : Value} {kl : Lit} {v : Int} (HA : Aw S w W L) (law : Keyed P K) (ht : P.underlying t = some (.map K E)) (he : P.underlying E = some (.int q)) (hi : L[i]? = some (g, Blk.m P K E q n f)) (hk : keyOf P K key = some kl)
    (hv : (Lit.int q v).wf = true) (hn : n < maxLen) : ∃ W', (Instr.mapUpdate t (.map (some g)) key (.int q v)).run P W = .ok () W' ∧ Aw S w W' (L.set i (g, Blk.m P K E q (if (f kl).isSome then n else n + 1) (putf f kl v))) := by
  obtain ⟨D, hown, hs, hf⟩ := HA.owns hi
  obtain ⟨W2, hrun, hown2, hg⟩ := hown.update law ht hn hk (plainElem_int (H := Unit) he hv)
  have hD := (hown.isMap)
  have hT := (hown.tidy law)
  have hlt2 := hown2.lt
  have e2 : W2.heap[g]? = some W2.heap[g] := Array.getElem?_eq_getElem hlt2
  have hsz := size_put (k := kl) hT (.lit (.int q v))
  rw [(hf kl (law.key hk)).1, hs] at hsz
  have hO : MapO P K E q (Maps.size (D.put kl (.lit (.int q v)))) (putf f kl v) W2.heap[g] := by
    refine MapO.of_owns e2 hown2 (fun k2 hk2 => ?_)
    unfold putf
    by_cases e : k2 = kl
    · subst e
      rw [if_pos rfl]
      exact ⟨has_put_same hD hk2 _, atKey_put_same hD hk2 _ _⟩
    · rw [if_neg e, has_put_other e, atKey_put_other e]
      exact hf k2 hk2
  rw [hsz] at hO
  exact ⟨W2, hrun, HA.put (b' := Blk.m P K E q (if (f kl).isSome then n else n + 1) (putf f kl v)) hi ⟨hg.os, hg.tape, hg.output⟩ hg.size e2 hO (fun k hl hk => hg.block k hl (fun e => hk (Option.some.inj e)))⟩
end
end Go.Proofs.Ytaddjeegplfjiaa.Q
