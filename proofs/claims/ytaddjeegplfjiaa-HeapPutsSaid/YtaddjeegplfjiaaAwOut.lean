/- Words for a walk by hand: what a callee has made stands in the list of known blocks. -/
import Derived.Test.YtaddjeegplfjiaaQx0
import Derived.Test.YtaddjeegplfjiaaAw
import Derived.Test.YtaddjeegplfjiaaAwSl
--@needs XAw
--@needs XAwSl
namespace Go.Proofs.Ytaddjeegplfjiaa.Q
open Go.RowKit Go.Proofs.YtaddjeegplfjiaaW.PrintWords Go.Proofs.YtaddjeegplfjiaaW.PrintLast Go.Proofs.YtaddjeegplfjiaaW.PrintMore
attribute [local go_sem] max2_int min2_int max_two min_two max_three min_three max_four min_four   -- for this text's walks alone
set_option linter.unusedVariables false
set_option linter.unusedSimpArgs false

theorem Aw.fromR {w W W' : World} {L : List (Nat × Blk)} {q : IntKind} {e : TypeId} {ok : Nat → Prop} {v : Value} {l : List Int} (HA : Aw noS w W L) (hb : Below W.heap.size W W') (hR : Kd.R (Kd.int q) e W' W.heap.size ok v l) : ∃ Lv, Own e 1 v l.length (l.map (Value.int q)) Lv ∧ Aw noS w W' (L ++ Lv) := by
  have HB := HA.call hb
  obtain ⟨hl, ⟨rfl, hn⟩ | ⟨g, cap, cur, rfl, hg, hh, hc, hm, hs, ht⟩⟩ := Kd.own_of_R hR
  · exact ⟨[], ⟨by simp, .inl ⟨rfl, hn, rfl⟩⟩, by simpa using HB⟩
  · refine ⟨[(g, Blk.r e 1 cap (l.map (Value.int q)))], ⟨by simp, .inr ⟨g, cap, rfl, hc, rfl⟩⟩, HB.1, ?_, ?_⟩
    · intro x hx
      rcases List.mem_append.1 hx with hx | hx
      · exact HB.2.1 x hx
      · obtain rfl := List.mem_singleton.1 hx
        refine ⟨⟨_, hh, cur, rfl, hs, hm, ?_⟩, .inr (Nat.le_trans HA.1.size hg)⟩
        have e1 : (encs (Value.int q) l).length = l.length := by rw [hl]; omega
        have e2 : encs (Value.int q) l = l.map (Value.int q) := rfl
        rw [← e2, e1]
        rw [Nat.mul_one] at ht
        exact ht
    · rw [List.map_append, List.nodup_append]
      refine ⟨HB.2.2, by simp, ?_⟩
      intro y hy z hz he
      obtain ⟨x, hx, rfl⟩ := List.mem_map.1 hy
      have e3 : z = g := by simpa using hz
      subst e3
      obtain ⟨o, ho, _⟩ := (HA.2.1 x hx).1
      have := blk_lt ho
      omega
end Go.Proofs.Ytaddjeegplfjiaa.Q
