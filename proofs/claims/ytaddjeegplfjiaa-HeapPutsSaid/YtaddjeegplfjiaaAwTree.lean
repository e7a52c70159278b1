/- Words for a walk by hand: trees that callees have made, beside the blocks that are known. -/
import Derived.Test.YtaddjeegplfjiaaQx0
import Derived.Test.YtaddjeegplfjiaaAw
import Derived.Test.YtaddjeegplfjiaaAwAny
import Derived.Test.YtaddjeegplfjiaaAwFrame
import Derived.Test.YtaddjeegplfjiaaAwSl
--@needs XAw
--@needs XAwSl
--@needs XAwFrame
--@needs XAwAny
namespace Go.Proofs.Ytaddjeegplfjiaa.Q
open Go.RowKit Go.Proofs.YtaddjeegplfjiaaW.PrintWords Go.Proofs.YtaddjeegplfjiaaW.PrintLast Go.Proofs.YtaddjeegplfjiaaW.PrintMore
attribute [local go_sem] max2_int min2_int max_two min_two max_three min_three max_four min_four   -- for this text's walks alone
set_option linter.unusedVariables false
set_option linter.unusedSimpArgs false

section
variable {α : Type} {d : Kd α} {W W' : World} {b : Nat} {L Lc L' : List (Nat × Blk)} {x : α} {cs : List Value}
/-- none of the blocks that are known -/
abbrev offL (L : List (Nat × Blk)) : Nat → Prop := fun k => ¬ inL L k
theorem tree_keep (h : d.M W b (offL L) x cs) (hk : Kp (inL Lc) W W') (hc : ∀ g, inL Lc g → inL L g) (hn : ∀ g, inL L' g → inL L g ∨ W.heap.size ≤ g) : d.M W' b (offL L') x cs := by
  have h1 := d.M_move (w1 := W') (fun k hk1 => hk.block k hk1.2.2.1 (fun hi => hk1.1 (hc k hi))) (d.M_bound h)
  refine d.M_mono (fun k hk1 hi => ?_) h1
  rcases hn k hi with h2 | h2
  · exact hk1.1 h2
  · have := hk1.2.2.1; omega
theorem reps_imp {R R' : α → List Value → Prop} {n : Nat} {ps : List α} {c : List Value} (h : Reps R n ps c) (hR : ∀ p c, R p c → R' p c) : Reps R' n ps c := h.imp_ (fun p c hp => hR p c hp)
theorem trees_keep {n : Nat} {ps : List α} {c : List Value} (h : Reps (d.M W b (offL L)) n ps c) (hk : Kp (inL Lc) W W') (hc : ∀ g, inL Lc g → inL L g) (hn : ∀ g, inL L' g → inL L g ∨ W.heap.size ≤ g) : Reps (d.M W' b (offL L')) n ps c :=
  reps_imp h (fun _ _ hp => tree_keep hp hk hc hn)
/-- a tree that a callee has made from W on, beside the caller's other blocks R -/
theorem tree_beside {R : List (Nat × Blk)} {S : Nat → Prop} {w : World} (h : d.M W' W.heap.size (offL L') x cs) (hR : ∀ y ∈ R, y.1 < W.heap.size) : d.M W' W.heap.size (offL (L' ++ R)) x cs := by
  refine d.M_mono (fun k hk hi => ?_) (d.M_bound h)
  obtain ⟨y, hy, rfl⟩ := List.mem_map.1 hi
  rcases List.mem_append.1 hy with hy | hy
  · exact hk.1 (List.mem_map_of_mem hy)
  · have h1 := hR y hy
    have h2 := hk.2.1
    omega
theorem Aw.lt {S : Nat → Prop} {w : World} (h : Aw S w W L) : ∀ y ∈ L, y.1 < W.heap.size := fun y hy => by
  obtain ⟨o, ho, _⟩ := (h.2.1 y hy).1
  exact blk_lt ho
theorem Own.rowAt {e size n : Nat} {v : Value} {xs : List Value} {Lv : List (Nat × Blk)} {S : Nat → Prop} {w : World} (h : Own e size v n xs Lv) (HA : Aw S w W L) (hs : ∀ x ∈ Lv, x ∈ L) (hb : ∀ x ∈ Lv, b ≤ x.1) : W.ownsRow b e size v n xs := by
  obtain ⟨hl, ⟨rfl, rfl, rfl⟩ | ⟨g, cap, rfl, hc, rfl⟩⟩ := h
  · exact ⟨hl, .inl ⟨rfl, rfl⟩⟩
  · obtain ⟨⟨o, ho, cur, rfl, h1, h2, h3⟩, _⟩ := HA.getL (hs _ (List.mem_singleton.2 rfl))
    exact ⟨hl, .inr ⟨g, cap, cur, rfl, hb _ (List.mem_singleton.2 rfl), ho, hc, h2, h1, by rw [← hl]; exact h3⟩⟩
/-- what stands behind the known part of a list: of the old tail, or new -/
theorem Aw.fresh_tail {K2 K3 Lk Lk' : List (Nat × Blk)} (HA : Aw (inL (K2 ++ Lk)) W W' (K3 ++ Lk')) (hK : ∀ g, inL K2 g → inL K3 g) : ∀ y ∈ Lk', inL Lk y.1 ∨ W.heap.size ≤ y.1 := by
  intro y hy
  rcases (HA.2.1 y (List.mem_append_right _ hy)).2 with h | h
  · obtain ⟨u, hu, he⟩ := List.mem_map.1 h
    rcases List.mem_append.1 hu with hu | hu
    · exfalso
      have hd := HA.2.2
      rw [List.map_append, List.nodup_append] at hd
      have h3 : inL K3 y.1 := hK _ (he ▸ List.mem_map_of_mem hu)
      exact hd.2.2 y.1 h3 y.1 (List.mem_map_of_mem hy) rfl
    · exact .inl (he ▸ List.mem_map_of_mem hu)
  · exact .inr h
theorem Aw.newL {S : Nat → Prop} {w : World} (h : Aw S w W L) : ∀ g, inL L g → S g ∨ w.heap.size ≤ g := fun g hg => by
  obtain ⟨y, hy, rfl⟩ := List.mem_map.1 hg
  exact (h.2.1 y hy).2
theorem drop_mid {α : Type} (K Lc Lk : List α) : ((K ++ Lc) ++ Lk).drop (K.length + Lc.length) = Lk := by rw [← List.length_append, List.drop_left]
theorem take_mid {α : Type} (K Lc Lk Lx : List α) : ((K ++ Lc) ++ Lk).take (K.length + Lc.length) ++ Lx = (K ++ Lc) ++ Lx := by rw [← List.length_append, List.take_left]
end
end Go.Proofs.Ytaddjeegplfjiaa.Q
