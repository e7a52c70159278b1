/- Words for a walk by hand: a callee that writes the blocks that it was given, and the caller's other blocks. -/
import Derived.Test.YtaddjeegplfjiaaQx0
import Derived.Test.YtaddjeegplfjiaaAw
import Derived.Test.YtaddjeegplfjiaaAwSl
--@needs XAw
--@needs XAwSl
namespace Go.Proofs.Ytaddjeegplfjiaa.Q
open Go.RowKit Go.Proofs.YtaddjeegplfjiaaW.PrintWords Go.Proofs.YtaddjeegplfjiaaW.PrintLast Go.Proofs.YtaddjeegplfjiaaW.PrintMore
attribute [local go_sem] max2_int min2_int max_two min_two max_three min_three max_four min_four   -- for this text's walks alone
set_option linter.unusedVariables false
set_option linter.unusedSimpArgs false

section
variable {S0 : Nat → Prop} {w0 W W' : World} {L L' R : List (Nat × Blk)}
/-- the blocks of a list are given to a callee to write -/
abbrev inL (L : List (Nat × Blk)) : Nat → Prop := fun g => g ∈ L.map (·.1)
theorem Aw.givens (h : Aw S0 w0 W L) : Aw (inL L) W W L := ⟨Kp.refl _ _, fun x hx => ⟨(h.2.1 x hx).1, .inl (List.mem_map_of_mem hx)⟩, h.2.2⟩
theorem Aw.left (h : Aw S0 w0 W (L ++ R)) : Aw S0 w0 W L := h.sub (List.sublist_append_left _ _)
theorem Aw.right (h : Aw S0 w0 W (L ++ R)) : Aw S0 w0 W R := h.sub (List.sublist_append_right _ _)
theorem Aw.inL_mine (h : Aw S0 w0 W (L ++ R)) (k : Nat) (hk : inL L k) : S0 k ∨ w0.heap.size ≤ k := by
  obtain ⟨x, hx, rfl⟩ := List.mem_map.1 hk
  exact (h.2.1 x (List.mem_append_left _ hx)).2
theorem Aw.inL_other (h : Aw S0 w0 W (L ++ R)) (x : Nat × Blk) (hx : x ∈ R) : ¬ inL L x.1 := by
  intro hk
  have hd := h.2.2
  rw [List.map_append, List.nodup_append] at hd
  exact hd.2.2 x.1 hk x.1 (List.mem_map_of_mem hx) rfl
theorem Kp.frame (h : Aw S0 w0 W (L ++ R)) (k : Kp (inL L) W W') : Aw S0 w0 W' R := h.right.step k (fun x hx => h.inL_other x hx) (fun k hk => h.inL_mine k hk)
theorem Aw.frame (h : Aw S0 w0 W (L ++ R)) (k : Aw (inL L) W W' L') : Aw S0 w0 W' (L' ++ R) := by
  have hR := Kp.frame h k.1
  refine ⟨hR.1, ?_, ?_⟩
  · intro x hx
    rcases List.mem_append.1 hx with hx | hx
    · refine ⟨(k.2.1 x hx).1, ?_⟩
      rcases (k.2.1 x hx).2 with h2 | h2
      · exact h.inL_mine x.1 h2
      · exact .inr (Nat.le_trans h.1.size h2)
    · exact hR.2.1 x hx
  · rw [List.map_append, List.nodup_append]
    refine ⟨k.2.2, hR.2.2, ?_⟩
    intro y hy z hz e
    subst e
    obtain ⟨x, hx, rfl⟩ := List.mem_map.1 hy
    obtain ⟨u, hu, e⟩ := List.mem_map.1 hz
    rcases (k.2.1 x hx).2 with h2 | h2
    · exact h.inL_other u hu (e ▸ h2)
    · obtain ⟨o, ho, _⟩ := (h.right.2.1 u hu).1
      have := blk_lt ho
      omega
theorem Aw.congr {L2 : List (Nat × Blk)} (h : Aw S0 w0 W L) (e : L = L2) : Aw S0 w0 W L2 := e ▸ h
/-- what came in reads on: nothing of the first world's is written -/
theorem Kp.reads {α : Type} {d : Kd α} {A : Option Addr} {n : Nat} {xs : List α} (h : Kp noS w0 W) (hr : Kd.C d w0 A n xs) : Kd.C d W A n xs := Kd.C_below hr (h.below (fun _ hk => hk.elim))
/-- what a callee has made stands beside what the caller knows -/
theorem Aw.fresh (h : Aw S0 w0 W R) (k : Aw noS W W' L') : Aw S0 w0 W' (L' ++ R) :=
  Aw.frame (L := []) h ⟨k.1.mono (fun _ hk => hk.elim), fun x hx => ⟨(k.2.1 x hx).1, (k.2.1 x hx).2.elim (fun h => h.elim) .inr⟩, k.2.2⟩
end
end Go.Proofs.Ytaddjeegplfjiaa.Q
