/- slices.Clone of words. By wip/gen/heap_put.py. -/
import Derived.Test.YtaddjeegplfjiaaQx0
import Derived.Test.YtaddjeegplfjiaaAw
import Derived.Test.YtaddjeegplfjiaaAwAny
import Derived.Test.YtaddjeegplfjiaaAwReg
import Derived.Test.YtaddjeegplfjiaaAwRowPut
import Derived.Test.YtaddjeegplfjiaaAwSl
import Derived.Test.YtaddjeegplfjiaaAwTree
import Derived.Test.YtaddjeegplfjiaaHheapMay
--@needs XAwTree
--@needs XAwRowPut
--@needs XAwReg
--@needs XAwAny
--@needs XHheapMay

import Derived.LoopTactic
import Derived.Deep.LoopGhost
import Derived.Lib.Hide
import Derived.IntWalk
import Derived.Outline
namespace Go.Proofs.Ytaddjeegplfjiaa.Q
open Go.RowKit Go.Proofs.YtaddjeegplfjiaaW.PrintWords Go.Proofs.YtaddjeegplfjiaaW.PrintLast Go.Proofs.YtaddjeegplfjiaaW.PrintMore
attribute [local go_sem] max2_int min2_int max_two min_two max_three min_three max_four min_four   -- for this text's walks alone
set_option linter.unusedVariables false
set_option linter.unusedSimpArgs false

theorem hp_nil (A : Option Addr) (n c : Nat) (W : World) : (binOp .eql 30 (.slice A n c) (.slice none 0 0)).run Try.prog W = .ok (.bool A.isNone) W := by
  cases A <;> first | kernel_rfl | (simp [binOp, Try.underlying30, go_sem]; done) | (go_simp; done)
theorem hp_info : (Try.prog.info? 22).map (fun i => (i.zero, i.size, i.bytes)) = some (some (.int .u32 0), 1, 4) := by kernel_rfl
set_option maxHeartbeats 8000000 in
set_option maxRecDepth 100000 in
theorem hClone.calls (A0 : Option Addr) (c0 : Nat) (m : List Int) (w : World) (hr : Kd.C (Kd.int .u32) w A0 m.length m) (hm : m.length ≤ 1000000) :
    Calls Try.prog 29 #[.slice A0 m.length c0] w fun e w' => ∃ v Lv, e = .returned v ∧ Own 22 1 v m.length (m.map (Value.int .u32)) Lv ∧ Aw noS w w' Lv := by
  have hnil : ∀ W, (binOp .eql 30 (.slice A0 m.length c0) (.slice none 0 0)).run Try.prog W = .ok (.bool A0.isNone) W := hp_nil A0 m.length c0
  cases A0 with
  | none =>
    have h0 := (Kd.C_cells hr).1 rfl
    have h1 : m = [] := List.eq_nil_of_length_eq_zero h0
    subst h1
    replace hnil : ∀ W, (binOp .eql 30 (.slice none 0 c0) (.slice none 0 0)).run Try.prog W = .ok (.bool true) W := hnil
    go_enter Try.func29, Try.ntmps29
    go_wp2
    go_ret
    exact ⟨_, _, rfl, Own.nil _ _, Aw.start _ _⟩
  | some ad =>
    replace hnil : ∀ W, (binOp .eql 30 (.slice (some ad) m.length c0) (.slice none 0 0)).run Try.prog W = .ok (.bool false) W := hnil
    have hm0 : m.length ≤ maxLen := by unfold maxLen; omega
    have hm1 : m.length * 4 ≤ 140737488355328 := by omega
    have HR := Aside0.mk hr
    have HA := Aw.start noS w
    clear hr
    go_enter Try.func29, Try.ntmps29
    go_wp2_with (first | ((with_reducible refine gate_dst (N := 5) rfl ?_); refine aw_newv (fun g => .slice (some ⟨g, 0, none⟩) 0 0) 22 [] rfl (fun W => by first | (go_simp; done) | (go_simp; rfl) | kernel_rfl) HA ?_; clear HA; intro g0 W_ HA; simp only [Act.put, List.setIfInBounds_toArray, List.set_cons_succ, List.set_cons_zero]) | ((with_reducible refine gate_dst (N := 7) rfl ?_); refine aw_append_lit0 Try.underlying30 hp_info rfl rfl rfl rfl HA (news := m.map (Value.int .u32)) rfl (by simp) (Kd.C_cells (HA.1.reads HR.out)) (ints_one _) hm0 hm1 ?_; clear HA; intro v_ W_ Lv_ hown HA; dsimp only [List.cons_append, List.nil_append] at HA; simp only [Act.put, List.setIfInBounds_toArray, List.set_cons_succ, List.set_cons_zero]))
    go_ret
    exact ⟨_, _, rfl, hown, HA⟩
end Go.Proofs.Ytaddjeegplfjiaa.Q
