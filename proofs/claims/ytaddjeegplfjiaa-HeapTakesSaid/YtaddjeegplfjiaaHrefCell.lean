/- The reference's number of a cell. By wip/gen/ref_take.py. -/
import Derived.Test.YtaddjeegplfjiaaQx0
import Derived.Test.YtaddjeegplfjiaaAw
import Derived.Test.YtaddjeegplfjiaaAwAny
import Derived.Test.YtaddjeegplfjiaaAwReg
import Derived.Test.YtaddjeegplfjiaaAwRs
import Derived.Test.YtaddjeegplfjiaaAwSl
import Derived.Test.YtaddjeegplfjiaaAwTree
import Derived.Test.YtaddjeegplfjiaaTakeM
--@needs XAwTree
--@needs XTakeM
--@needs XAwRs
--@needs XAwReg

import Derived.LoopTactic
import Derived.Deep.LoopGhost
import Derived.Lib.Hide
import Derived.IntWalk
import Derived.Outline
namespace Go.Proofs.Ytaddjeegplfjiaa.Q
open Go.RowKit Go.Proofs.YtaddjeegplfjiaaW.PrintWords Go.Proofs.YtaddjeegplfjiaaW.PrintLast Go.Proofs.YtaddjeegplfjiaaW.PrintMore
attribute [local go_sem] max2_int min2_int max_two min_two max_three min_three max_four min_four   -- for this text's walks alone
set_option linter.unusedVariables false
set_option linter.unusedSimpArgs false

theorem tk_iinfo : (Try.prog.info? 3).map (fun i => (i.zero, i.size, i.bytes)) = some (some (.int .i64 0), 1, 8) := by kernel_rfl
theorem cellV_hit {cs : List Int} {a : Int} {k : Nat} (hk : k < cs.length) (h : cs[k] = a) (hn : ∀ j : Nat, j < k → cs[j]? ≠ some a) : cellV cs a = ((k : Int), cs) := by
  have e : cs.findIdx? (fun x => x == a) = some k := by
    rw [List.findIdx?_eq_some_iff_getElem]
    refine ⟨hk, by simpa using h, fun j hj => ?_⟩
    have h2 := hn j hj
    rw [List.getElem?_eq_getElem (by omega)] at h2
    simpa using h2
  unfold cellV
  rw [e]
theorem cellV_miss {cs : List Int} {a : Int} (hn : ∀ j : Nat, j < cs.length → cs[j]? ≠ some a) : cellV cs a = ((cs.length : Int), cs ++ [a]) := by
  have e : cs.findIdx? (fun x => x == a) = none := by
    rw [List.findIdx?_eq_none_iff]
    intro x hx
    obtain ⟨j, hj, rfl⟩ := List.getElem_of_mem hx
    have h2 := hn j hj
    rw [List.getElem?_eq_getElem hj] at h2
    simpa using h2
  unfold cellV
  rw [e]
set_option maxHeartbeats 8000000 in
set_option maxRecDepth 100000 in
theorem T_cell.calls {S : Nat → Prop} {w W : World} {gt n c0 : Nat} {A0 : Option Addr} {left : Int} {vc : Value} {cs : List Int} {Lc : List (Nat × Blk)} (a : Int) (hown : Own 3 1 vc cs.length (cs.map (Value.int .i64)) Lc) (HA : Aw S w W ((gt, .c 67 [.slice A0 n c0, .int .i64 left, vc]) :: Lc)) (hlen : cs.length ≤ 1000000) :
    Calls Try.prog 54 #[.pointer (some ⟨gt, 0, none⟩), .int .i64 a] W fun e W' => e = .returned (.int .i64 (cellV cs a).1) ∧ ∃ vc' Lc', Own 3 1 vc' (cellV cs a).2.length ((cellV cs a).2.map (Value.int .i64)) Lc' ∧ Aw S w W' ((gt, .c 67 [.slice A0 n c0, .int .i64 left, vc']) :: Lc') := by
  obtain ⟨A_, c_, rfl⟩ := own_form hown
  obtain ⟨P, HP⟩ : ∃ P : Ending → World → Prop, Aside0 (P = fun e W' => e = .returned (.int .i64 (cellV cs a).1) ∧ ∃ vc' Lc', Own 3 1 vc' (cellV cs a).2.length ((cellV cs a).2.map (Value.int .i64)) Lc' ∧ Aw S w W' ((gt, .c 67 [.slice A0 n c0, .int .i64 left, vc']) :: Lc')) := ⟨_, ⟨rfl⟩⟩
  rw [← HP.out]
  go_enter Try.func54, Try.ntmps54
  go_wp2_with (first | ((with_reducible refine gate_ld rfl ?_); (first | refine aw_load 0 rfl rfl HA rfl rfl rfl ?_ ?_ | refine aw_load 1 rfl rfl HA rfl rfl rfl ?_ ?_); kernel_rfl; simp only [Act.put, List.setIfInBounds_toArray, List.set_cons_succ, List.set_cons_zero]))
  go_loopg [11] (cs.length) (fun g v wx => ∃ (k : Nat), k + g = cs.length ∧ v = .int .i64 k ∧ (∀ j : Nat, j < k → cs[j]? ≠ some a) ∧ Aw S w wx ((gt, .c 67 [.slice A0 n c0, .int .i64 left, .slice A_ cs.length c_]) :: Lc))
  case atStart => exact ⟨0, by omega, rfl, by intro j hj; omega, HA⟩
  case round =>
    obtain ⟨k, hk, rfl, hno, HA⟩ := hrel
    have Hno := Lib.hid hno
    clear hno
    by_cases hlt : k < cs.length
    · have ck : decide ((k : Int) < (cs.length : Int)) = true := decide_eq_true (by omega)
      have ck2 : decide (k < cs.length) = true := decide_eq_true hlt
      obtain ⟨x, hx⟩ : ∃ x, cs[k] = x := ⟨_, rfl⟩
      have hu : (cs.map (Value.int .i64))[k]? = some (.int .i64 x) := by rw [List.getElem?_map, List.getElem?_eq_getElem hlt, hx]; rfl
      obtain ⟨gc, cap, he, hcell⟩ := hown.cell HA (fun z hz => by simp [hz]) hu
      cases he
      have hX := Lib.hid hx
      have hw : IntKind.i64.wrap ((k : Int) + 1) = ((k + 1 : Nat) : Int) := by rw [IntWalk.i64_in _ (by omega)]; rfl
      clear hx hu
      by_cases hxa : x = a
      · have cx : (x == a) = true := beq_iff_eq.mpr hxa
        go_wp2_with (first | ((with_reducible refine gate_ld rfl ?_); (first | refine aw_loadc rfl rfl rfl hcell ?_ ?_ | refine aw_load 0 rfl rfl HA rfl rfl rfl ?_ ?_ | refine aw_load 1 rfl rfl HA rfl rfl rfl ?_ ?_); kernel_rfl; simp only [Act.put, List.setIfInBounds_toArray, List.set_cons_succ, List.set_cons_zero]))
        rw [HP.out]
        dsimp only
        rw [cellV_hit hlt (hX.out.trans hxa) Hno.out]
        exact ⟨rfl, _, _, hown, HA⟩
      · have cx : (x == a) = false := beq_eq_false_iff_ne.mpr hxa
        go_wp2_with (first | ((with_reducible refine gate_ld rfl ?_); (first | refine aw_loadc rfl rfl rfl hcell ?_ ?_ | refine aw_load 0 rfl rfl HA rfl rfl rfl ?_ ?_ | refine aw_load 1 rfl rfl HA rfl rfl rfl ?_ ?_); kernel_rfl; simp only [Act.put, List.setIfInBounds_toArray, List.set_cons_succ, List.set_cons_zero]))
        go_roundg (cs.length - (k + 1))
        case measure => omega
        case rel =>
          refine ⟨k + 1, by omega, rfl, ?_, HA⟩
          intro j hj
          rcases Nat.lt_succ_iff_lt_or_eq.1 hj with h | h
          · exact Hno.out j h
          · subst h
            rw [List.getElem?_eq_getElem hlt, hX.out]
            exact fun e => hxa (Option.some.inj e)
    · have ck : decide ((k : Int) < (cs.length : Int)) = false := decide_eq_false (by omega)
      have ck2 : decide (k < cs.length) = false := decide_eq_false hlt
      have hap1 : cs.length + 1 ≤ maxLen := by unfold maxLen; omega
      have hap2 : (cs.length + 1) * 8 ≤ 140737488355328 := by omega
      have s1 : IntKind.i64.wrap (((cs.length : Int) + 1) - 1) = (cs.length : Int) := by rw [IntWalk.i64_in _ (by omega)]; omega
      have hkl : k = cs.length := by omega
      have HKL := Lib.hid hkl
      clear hkl hk hlt
      go_wp2_with (first | ((with_reducible refine gate_dst (N := 31) rfl ?_); refine aw_newv (fun g => .slice (some ⟨g, 0, none⟩) 1 1) 3 [.int .i64 a] rfl (fun W => by first | (go_simp; done) | (go_simp; rfl) | kernel_rfl) HA ?_; clear HA; intro gl W_ HA; simp only [Act.put, List.setIfInBounds_toArray, List.set_cons_succ, List.set_cons_zero]) | ((with_reducible refine gate_dst (N := 32) rfl ?_); refine aw_append 2 0 rfl Try.underlying47 tk_iinfo rfl (Nat.le_refl 1) rfl hown rfl rfl HA rfl rfl rfl rfl hap1 hap2 ?_; clear HA; intro v_ W_ Lv_ hown_ HA; obtain ⟨A2_, c2_, rfl⟩ := own_form hown_; dsimp only [List.set, List.take, List.cons_append, List.nil_append] at HA; simp only [Act.put, List.setIfInBounds_toArray, List.set_cons_succ, List.set_cons_zero]) | ((with_reducible refine gate_ld rfl ?_); (first | refine aw_load 0 rfl rfl HA rfl rfl rfl ?_ ?_ | refine aw_load 1 rfl rfl HA rfl rfl rfl ?_ ?_); kernel_rfl; simp only [Act.put, List.setIfInBounds_toArray, List.set_cons_succ, List.set_cons_zero]) | ((with_reducible refine gate_st rfl ?_); (first | refine aw_store 0 (v := .slice _ _ _) rfl rfl rfl rfl rfl HA rfl rfl rfl ?_ ?_ | refine aw_store 1 (v := .slice _ _ _) rfl rfl rfl rfl rfl HA rfl rfl rfl ?_ ?_); kernel_rfl; clear HA; intro W_ HA; dsimp only [List.set, List.take, List.cons_append, List.nil_append] at HA))
      rw [HP.out]
      dsimp only
      rw [cellV_miss (fun j hj => Hno.out j (by have := HKL.out; omega))]
      refine ⟨rfl, _, Lv_, ?_, HA.sub (List.sublist_cons_self _ _)⟩
      simpa using hown_
end Go.Proofs.Ytaddjeegplfjiaa.Q
