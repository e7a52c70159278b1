/- gc.Collect: what is still asked for, copied. By wip/gen/gc_coll.py. -/
import Derived.Test.YtnkbfbhhioemoaaQx0
import Derived.Test.YtnkbfbhhioemoaaAw
import Derived.Test.YtnkbfbhhioemoaaAwFrame
import Derived.Test.YtnkbfbhhioemoaaAwRow
import Derived.Test.YtnkbfbhhioemoaaAwSl
import Derived.Test.YtnkbfbhhioemoaaGcBlk
import Derived.Test.YtnkbfbhhioemoaaGcModel
import Derived.Test.YtnkbfbhhioemoaaGcMove
import Derived.Test.YtnkbfbhhioemoaaHgcChange
import Derived.Test.YtnkbfbhhioemoaaHgcMeet
import Derived.Test.YtnkbfbhhioemoaaHgcReach
import Derived.Test.YtnkbfbhhioemoaaHgcReachW
import Derived.Test.YtnkbfbhhioemoaaHgcRoom
--@needs XHgcReach
--@needs XHgcRoom
--@needs XHgcChange
--@needs XGcMove
--@needs XAwRow
--@uses (camlet/gc.half).leads
--@uses (camlet/gc.half).block
import Derived.LoopTactic
import Derived.Deep.LoopGhost
import Derived.Lib.Hide
import Derived.Deep.QuietTactic
import Derived.BigQuiet
import Derived.IntWalk
import Derived.StillTailTactics
import Derived.Outline
namespace Go.Proofs.Ytnkbfbhhioemoaa.Q
open Go.RowKit Go.Proofs.YtnkbfbhhioemoaaW.PrintWords Go.Proofs.YtnkbfbhhioemoaaW.PrintLast Go.Proofs.YtnkbfbhhioemoaaW.PrintMore
attribute [local go_sem] max2_int min2_int max_two min_two max_three min_three max_four min_four   -- for this text's walks alone
set_option linter.unusedVariables false
set_option linter.unusedSimpArgs false

open Go.Maps
def gCollect (m : List Int) (F T there : Int) (roots : List Int) : List Int × List Int × Int × Int :=
  if F < 0 ∨ T < F ∨ (m.length : Int) < T then ([], [], 0, 1) else if there < 0 ∨ (m.length : Int) < there then ([], [], 0, 1) else if gRoomOk m.length F T there = false then ([], [], 0, 1) else
  match gReach m F T (gBlk m T) roots with
  | none => ([], [], 0, 22)
  | some l => if gRoom m.length F T there < gWords (gBlk m T) l then ([], [], 0, 6) else
    (gLay m (gBlk m T) (gChange F T (gMoved (gBlk m T) there l)) there l m, roots.map (gChange F T (gMoved (gBlk m T) there l)), there + gWords (gBlk m T) l, 0)
def gc_Collect.f (l0 : List Int) (a1 : Int) (a2 : Int) (a3 : Int) (l4 : List Int) : Option (List Int × List Int × Int × Int) := if w32 l0 ∧ w32 l4 then some (gCollect l0 a1 a2 a3 l4) else none
theorem Aw.rot {S : Nat → Prop} {w W : World} {x : Nat × Blk} {L : List (Nat × Blk)} (h : Aw S w W (x :: L)) : Aw S w W (L ++ [x]) := h.perm (List.perm_append_comm (l₁ := [x]) (l₂ := L))
theorem Aw.unrot {S : Nat → Prop} {w W : World} {x : Nat × Blk} {L : List (Nat × Blk)} (h : Aw S w W (L ++ [x])) : Aw S w W (x :: L) := h.perm (List.perm_append_comm (l₁ := L) (l₂ := [x]))
theorem cp_zero (W : World) : (Instr.alloc 45 true (.tuple #[])).run Try.prog W = .ok (.pointer (some ⟨W.heap.size, 0, none⟩)) (W.alloc (.cells ([.pointer none] : List Value).toArray 45 (0, 0))) := by kernel_rfl
theorem mp_zero (W : World) : (Instr.alloc 54 true (.tuple #[])).run Try.prog W = .ok (.pointer (some ⟨W.heap.size, 0, none⟩)) (W.alloc (.cells ([.map none] : List Value).toArray 54 (0, 0))) := by kernel_rfl
theorem frame_reach {w W : World} {gc sm tm : Nat} {A0 A3 : Option Addr} {c0 c3 : Nat} {m roots : List Int} {F T : Int} {blk : Int → Int} {R : List (Nat × Blk)} (hr0 : Kd.C (Kd.int .u32) w A0 m.length m) (hc0 : m.length ≤ c0) (hm : w32 m) (hb : ¬ (F < 0 ∨ T < F ∨ (m.length : Int) < T)) (hblk : blk = gBlk m T)
    (hr3 : Kd.C (Kd.int .u32) w A3 roots.length roots) (hc3 : roots.length ≤ c3) (hro : w32 roots) (HA : Aw noS w W (gcL blk gc sm tm (.slice A0 m.length c0) (.slice none 0 0) F T [] ++ R)) :
    Calls Try.prog 22 #[.pointer (some ⟨gc, 0, none⟩), .slice A3 roots.length c3] W fun e W' => ((gReach m F T blk roots = none → e = .returned (.bool false) ∧ Aw noS w W' R) ∧ (∀ l, gReach m F T blk roots = some l → e = .returned (.bool true) ∧ ∃ v Lv, Own 3 1 v l.length (l.map (Value.int .i64)) Lv ∧ Aw noS w W' (gcL blk gc sm tm (.slice A0 m.length c0) v F T l ++ Lv ++ R))) := by
  subst hblk
  have HE : GcEnv (inL (gcL (gBlk m T) gc sm tm (.slice A0 m.length c0) (.slice none 0 0) F T [])) W A0 c0 m F T (gBlk m T) := gcEnv (fun W' hk => (Kp.frame HA hk).1.reads hr0) hc0 hm hb
  refine (gc_reach.calls HE (fun W' hk => (Kp.frame HA hk).1.reads hr3) hc3 hro.1 hro.2 ⟨_, [], Own.nil _ _, by simpa using HA.left.givens⟩).mono ?_
  intro e W' hp
  refine ⟨fun hg => ?_, fun l hg => ?_⟩
  · rw [hg] at hp
    exact ⟨hp.1, Kp.frame HA hp.2⟩
  · rw [hg] at hp
    obtain ⟨h1, v, Lv, h2, h3⟩ := hp
    exact ⟨h1, v, Lv, h2, Aw.frame HA h3⟩
set_option maxHeartbeats 8000000 in
set_option maxRecDepth 100000 in
theorem gc_Collect.early (A0 : Option Addr) (c0 : Nat) (l0 : List Int) (a1 : Int) (a2 : Int) (a3 : Int) (A4 : Option Addr) (c4 : Nat) (l4 : List Int) (r4 : Int) (w : World) (hr0 : Kd.C (Kd.int .u32) w A0 l0.length l0) (hc0 : l0.length ≤ c0) (hr4 : Kd.C (Kd.int .u32) w A4 l4.length l4) (hc4 : l4.length ≤ c4) (hok : w32 l0 ∧ w32 l4)
    (h : gCollect l0 a1 a2 a3 l4 = ([], [], 0, r4)) (h4 : r4 ≠ 0) :
    Calls Try.prog 10 #[.slice A0 l0.length c0, .int .i64 a1, .int .i64 a2, .int .i64 a3, .slice A4 l4.length c4] w fun e w' => e = .returned (.tuple #[.slice none 0 0, .slice none 0 0, .int .i64 0, .int .i64 r4]) ∧ Below w.heap.size w w' := by
  unfold gCollect at h
  by_cases hb : a1 < 0 ∨ a2 < a1 ∨ (l0.length : Int) < a2
  · rw [if_pos hb] at h
    simp only [Prod.mk.injEq, true_and] at h
    subst h
    have hbad := gc_begin.bad A0 l0.length c0 a1 a2 w hb
    have HA := Aw.start noS w
    clear hb hok h4
    go_enter Try.func10, Try.ntmps10
    go_wp2_with (first | (go_at_call 20; refine hbad.mono ?_; rintro e W_ ⟨rfl, rfl⟩) | ((with_reducible refine gate_dst (N := 14) rfl ?_); refine aw_alloc rfl rfl cp_zero HA ?_; clear HA; intro bc W_ HA; simp only [Act.put, List.setIfInBounds_toArray, List.set_cons_succ, List.set_cons_zero]) | ((with_reducible refine gate_ld rfl ?_); (first | refine aw_load 0 rfl rfl HA rfl rfl rfl ?_ ?_ | refine aw_load 1 rfl rfl HA rfl rfl rfl ?_ ?_); kernel_rfl; simp only [Act.put, List.setIfInBounds_toArray, List.set_cons_succ, List.set_cons_zero]) | ((with_reducible refine gate_st rfl ?_); (refine aw_store 0 (v := .pointer _) rfl rfl rfl rfl rfl HA rfl rfl rfl ?_ ?_); kernel_rfl; clear HA; intro W_ HA; dsimp only [List.set, List.take, List.cons_append, List.nil_append] at HA))
    (try simp only [Exit.inBlock, Exit.then]); refine bodyPost_ret (results_list (rs := [.tmp 10, .tmp 11, .tmp 12, .tmp 13]) rfl (by simp) (.tmp (.tmp (.tmp (.tmp .nil))))) rfl ?_
    exact ⟨rfl, HA.below⟩
  rw [if_neg hb] at h
  have hgood := gc_begin.good (gBlk l0 a2) A0 l0.length c0 a1 a2 w hb
  have hroom := fun W gc => gc_room.calls (W := W) (gc := gc) (A0 := A0) (n := l0.length) (c0 := c0) (F := a1) (T := a2) (there := a3) hok.1.1 (by omega) (by omega) (by omega)
  by_cases hth : a3 < 0 ∨ (l0.length : Int) < a3
  · rw [if_pos hth] at h
    simp only [Prod.mk.injEq, true_and] at h
    subst h
    rw [if_pos hth, if_pos hth] at hroom
    clear hb hok h4 hth
    go_enter Try.func10, Try.ntmps10
    go_wp2_with (first | (go_at_call 20; refine hgood.mono ?_; rintro e W_ ⟨gc, sm, tm, rfl, HA⟩) | ((with_reducible refine gate_dst (N := 14) rfl ?_); refine aw_alloc rfl rfl cp_zero HA ?_; clear HA; intro bc W_ HA; simp only [Act.put, List.setIfInBounds_toArray, List.set_cons_succ, List.set_cons_zero]) | (go_at_call 21; refine (hroom _ gc (HA.cell (i := 1) (j := 0) rfl rfl) (HA.cell (i := 1) (j := 1) rfl rfl) (HA.cell (i := 1) (j := 2) rfl rfl)).mono ?_; rintro e W_ ⟨rfl, hd⟩; replace HA := HA.drewN0 hd; clear hd) | ((with_reducible refine gate_ld rfl ?_); (first | refine aw_load 0 rfl rfl HA rfl rfl rfl ?_ ?_ | refine aw_load 1 rfl rfl HA rfl rfl rfl ?_ ?_); kernel_rfl; simp only [Act.put, List.setIfInBounds_toArray, List.set_cons_succ, List.set_cons_zero]) | ((with_reducible refine gate_st rfl ?_); (refine aw_store 0 (v := .pointer _) rfl rfl rfl rfl rfl HA rfl rfl rfl ?_ ?_); kernel_rfl; clear HA; intro W_ HA; dsimp only [List.set, List.take, List.cons_append, List.nil_append] at HA))
    (try simp only [Exit.inBlock, Exit.then]); refine bodyPost_ret (results_list (rs := [.tmp 10, .tmp 11, .tmp 12, .tmp 13]) rfl (by simp) (.tmp (.tmp (.tmp (.tmp .nil))))) rfl ?_
    exact ⟨rfl, HA.below⟩
  rw [if_neg hth] at h
  rw [if_neg hth, if_neg hth] at hroom
  obtain ⟨rn, hrn⟩ : ∃ rn, gRoom l0.length a1 a2 a3 = rn := ⟨_, rfl⟩
  rw [hrn] at hroom h
  cases hro : gRoomOk l0.length a1 a2 a3 with
  | false =>
    rw [if_pos hro] at h
    rw [hro] at hroom
    simp only [Prod.mk.injEq, true_and] at h
    subst h
    clear hb hok h4 hth hro hrn
    go_enter Try.func10, Try.ntmps10
    go_wp2_with (first | (go_at_call 20; refine hgood.mono ?_; rintro e W_ ⟨gc, sm, tm, rfl, HA⟩) | ((with_reducible refine gate_dst (N := 14) rfl ?_); refine aw_alloc rfl rfl cp_zero HA ?_; clear HA; intro bc W_ HA; simp only [Act.put, List.setIfInBounds_toArray, List.set_cons_succ, List.set_cons_zero]) | (go_at_call 21; refine (hroom _ gc (HA.cell (i := 1) (j := 0) rfl rfl) (HA.cell (i := 1) (j := 1) rfl rfl) (HA.cell (i := 1) (j := 2) rfl rfl)).mono ?_; rintro e W_ ⟨rfl, hd⟩; replace HA := HA.drewN0 hd; clear hd) | ((with_reducible refine gate_ld rfl ?_); (first | refine aw_load 0 rfl rfl HA rfl rfl rfl ?_ ?_ | refine aw_load 1 rfl rfl HA rfl rfl rfl ?_ ?_); kernel_rfl; simp only [Act.put, List.setIfInBounds_toArray, List.set_cons_succ, List.set_cons_zero]) | ((with_reducible refine gate_st rfl ?_); (refine aw_store 0 (v := .pointer _) rfl rfl rfl rfl rfl HA rfl rfl rfl ?_ ?_); kernel_rfl; clear HA; intro W_ HA; dsimp only [List.set, List.take, List.cons_append, List.nil_append] at HA))
    (try simp only [Exit.inBlock, Exit.then]); refine bodyPost_ret (results_list (rs := [.tmp 10, .tmp 11, .tmp 12, .tmp 13]) rfl (by simp) (.tmp (.tmp (.tmp (.tmp .nil))))) rfl ?_
    exact ⟨rfl, HA.below⟩
  | true =>
  rw [if_neg (by rw [hro]; decide)] at h
  rw [hro] at hroom
  have hreach := fun W gc sm tm (x : Nat × Blk) (HA : Aw noS w W (gcL (gBlk l0 a2) gc sm tm (.slice A0 l0.length c0) (.slice none 0 0) a1 a2 [] ++ [x])) => frame_reach hr0 hc0 hok.1 hb rfl hr4 hc4 hok.2 HA
  cases hg : gReach l0 a1 a2 (gBlk l0 a2) l4 with
  | none =>
    rw [hg] at h hreach
    simp only [Prod.mk.injEq, true_and] at h
    subst h
    replace hreach := fun W gc sm tm x HA => (hreach W gc sm tm x HA).mono (fun e W' hp => hp.1 rfl)
    clear hb hok h4 hth hro hrn hg hr0 hr4
    go_enter Try.func10, Try.ntmps10
    go_wp2_with (first | (go_at_call 20; refine hgood.mono ?_; rintro e W_ ⟨gc, sm, tm, rfl, HA⟩) | ((with_reducible refine gate_dst (N := 14) rfl ?_); refine aw_alloc rfl rfl cp_zero HA ?_; clear HA; intro bc W_ HA; simp only [Act.put, List.setIfInBounds_toArray, List.set_cons_succ, List.set_cons_zero]) | (go_at_call 21; refine (hroom _ gc (HA.cell (i := 1) (j := 0) rfl rfl) (HA.cell (i := 1) (j := 1) rfl rfl) (HA.cell (i := 1) (j := 2) rfl rfl)).mono ?_; rintro e W_ ⟨rfl, hd⟩; replace HA := HA.drewN0 hd; clear hd) | (go_at_call 22; refine (hreach _ gc sm tm _ (Aw.rot HA)).mono ?_; clear HA; rintro e W_ ⟨rfl, HA⟩) | ((with_reducible refine gate_ld rfl ?_); (first | refine aw_load 0 rfl rfl HA rfl rfl rfl ?_ ?_ | refine aw_load 1 rfl rfl HA rfl rfl rfl ?_ ?_); kernel_rfl; simp only [Act.put, List.setIfInBounds_toArray, List.set_cons_succ, List.set_cons_zero]) | ((with_reducible refine gate_st rfl ?_); (refine aw_store 0 (v := .pointer _) rfl rfl rfl rfl rfl HA rfl rfl rfl ?_ ?_); kernel_rfl; clear HA; intro W_ HA; dsimp only [List.set, List.take, List.cons_append, List.nil_append] at HA))
    (try simp only [Exit.inBlock, Exit.then]); refine bodyPost_ret (results_list (rs := [.tmp 10, .tmp 11, .tmp 12, .tmp 13]) rfl (by simp) (.tmp (.tmp (.tmp (.tmp .nil))))) rfl ?_
    exact ⟨rfl, HA.below⟩
  | some l =>
    rw [hg] at h hreach
    dsimp only at h
    by_cases hw : rn < gWords (gBlk l0 a2) l
    · rw [if_pos hw] at h
      simp only [Prod.mk.injEq, true_and] at h
      subst h
      replace hreach := fun W gc sm tm x HA => (hreach W gc sm tm x HA).mono (fun e W' hp => hp.2 l rfl)
      have cw := decide_eq_true hw
      clear hb hok h4 hth hro hrn hg hr0 hr4
      go_enter Try.func10, Try.ntmps10
      go_wp2_with (first | (go_at_call 20; refine hgood.mono ?_; rintro e W_ ⟨gc, sm, tm, rfl, HA⟩) | ((with_reducible refine gate_dst (N := 14) rfl ?_); refine aw_alloc rfl rfl cp_zero HA ?_; clear HA; intro bc W_ HA; simp only [Act.put, List.setIfInBounds_toArray, List.set_cons_succ, List.set_cons_zero]) | (go_at_call 21; refine (hroom _ gc (HA.cell (i := 1) (j := 0) rfl rfl) (HA.cell (i := 1) (j := 1) rfl rfl) (HA.cell (i := 1) (j := 2) rfl rfl)).mono ?_; rintro e W_ ⟨rfl, hd⟩; replace HA := HA.drewN0 hd; clear hd) | (go_at_call 22; refine (hreach _ gc sm tm _ (Aw.rot HA)).mono ?_; clear HA; rintro e W_ ⟨rfl, v_, Lv_, hown, HA⟩; replace HA := Aw.unrot HA) | ((with_reducible refine gate_ld rfl ?_); (first | refine aw_load 0 rfl rfl HA rfl rfl rfl ?_ ?_ | refine aw_load 1 rfl rfl HA rfl rfl rfl ?_ ?_); kernel_rfl; simp only [Act.put, List.setIfInBounds_toArray, List.set_cons_succ, List.set_cons_zero]) | ((with_reducible refine gate_st rfl ?_); (refine aw_store 0 (v := .pointer _) rfl rfl rfl rfl rfl HA rfl rfl rfl ?_ ?_); kernel_rfl; clear HA; intro W_ HA; dsimp only [List.set, List.take, List.cons_append, List.nil_append] at HA))
      (try simp only [Exit.inBlock, Exit.then]); refine bodyPost_ret (results_list (rs := [.tmp 10, .tmp 11, .tmp 12, .tmp 13]) rfl (by simp) (.tmp (.tmp (.tmp (.tmp .nil))))) rfl ?_
      exact ⟨rfl, HA.below⟩
    · rw [if_neg hw] at h
      simp only [Prod.mk.injEq] at h
      exact absurd h.2.2.2.symm h4
end Go.Proofs.Ytnkbfbhhioemoaa.Q
