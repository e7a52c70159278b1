/- asm.wrong. By wip/gen/asm_of.py. -/
import Derived.Test.YtlhkojnocconfaaDoorQx0
import Derived.Test.YtlhkojnocconfaaDoorAsmModel
import Derived.Test.YtlhkojnocconfaaDoorAw
import Derived.Test.YtlhkojnocconfaaDoorAwAll
--@needs XAw
--@needs XAwMap
--@needs XAwSl
--@needs XAwFrame
--@needs XAsmModel
--@uses camlet/asm.may
--@uses camlet/asm.goes
import Derived.LoopTactic
import Derived.Deep.LoopGhost
import Derived.Lib.Hide
import Derived.Deep.QuietTactic
import Derived.BigQuiet
import Derived.IntWalk
import Derived.StringKeys
namespace Go.Proofs.YtlhkojnocconfaaDoor.Q
open Go.RowKit Go.Proofs.YtlhkojnocconfaaDoorW.PrintWords Go.Proofs.YtlhkojnocconfaaDoorW.PrintLast Go.Proofs.YtlhkojnocconfaaDoorW.PrintMore
attribute [local go_sem] max2_int min2_int max_two min_two max_three min_three max_four min_four   -- for this text's walks alone
set_option linter.unusedVariables false
set_option linter.unusedSimpArgs false

open Go.Maps
theorem si_under : Tryd.prog.underlying 48 = some (.map 9 3) := by kernel_rfl
theorem si_int : Tryd.prog.underlying 3 = some (.int .i64) := by kernel_rfl
theorem si_str : Tryd.prog.underlying 9 = some .string := by kernel_rfl
theorem s_keyed : Keyed Tryd.prog 9 := string_keyed si_str
theorem si_zero (W : World) : (zeroValue 3).run Tryd.prog W = .ok (.int .i64 0) W := by kernel_rfl
theorem s_key {s : ByteArray} (h : s.size ≤ 9223372036854775807) : keyOf Tryd.prog 9 (.string s) = some (skey s) := WideMaps.keyOf_string_mk si_str (by unfold maxLen; omega)
set_option maxHeartbeats 16000000 in
set_option maxRecDepth 100000 in
theorem asm_wrong.calls {S : Nat → Prop} {w W : World} {mm n : Nat} {y : Nat × Blk} {R : List (Nat × Blk)} (l : List S36) (i : Nat) (f0 f2 : ByteArray) (o0 o1 o2 o3 o4 : Int) (h0 : f0.size ≤ 9223372036854775807) (h2 : f2.size ≤ 9223372036854775807) (HA : Aw S w W (y :: (mm, Blk.m Tryd.prog 9 3 .i64 n (firstF l)) :: R)) :
    Calls Tryd.prog 21 #[.agg #[.string f0, .int .i64 o0, .int .i64 o1, .int .i64 o2, .int .i64 o3, .int .i64 o4, .string f2], .int .i64 i, .map (some mm)] W fun e W' => e = .returned (.int .i64 (asmWrong l i (⟨f0, ⟨o0, o1, o2, o3, o4⟩, f2⟩ : S36))) ∧ Aw S w W' (y :: (mm, Blk.m Tryd.prog 9 3 .i64 n (firstF l)) :: R) := by
  obtain ⟨res, hres⟩ : ∃ res, asmWrong l i (⟨f0, ⟨o0, o1, o2, o3, o4⟩, f2⟩ : S36) = res := ⟨_, rfl⟩
  rw [hres]
  have Hres := Lib.hid hres
  clear hres
  have hm0 := fun w => may_calls f0 h0 w
  have hm2 := fun w => may_calls f2 h2 w
  have hgo := fun w => goes_calls o0 w
  have hk0 := s_key h0
  have hk2 := s_key h2
  obtain ⟨v0, hv0⟩ : ∃ v, firstF l (skey f0) = v := ⟨_, rfl⟩
  obtain ⟨v2, hv2⟩ : ∃ v, firstF l (skey f2) = v := ⟨_, rfl⟩
  cases m0 : mayB f0 with
  | false =>
    rw [m0] at hm0
    have hr : res = 3 := by rw [← Hres.out]; unfold asmWrong; simp [m0]
    subst hr
    clear Hres
    go_enter Tryd.func21, Tryd.ntmps21
    go_wp2_with (first | ((with_reducible refine gate_dst (N := 3) rfl ?_); refine aw_box rfl rfl rfl HA ?_; clear HA; intro bx W_ HA; simp only [Act.put, List.setIfInBounds_toArray, List.set_cons_succ, List.set_cons_zero]) | ((with_reducible refine gate_dst (N := 15) rfl ?_); refine aw_lookup_ok 2 (f := firstF l) (kl := skey f0) s_keyed si_under si_int si_zero rfl rfl rfl rfl HA rfl hk0 hv0 ?_; simp only [Act.put, List.setIfInBounds_toArray, List.set_cons_succ, List.set_cons_zero]) | ((with_reducible refine gate_dst (N := 22) rfl ?_); refine aw_lookup_ok 2 (f := firstF l) (kl := skey f2) s_keyed si_under si_int si_zero rfl rfl rfl rfl HA rfl hk2 hv2 ?_; simp only [Act.put, List.setIfInBounds_toArray, List.set_cons_succ, List.set_cons_zero]) | (go_at_call 34; (first | refine (hm0 _).mono ?_ | refine (hm2 _).mono ?_); rintro e W_ ⟨rfl, hd⟩; replace HA := HA.drewN0 hd; clear hd) | (go_at_call 35; refine (hgo _).mono ?_; rintro e W_ ⟨rfl, hd⟩; replace HA := HA.drewN0 hd; clear hd) | ((with_reducible refine gate_ld rfl ?_); (refine aw_load 0 rfl rfl HA rfl rfl rfl ?_ ?_); kernel_rfl; simp only [Act.put, List.setIfInBounds_toArray, List.set_cons_succ, List.set_cons_zero]))
    go_ret
    exact ⟨rfl, HA.sub (List.sublist_cons_self _ _)⟩
  | true =>
  rw [m0] at hm0
  cases m2 : mayB f2 with
  | false =>
    rw [m2] at hm2
    have hr : res = 3 := by rw [← Hres.out]; unfold asmWrong; simp [m2]
    subst hr
    clear Hres
    go_enter Tryd.func21, Tryd.ntmps21
    go_wp2_with (first | ((with_reducible refine gate_dst (N := 3) rfl ?_); refine aw_box rfl rfl rfl HA ?_; clear HA; intro bx W_ HA; simp only [Act.put, List.setIfInBounds_toArray, List.set_cons_succ, List.set_cons_zero]) | ((with_reducible refine gate_dst (N := 15) rfl ?_); refine aw_lookup_ok 2 (f := firstF l) (kl := skey f0) s_keyed si_under si_int si_zero rfl rfl rfl rfl HA rfl hk0 hv0 ?_; simp only [Act.put, List.setIfInBounds_toArray, List.set_cons_succ, List.set_cons_zero]) | ((with_reducible refine gate_dst (N := 22) rfl ?_); refine aw_lookup_ok 2 (f := firstF l) (kl := skey f2) s_keyed si_under si_int si_zero rfl rfl rfl rfl HA rfl hk2 hv2 ?_; simp only [Act.put, List.setIfInBounds_toArray, List.set_cons_succ, List.set_cons_zero]) | (go_at_call 34; (first | refine (hm0 _).mono ?_ | refine (hm2 _).mono ?_); rintro e W_ ⟨rfl, hd⟩; replace HA := HA.drewN0 hd; clear hd) | (go_at_call 35; refine (hgo _).mono ?_; rintro e W_ ⟨rfl, hd⟩; replace HA := HA.drewN0 hd; clear hd) | ((with_reducible refine gate_ld rfl ?_); (refine aw_load 0 rfl rfl HA rfl rfl rfl ?_ ?_); kernel_rfl; simp only [Act.put, List.setIfInBounds_toArray, List.set_cons_succ, List.set_cons_zero]))
    go_ret
    exact ⟨rfl, HA.sub (List.sublist_cons_self _ _)⟩
  | true =>
  rw [m2] at hm2
  cases v0 with
  | none =>
    by_cases h2e : f2.toList = ([] : List UInt8)
    · have ce := beq_iff_eq.mpr h2e
      have ce2 := bne_eq_false_iff_eq.mpr h2e
      have hr : res = 0 := by rw [← Hres.out]; unfold asmWrong; simp [m0, m2, hv0, h2e]
      subst hr
      clear Hres
      go_enter Tryd.func21, Tryd.ntmps21
      go_wp2_with (first | ((with_reducible refine gate_dst (N := 3) rfl ?_); refine aw_box rfl rfl rfl HA ?_; clear HA; intro bx W_ HA; simp only [Act.put, List.setIfInBounds_toArray, List.set_cons_succ, List.set_cons_zero]) | ((with_reducible refine gate_dst (N := 15) rfl ?_); refine aw_lookup_ok 2 (f := firstF l) (kl := skey f0) s_keyed si_under si_int si_zero rfl rfl rfl rfl HA rfl hk0 hv0 ?_; simp only [Act.put, List.setIfInBounds_toArray, List.set_cons_succ, List.set_cons_zero]) | ((with_reducible refine gate_dst (N := 22) rfl ?_); refine aw_lookup_ok 2 (f := firstF l) (kl := skey f2) s_keyed si_under si_int si_zero rfl rfl rfl rfl HA rfl hk2 hv2 ?_; simp only [Act.put, List.setIfInBounds_toArray, List.set_cons_succ, List.set_cons_zero]) | (go_at_call 34; (first | refine (hm0 _).mono ?_ | refine (hm2 _).mono ?_); rintro e W_ ⟨rfl, hd⟩; replace HA := HA.drewN0 hd; clear hd) | (go_at_call 35; refine (hgo _).mono ?_; rintro e W_ ⟨rfl, hd⟩; replace HA := HA.drewN0 hd; clear hd) | ((with_reducible refine gate_ld rfl ?_); (refine aw_load 0 rfl rfl HA rfl rfl rfl ?_ ?_); kernel_rfl; simp only [Act.put, List.setIfInBounds_toArray, List.set_cons_succ, List.set_cons_zero]))
      go_ret
      exact ⟨rfl, HA.sub (List.sublist_cons_self _ _)⟩
    have ce := beq_eq_false_iff_ne.mpr h2e
    have ce2 := bne_iff_ne.mpr h2e
    cases hg : goesB o0 with
    | false =>
      rw [hg] at hgo
      have hr : res = 1 := by rw [← Hres.out]; unfold asmWrong; simp [m0, m2, hv0, h2e, hg]
      subst hr
      clear Hres
      go_enter Tryd.func21, Tryd.ntmps21
      go_wp2_with (first | ((with_reducible refine gate_dst (N := 3) rfl ?_); refine aw_box rfl rfl rfl HA ?_; clear HA; intro bx W_ HA; simp only [Act.put, List.setIfInBounds_toArray, List.set_cons_succ, List.set_cons_zero]) | ((with_reducible refine gate_dst (N := 15) rfl ?_); refine aw_lookup_ok 2 (f := firstF l) (kl := skey f0) s_keyed si_under si_int si_zero rfl rfl rfl rfl HA rfl hk0 hv0 ?_; simp only [Act.put, List.setIfInBounds_toArray, List.set_cons_succ, List.set_cons_zero]) | ((with_reducible refine gate_dst (N := 22) rfl ?_); refine aw_lookup_ok 2 (f := firstF l) (kl := skey f2) s_keyed si_under si_int si_zero rfl rfl rfl rfl HA rfl hk2 hv2 ?_; simp only [Act.put, List.setIfInBounds_toArray, List.set_cons_succ, List.set_cons_zero]) | (go_at_call 34; (first | refine (hm0 _).mono ?_ | refine (hm2 _).mono ?_); rintro e W_ ⟨rfl, hd⟩; replace HA := HA.drewN0 hd; clear hd) | (go_at_call 35; refine (hgo _).mono ?_; rintro e W_ ⟨rfl, hd⟩; replace HA := HA.drewN0 hd; clear hd) | ((with_reducible refine gate_ld rfl ?_); (refine aw_load 0 rfl rfl HA rfl rfl rfl ?_ ?_); kernel_rfl; simp only [Act.put, List.setIfInBounds_toArray, List.set_cons_succ, List.set_cons_zero]))
      go_ret
      exact ⟨rfl, HA.sub (List.sublist_cons_self _ _)⟩
    | true =>
    rw [hg] at hgo
    cases v2 with
    | none =>
      have hr : res = 25 := by rw [← Hres.out]; unfold asmWrong; simp [m0, m2, hv0, h2e, hg, hv2]
      subst hr
      clear Hres
      go_enter Tryd.func21, Tryd.ntmps21
      go_wp2_with (first | ((with_reducible refine gate_dst (N := 3) rfl ?_); refine aw_box rfl rfl rfl HA ?_; clear HA; intro bx W_ HA; simp only [Act.put, List.setIfInBounds_toArray, List.set_cons_succ, List.set_cons_zero]) | ((with_reducible refine gate_dst (N := 15) rfl ?_); refine aw_lookup_ok 2 (f := firstF l) (kl := skey f0) s_keyed si_under si_int si_zero rfl rfl rfl rfl HA rfl hk0 hv0 ?_; simp only [Act.put, List.setIfInBounds_toArray, List.set_cons_succ, List.set_cons_zero]) | ((with_reducible refine gate_dst (N := 22) rfl ?_); refine aw_lookup_ok 2 (f := firstF l) (kl := skey f2) s_keyed si_under si_int si_zero rfl rfl rfl rfl HA rfl hk2 hv2 ?_; simp only [Act.put, List.setIfInBounds_toArray, List.set_cons_succ, List.set_cons_zero]) | (go_at_call 34; (first | refine (hm0 _).mono ?_ | refine (hm2 _).mono ?_); rintro e W_ ⟨rfl, hd⟩; replace HA := HA.drewN0 hd; clear hd) | (go_at_call 35; refine (hgo _).mono ?_; rintro e W_ ⟨rfl, hd⟩; replace HA := HA.drewN0 hd; clear hd) | ((with_reducible refine gate_ld rfl ?_); (refine aw_load 0 rfl rfl HA rfl rfl rfl ?_ ?_); kernel_rfl; simp only [Act.put, List.setIfInBounds_toArray, List.set_cons_succ, List.set_cons_zero]))
      go_ret
      exact ⟨rfl, HA.sub (List.sublist_cons_self _ _)⟩
    | some b =>
      have hr : res = 0 := by rw [← Hres.out]; unfold asmWrong; simp [m0, m2, hv0, h2e, hg, hv2]
      subst hr
      clear Hres
      go_enter Tryd.func21, Tryd.ntmps21
      go_wp2_with (first | ((with_reducible refine gate_dst (N := 3) rfl ?_); refine aw_box rfl rfl rfl HA ?_; clear HA; intro bx W_ HA; simp only [Act.put, List.setIfInBounds_toArray, List.set_cons_succ, List.set_cons_zero]) | ((with_reducible refine gate_dst (N := 15) rfl ?_); refine aw_lookup_ok 2 (f := firstF l) (kl := skey f0) s_keyed si_under si_int si_zero rfl rfl rfl rfl HA rfl hk0 hv0 ?_; simp only [Act.put, List.setIfInBounds_toArray, List.set_cons_succ, List.set_cons_zero]) | ((with_reducible refine gate_dst (N := 22) rfl ?_); refine aw_lookup_ok 2 (f := firstF l) (kl := skey f2) s_keyed si_under si_int si_zero rfl rfl rfl rfl HA rfl hk2 hv2 ?_; simp only [Act.put, List.setIfInBounds_toArray, List.set_cons_succ, List.set_cons_zero]) | (go_at_call 34; (first | refine (hm0 _).mono ?_ | refine (hm2 _).mono ?_); rintro e W_ ⟨rfl, hd⟩; replace HA := HA.drewN0 hd; clear hd) | (go_at_call 35; refine (hgo _).mono ?_; rintro e W_ ⟨rfl, hd⟩; replace HA := HA.drewN0 hd; clear hd) | ((with_reducible refine gate_ld rfl ?_); (refine aw_load 0 rfl rfl HA rfl rfl rfl ?_ ?_); kernel_rfl; simp only [Act.put, List.setIfInBounds_toArray, List.set_cons_succ, List.set_cons_zero]))
      go_ret
      exact ⟨rfl, HA.sub (List.sublist_cons_self _ _)⟩
  | some a =>
    by_cases ha : a < (i : Int)
    · have ca := decide_eq_true ha
      have hr : res = 9 := by rw [← Hres.out]; unfold asmWrong; simp [m0, m2, hv0, ha]
      subst hr
      clear Hres
      go_enter Tryd.func21, Tryd.ntmps21
      go_wp2_with (first | ((with_reducible refine gate_dst (N := 3) rfl ?_); refine aw_box rfl rfl rfl HA ?_; clear HA; intro bx W_ HA; simp only [Act.put, List.setIfInBounds_toArray, List.set_cons_succ, List.set_cons_zero]) | ((with_reducible refine gate_dst (N := 15) rfl ?_); refine aw_lookup_ok 2 (f := firstF l) (kl := skey f0) s_keyed si_under si_int si_zero rfl rfl rfl rfl HA rfl hk0 hv0 ?_; simp only [Act.put, List.setIfInBounds_toArray, List.set_cons_succ, List.set_cons_zero]) | ((with_reducible refine gate_dst (N := 22) rfl ?_); refine aw_lookup_ok 2 (f := firstF l) (kl := skey f2) s_keyed si_under si_int si_zero rfl rfl rfl rfl HA rfl hk2 hv2 ?_; simp only [Act.put, List.setIfInBounds_toArray, List.set_cons_succ, List.set_cons_zero]) | (go_at_call 34; (first | refine (hm0 _).mono ?_ | refine (hm2 _).mono ?_); rintro e W_ ⟨rfl, hd⟩; replace HA := HA.drewN0 hd; clear hd) | (go_at_call 35; refine (hgo _).mono ?_; rintro e W_ ⟨rfl, hd⟩; replace HA := HA.drewN0 hd; clear hd) | ((with_reducible refine gate_ld rfl ?_); (refine aw_load 0 rfl rfl HA rfl rfl rfl ?_ ?_); kernel_rfl; simp only [Act.put, List.setIfInBounds_toArray, List.set_cons_succ, List.set_cons_zero]))
      go_ret
      exact ⟨rfl, HA.sub (List.sublist_cons_self _ _)⟩
    have ca := decide_eq_false ha
    by_cases h2e : f2.toList = ([] : List UInt8)
    · have ce := beq_iff_eq.mpr h2e
      have ce2 := bne_eq_false_iff_eq.mpr h2e
      have hr : res = 0 := by rw [← Hres.out]; unfold asmWrong; simp [m0, m2, hv0, ha, h2e]
      subst hr
      clear Hres
      go_enter Tryd.func21, Tryd.ntmps21
      go_wp2_with (first | ((with_reducible refine gate_dst (N := 3) rfl ?_); refine aw_box rfl rfl rfl HA ?_; clear HA; intro bx W_ HA; simp only [Act.put, List.setIfInBounds_toArray, List.set_cons_succ, List.set_cons_zero]) | ((with_reducible refine gate_dst (N := 15) rfl ?_); refine aw_lookup_ok 2 (f := firstF l) (kl := skey f0) s_keyed si_under si_int si_zero rfl rfl rfl rfl HA rfl hk0 hv0 ?_; simp only [Act.put, List.setIfInBounds_toArray, List.set_cons_succ, List.set_cons_zero]) | ((with_reducible refine gate_dst (N := 22) rfl ?_); refine aw_lookup_ok 2 (f := firstF l) (kl := skey f2) s_keyed si_under si_int si_zero rfl rfl rfl rfl HA rfl hk2 hv2 ?_; simp only [Act.put, List.setIfInBounds_toArray, List.set_cons_succ, List.set_cons_zero]) | (go_at_call 34; (first | refine (hm0 _).mono ?_ | refine (hm2 _).mono ?_); rintro e W_ ⟨rfl, hd⟩; replace HA := HA.drewN0 hd; clear hd) | (go_at_call 35; refine (hgo _).mono ?_; rintro e W_ ⟨rfl, hd⟩; replace HA := HA.drewN0 hd; clear hd) | ((with_reducible refine gate_ld rfl ?_); (refine aw_load 0 rfl rfl HA rfl rfl rfl ?_ ?_); kernel_rfl; simp only [Act.put, List.setIfInBounds_toArray, List.set_cons_succ, List.set_cons_zero]))
      go_ret
      exact ⟨rfl, HA.sub (List.sublist_cons_self _ _)⟩
    have ce := beq_eq_false_iff_ne.mpr h2e
    have ce2 := bne_iff_ne.mpr h2e
    cases hg : goesB o0 with
    | false =>
      rw [hg] at hgo
      have hr : res = 1 := by rw [← Hres.out]; unfold asmWrong; simp [m0, m2, hv0, ha, h2e, hg]
      subst hr
      clear Hres
      go_enter Tryd.func21, Tryd.ntmps21
      go_wp2_with (first | ((with_reducible refine gate_dst (N := 3) rfl ?_); refine aw_box rfl rfl rfl HA ?_; clear HA; intro bx W_ HA; simp only [Act.put, List.setIfInBounds_toArray, List.set_cons_succ, List.set_cons_zero]) | ((with_reducible refine gate_dst (N := 15) rfl ?_); refine aw_lookup_ok 2 (f := firstF l) (kl := skey f0) s_keyed si_under si_int si_zero rfl rfl rfl rfl HA rfl hk0 hv0 ?_; simp only [Act.put, List.setIfInBounds_toArray, List.set_cons_succ, List.set_cons_zero]) | ((with_reducible refine gate_dst (N := 22) rfl ?_); refine aw_lookup_ok 2 (f := firstF l) (kl := skey f2) s_keyed si_under si_int si_zero rfl rfl rfl rfl HA rfl hk2 hv2 ?_; simp only [Act.put, List.setIfInBounds_toArray, List.set_cons_succ, List.set_cons_zero]) | (go_at_call 34; (first | refine (hm0 _).mono ?_ | refine (hm2 _).mono ?_); rintro e W_ ⟨rfl, hd⟩; replace HA := HA.drewN0 hd; clear hd) | (go_at_call 35; refine (hgo _).mono ?_; rintro e W_ ⟨rfl, hd⟩; replace HA := HA.drewN0 hd; clear hd) | ((with_reducible refine gate_ld rfl ?_); (refine aw_load 0 rfl rfl HA rfl rfl rfl ?_ ?_); kernel_rfl; simp only [Act.put, List.setIfInBounds_toArray, List.set_cons_succ, List.set_cons_zero]))
      go_ret
      exact ⟨rfl, HA.sub (List.sublist_cons_self _ _)⟩
    | true =>
    rw [hg] at hgo
    cases v2 with
    | none =>
      have hr : res = 25 := by rw [← Hres.out]; unfold asmWrong; simp [m0, m2, hv0, ha, h2e, hg, hv2]
      subst hr
      clear Hres
      go_enter Tryd.func21, Tryd.ntmps21
      go_wp2_with (first | ((with_reducible refine gate_dst (N := 3) rfl ?_); refine aw_box rfl rfl rfl HA ?_; clear HA; intro bx W_ HA; simp only [Act.put, List.setIfInBounds_toArray, List.set_cons_succ, List.set_cons_zero]) | ((with_reducible refine gate_dst (N := 15) rfl ?_); refine aw_lookup_ok 2 (f := firstF l) (kl := skey f0) s_keyed si_under si_int si_zero rfl rfl rfl rfl HA rfl hk0 hv0 ?_; simp only [Act.put, List.setIfInBounds_toArray, List.set_cons_succ, List.set_cons_zero]) | ((with_reducible refine gate_dst (N := 22) rfl ?_); refine aw_lookup_ok 2 (f := firstF l) (kl := skey f2) s_keyed si_under si_int si_zero rfl rfl rfl rfl HA rfl hk2 hv2 ?_; simp only [Act.put, List.setIfInBounds_toArray, List.set_cons_succ, List.set_cons_zero]) | (go_at_call 34; (first | refine (hm0 _).mono ?_ | refine (hm2 _).mono ?_); rintro e W_ ⟨rfl, hd⟩; replace HA := HA.drewN0 hd; clear hd) | (go_at_call 35; refine (hgo _).mono ?_; rintro e W_ ⟨rfl, hd⟩; replace HA := HA.drewN0 hd; clear hd) | ((with_reducible refine gate_ld rfl ?_); (refine aw_load 0 rfl rfl HA rfl rfl rfl ?_ ?_); kernel_rfl; simp only [Act.put, List.setIfInBounds_toArray, List.set_cons_succ, List.set_cons_zero]))
      go_ret
      exact ⟨rfl, HA.sub (List.sublist_cons_self _ _)⟩
    | some b =>
      have hr : res = 0 := by rw [← Hres.out]; unfold asmWrong; simp [m0, m2, hv0, ha, h2e, hg, hv2]
      subst hr
      clear Hres
      go_enter Tryd.func21, Tryd.ntmps21
      go_wp2_with (first | ((with_reducible refine gate_dst (N := 3) rfl ?_); refine aw_box rfl rfl rfl HA ?_; clear HA; intro bx W_ HA; simp only [Act.put, List.setIfInBounds_toArray, List.set_cons_succ, List.set_cons_zero]) | ((with_reducible refine gate_dst (N := 15) rfl ?_); refine aw_lookup_ok 2 (f := firstF l) (kl := skey f0) s_keyed si_under si_int si_zero rfl rfl rfl rfl HA rfl hk0 hv0 ?_; simp only [Act.put, List.setIfInBounds_toArray, List.set_cons_succ, List.set_cons_zero]) | ((with_reducible refine gate_dst (N := 22) rfl ?_); refine aw_lookup_ok 2 (f := firstF l) (kl := skey f2) s_keyed si_under si_int si_zero rfl rfl rfl rfl HA rfl hk2 hv2 ?_; simp only [Act.put, List.setIfInBounds_toArray, List.set_cons_succ, List.set_cons_zero]) | (go_at_call 34; (first | refine (hm0 _).mono ?_ | refine (hm2 _).mono ?_); rintro e W_ ⟨rfl, hd⟩; replace HA := HA.drewN0 hd; clear hd) | (go_at_call 35; refine (hgo _).mono ?_; rintro e W_ ⟨rfl, hd⟩; replace HA := HA.drewN0 hd; clear hd) | ((with_reducible refine gate_ld rfl ?_); (refine aw_load 0 rfl rfl HA rfl rfl rfl ?_ ?_); kernel_rfl; simp only [Act.put, List.setIfInBounds_toArray, List.set_cons_succ, List.set_cons_zero]))
      go_ret
      exact ⟨rfl, HA.sub (List.sublist_cons_self _ _)⟩
end Go.Proofs.YtlhkojnocconfaaDoor.Q
