/- camletlaw02.EndsCut, walked. By wip/gen/ends_cut.py. -/
import Derived.Test.YtaijpfooobcdkaaDoorQx0
import Derived.Test.YtaijpfooobcdkaaDoorQx1
import Derived.Test.YtaijpfooobcdkaaDoorQx2
import Derived.Test.YtaijpfooobcdkaaDoorQx3
import Derived.Test.YtaijpfooobcdkaaDoorAw
import Derived.Test.YtaijpfooobcdkaaDoorAwAny
import Derived.Test.YtaijpfooobcdkaaDoorAwFrame
import Derived.Test.YtaijpfooobcdkaaDoorAwOut
import Derived.Test.YtaijpfooobcdkaaDoorAwReg
import Derived.Test.YtaijpfooobcdkaaDoorAwRs
import Derived.Test.YtaijpfooobcdkaaDoorAwSl
import Derived.Test.YtaijpfooobcdkaaDoorEndsPlain
import Derived.Test.YtaijpfooobcdkaaDoorEndsShowPlain
import Derived.Test.YtaijpfooobcdkaaDoorEndsW
import Derived.Test.YtaijpfooobcdkaaDoorLaid
import Derived.Test.YtaijpfooobcdkaaDoorShowPlain
--@needs XLaid
--@needs XAwReg
--@needs XAwFrame
--@needs XAwOut
--@needs XAwAny
--@needs XAwRs
--@needs XEndsPlain
--@needs XEndsShowPlain
--@uses camlet/ends.Right
--@uses camlet/ends.Agree
--@uses camlet/camletlaw02.knows
import Derived.Lib.Hide
namespace Go.Proofs.YtaijpfooobcdkaaDoor.Q
open Go.RowKit Go.Proofs.YtaijpfooobcdkaaDoorW.PrintWords Go.Proofs.YtaijpfooobcdkaaDoorW.PrintLast Go.Proofs.YtaijpfooobcdkaaDoorW.PrintMore
attribute [local go_sem] max2_int min2_int max_two min_two max_three min_three max_four min_four   -- for this text's walks alone
set_option linter.unusedVariables false
set_option linter.unusedSimpArgs false

def camletlaw02_EndsCut.f (a0_0 : Int) (a0_1 : Int) (l0_2 : List Int) (a0_3 : Int) (l1 : List Int) (a2 : Int) : Option (Bool) := some true
theorem ec_out {α : Type} {g : Nat → Option α} {r : α} (h : Ev g r) : ∃ k, g k = some r := ⟨h.choose, h.choose_spec _ (Nat.le_refl _)⟩
theorem ec_zero (W : World) : (Instr.alloc 25 true (.tuple #[])).run Tryd.prog W = .ok (.pointer (some ⟨W.heap.size, 0, none⟩)) (W.alloc (.cells ([.int .i64 0, .int .i64 0, .slice none 0 0, .int .i64 0] : List Value).toArray 25 (0, 0))) := by kernel_rfl
theorem ec_info : (Tryd.prog.info? 3).map (fun i => (i.zero, i.size, i.bytes)) = some (some (.int .i64 0), 1, 8) := by kernel_rfl
set_option maxHeartbeats 8000000 in
set_option maxRecDepth 100000 in
theorem ends_cut_long (a0_0 a0_1 : Int) (A0 : Option Addr) (c0 : Nat) (l0 : List Int) (a0_3 : Int) (A1 : Option Addr) (c1 : Nat) (l1 : List Int) (a2 : Int) (w : World) (hG : Laid w) (hlong : 300 < l0.length ∨ 300 < l1.length) :
    Calls Tryd.prog 5 #[.agg #[.int .i64 a0_0, .int .i64 a0_1, .slice A0 l0.length c0, .int .i64 a0_3], .slice A1 l1.length c1, .int .i64 a2] w fun e w' => e = .returned (.bool true) ∧ Below w.heap.size w w' := by
  have HA := Aw.start noS w
  have HG := Aside0.mk hG
  obtain ⟨K, hK⟩ := ec_out knows_ev
  have HK := Aside0.mk hK
  clear hG hK
  by_cases h0 : 300 < l0.length
  · have c1 : decide (300 < (l0.length : Int)) = true := decide_eq_true (by omega)
    clear hlong h0
    go_enter Tryd.func5, Tryd.ntmps5
    go_wp2_with (first | ((with_reducible refine gate_dst (N := 3) rfl ?_); refine aw_box rfl rfl rfl HA ?_; clear HA; intro ga W_ HA; simp only [Act.put, List.setIfInBounds_toArray, List.set_cons_succ, List.set_cons_zero]) | (go_at_call 6; refine (camletlaw02_knows.calls K true _ (HG.out.mono HA.below) HK.out).mono ?_; rintro e W_ ⟨rfl, hb_⟩; replace HA := HA.call hb_; clear hb_) | ((with_reducible refine gate_ld rfl ?_); (refine aw_load 0 rfl rfl HA rfl rfl rfl ?_ ?_); kernel_rfl; simp only [Act.put, List.setIfInBounds_toArray, List.set_cons_succ, List.set_cons_zero]))
    go_ret
    exact ⟨rfl, HA.below⟩
  · have c1 : decide (300 < (l0.length : Int)) = false := decide_eq_false (by omega)
    have c2 : decide (300 < (l1.length : Int)) = true := decide_eq_true (by omega)
    clear hlong h0
    go_enter Tryd.func5, Tryd.ntmps5
    go_wp2_with (first | ((with_reducible refine gate_dst (N := 3) rfl ?_); refine aw_box rfl rfl rfl HA ?_; clear HA; intro ga W_ HA; simp only [Act.put, List.setIfInBounds_toArray, List.set_cons_succ, List.set_cons_zero]) | (go_at_call 6; refine (camletlaw02_knows.calls K true _ (HG.out.mono HA.below) HK.out).mono ?_; rintro e W_ ⟨rfl, hb_⟩; replace HA := HA.call hb_; clear hb_) | ((with_reducible refine gate_ld rfl ?_); (refine aw_load 0 rfl rfl HA rfl rfl rfl ?_ ?_); kernel_rfl; simp only [Act.put, List.setIfInBounds_toArray, List.set_cons_succ, List.set_cons_zero]))
    go_ret
    exact ⟨rfl, HA.below⟩
theorem ec_two1 {w W : World} {L : List (Nat × Blk)} (HA : Aw noS w W L) (vals : List Value) : Aw noS w ((W.alloc (.cells ([.int .i64 3, .int .i64 5, .int .i64 6] : List Value).toArray 22 (0, 0))).alloc (.cells vals.toArray 25 (0, 0))).drew ((W.heap.size + 1, .c 25 vals) :: L) := by
  have h := ((HA.newD 22 [.int .i64 3, .int .i64 5, .int .i64 6]).newD 25 vals).drew
  have e : (W.alloc (.cells ([.int .i64 3, .int .i64 5, .int .i64 6] : List Value).toArray 22 (0, 0))).heap.size = W.heap.size + 1 := by simp
  rw [e] at h
  exact h.sub (List.Sublist.cons_cons _ (List.Sublist.cons _ (List.Sublist.refl _)))
theorem ec_two2 {w W : World} {L : List (Nat × Blk)} (HA : Aw noS w W L) (vals : List Value) : Aw noS w ((W.alloc (.cells vals.toArray 25 (0, 0))).alloc (.cells ([.int .i64 3, .int .i64 5, .int .i64 6] : List Value).toArray 22 (0, 0))).drew ((W.heap.size, .c 25 vals) :: L) := by
  have h := ((HA.newD 25 vals).newD 22 [.int .i64 3, .int .i64 5, .int .i64 6]).drew
  exact h.sub (List.Sublist.cons _ (List.Sublist.refl _))
theorem Own.cast {e n m : Nat} {v : Value} {xs ys : List Value} {Lv : List (Nat × Blk)} (h : Own e 1 v n xs Lv) (hn : n = m) (hx : xs = ys) : Own e 1 v m ys Lv := hn ▸ hx ▸ h
set_option maxHeartbeats 8000000 in
set_option maxRecDepth 100000 in
theorem ends_cut_wrong (a0_0 a0_1 : Int) (A0 : Option Addr) (c0 : Nat) (l0 : List Int) (a0_3 : Int) (A1 : Option Addr) (c1 : Nat) (l1 : List Int) (a2 : Int) (w : World) (hr0 : Kd.C (Kd.int .i64) w A0 l0.length l0) (hc0 : l0.length ≤ c0) (hr1 : Kd.C (Kd.int .i64) w A1 l1.length l1) (hc1 : l1.length ≤ c1) (hG : Laid w) (hs0 : l0.length ≤ 300) (hs1 : l1.length ≤ 300) (kc : Int) (j : Nat) (hj : Int.tmod (IntKind.u64.wrap a2) 3 = (j : Int)) (hj3 : (j : Int) < 3) (hkc : ([.int .i64 3, .int .i64 5, .int .i64 6] : List Value)[j]? = some (.int .i64 kc)) (hR : eRight 1 0 (l0 ++ l1) 0 = false) :
    Calls Tryd.prog 5 #[.agg #[.int .i64 a0_0, .int .i64 a0_1, .slice A0 l0.length c0, .int .i64 a0_3], .slice A1 l1.length c1, .int .i64 a2] w fun e w' => e = .returned (.bool true) ∧ Below w.heap.size w w' := by
  have HA := Aw.start noS w
  have HG := Aside0.mk hG
  have HR0 := Aside0.mk hr0
  have HR1 := Aside0.mk hr1
  have HC0 := Aside0.mk hc0
  have HC1 := Aside0.mk hc1
  have d1 : decide (300 < (l0.length : Int)) = false := decide_eq_false (by omega)
  have d2 : decide (300 < (l1.length : Int)) = false := decide_eq_false (by omega)
  have hm0 : l0.length ≤ maxLen := by unfold maxLen; omega
  have hm1 : l0.length * 8 ≤ 140737488355328 := by omega
  have hm2 : l0.length + l1.length ≤ maxLen := by unfold maxLen; omega
  have hm3 : (l0.length + l1.length) * 8 ≤ 140737488355328 := by omega
  obtain ⟨B, hB⟩ : ∃ B, l0 ++ l1 = B := ⟨_, rfl⟩
  have HB1 : Aside0 (l0.length + l1.length = B.length) := ⟨by rw [← hB, List.length_append]⟩
  have HB2 : Aside0 (l0.map (Value.int .i64) ++ l1.map (Value.int .i64) = B.map (Value.int .i64)) := ⟨by rw [← hB, List.map_append]⟩
  have hBD : BD B := by show B.length ≤ _; have := HB1.out; omega
  have hBD0 : BD l0 := by show l0.length ≤ _; omega
  rw [hB] at hR
  have hAg : eAgree kc 0 l0 0 1 0 B 0 = false := by rw [eAgree_mid, hR]; simp
  obtain ⟨K, hK⟩ := ec_out knows_ev
  obtain ⟨KR, hKR⟩ := ec_out (right_ev 1 0 B 0 hBD)
  obtain ⟨KA, hKA⟩ := ec_out (agree_ev kc 0 l0 0 1 0 B 0 hBD0 hBD)
  rw [hAg] at hKA
  rw [hR] at hKR
  have HK := Aside0.mk hK
  have HKR := Aside0.mk hKR
  have HKA := Aside0.mk hKA
  clear hG hK hr0 hr1 hc0 hc1 hs0 hs1 hBD hBD0 hAg hKR hKA hB hR
  go_enter Tryd.func5, Tryd.ntmps5
  go_wp2_with (first | ((with_reducible refine gate_dst (N := 3) rfl ?_); refine aw_box rfl rfl rfl HA ?_; clear HA; intro ga W_ HA; simp only [Act.put, List.setIfInBounds_toArray, List.set_cons_succ, List.set_cons_zero]) | ((with_reducible refine gate_dst (N := 20) rfl ?_); refine aw_newv (fun g => .slice (some ⟨g, 0, none⟩) 0 0) 3 [] rfl (fun W => by first | (go_simp; done) | (go_simp; rfl) | kernel_rfl) HA ?_; clear HA; intro g0 W_ HA; simp only [Act.put, List.setIfInBounds_toArray, List.set_cons_succ, List.set_cons_zero]) | ((with_reducible refine gate_dst (N := 23) rfl ?_); refine aw_append_lit0 Tryd.underlying23 ec_info rfl rfl rfl rfl HA (news := l0.map (Value.int .i64)) rfl (by simp) (Kd.C_cells (HA.1.reads HR0.out)) (ints_one _) hm0 hm1 ?_; clear HA; intro v_ W_ Lv_ hown1 HA; dsimp only [List.cons_append, List.nil_append] at HA; simp only [Act.put, List.setIfInBounds_toArray, List.set_cons_succ, List.set_cons_zero]) | ((with_reducible refine gate_dst (N := 25) rfl ?_); refine aw_append_any 1 rfl Tryd.underlying23 ec_info rfl (Nat.le_refl 1) rfl hown1 rfl rfl HA (news := l1.map (Value.int .i64)) rfl (by simp) (Kd.C_cells (HA.1.reads HR1.out)) (ints_one _) hm2 hm3 ?_; clear HA hown1; intro v_ W_ Lv2_ hown2 HA; dsimp only [List.take, List.cons_append, List.nil_append] at HA; replace hown2 := hown2.cast HB1.out HB2.out; obtain ⟨A2, c2, rfl⟩ := own_form hown2; simp only [Act.put, List.setIfInBounds_toArray, List.set_cons_succ, List.set_cons_zero]) | ((with_reducible refine gate_dst (N := 7) rfl ?_); refine aw_alloc rfl rfl ec_zero HA ?_; clear HA; intro gb W_ HA; simp only [Act.put, List.setIfInBounds_toArray, List.set_cons_succ, List.set_cons_zero]) | ((with_reducible refine gate_ld rfl ?_); (first | refine aw_loadW 0 (t := 25) rfl rfl HA rfl rfl ?_ ?_ | refine aw_loadW 1 (t := 25) rfl rfl HA rfl rfl ?_ ?_ | refine aw_loadW 2 (t := 25) rfl rfl HA rfl rfl ?_ ?_ | refine aw_loadW 3 (t := 25) rfl rfl HA rfl rfl ?_ ?_ | refine aw_loadW 4 (t := 25) rfl rfl HA rfl rfl ?_ ?_ | refine aw_load 0 rfl rfl HA rfl rfl rfl ?_ ?_ | refine aw_load 1 rfl rfl HA rfl rfl rfl ?_ ?_ | refine aw_load 2 rfl rfl HA rfl rfl rfl ?_ ?_ | refine aw_load 3 rfl rfl HA rfl rfl rfl ?_ ?_ | refine aw_load 4 rfl rfl HA rfl rfl rfl ?_ ?_); kernel_rfl; simp only [Act.put, List.setIfInBounds_toArray, List.set_cons_succ, List.set_cons_zero]) | ((with_reducible refine gate_st rfl ?_); (first | refine aw_storeW 0 (t := 25) rfl rfl rfl rfl HA rfl rfl rfl ?_ rfl ?_ | refine aw_storeW 1 (t := 25) rfl rfl rfl rfl HA rfl rfl rfl ?_ rfl ?_ | refine aw_storeW 2 (t := 25) rfl rfl rfl rfl HA rfl rfl rfl ?_ rfl ?_ | refine aw_storeW 3 (t := 25) rfl rfl rfl rfl HA rfl rfl rfl ?_ rfl ?_ | refine aw_storeW 4 (t := 25) rfl rfl rfl rfl HA rfl rfl rfl ?_ rfl ?_); kernel_rfl; clear HA; intro W_ HA; dsimp only [List.set, List.take, List.cons_append, List.nil_append] at HA))
  have H0 := HA
  have H1 := H0.newD 22 [.int .i64 3, .int .i64 5, .int .i64 6]
  have H2 := H1.newD 25 [.int .i64 0, .int .i64 0, .slice none 0 0, .int .i64 0]
  have G1 := H0.newD 25 [.int .i64 0, .int .i64 0, .slice none 0 0, .int .i64 0]
  have G2 := G1.newD 22 [.int .i64 3, .int .i64 5, .int .i64 6]
  have a0d := (H0.drew).cell (i := 1) (j := 2) rfl rfl; have a1d := (H1.drew).cell (i := 2) (j := 2) rfl rfl; have a2d := (H2.drew).cell (i := 3) (j := 2) rfl rfl; have b1d := (G1.drew).cell (i := 2) (j := 2) rfl rfl; have b2d := (G2.drew).cell (i := 3) (j := 2) rfl rfl
  have k1d := (H1.drew).cell (i := 0) (j := j) rfl hkc; have k2d := (H2.drew).cell (i := 1) (j := j) rfl hkc; have k3d := (G2.drew).cell (i := 0) (j := j) rfl hkc
  have u0d := (H2.drew).cell (i := 0) (j := 0) rfl rfl; have y0d := (H2.drew).free (i := 0) (j := 0) rfl; have v0d := (G2.drew).cell (i := 1) (j := 0) rfl rfl; have z0d := (G2.drew).free (i := 1) (j := 0) rfl; have u1d := (H2.drew).cell (i := 0) (j := 1) rfl rfl; have y1d := (H2.drew).free (i := 0) (j := 1) rfl; have v1d := (G2.drew).cell (i := 1) (j := 1) rfl rfl; have z1d := (G2.drew).free (i := 1) (j := 1) rfl; have u2d := (H2.drew).cell (i := 0) (j := 2) rfl rfl; have y2d := (H2.drew).free (i := 0) (j := 2) rfl; have v2d := (G2.drew).cell (i := 1) (j := 2) rfl rfl; have z2d := (G2.drew).free (i := 1) (j := 2) rfl; have u3d := (H2.drew).cell (i := 0) (j := 3) rfl rfl; have y3d := (H2.drew).free (i := 0) (j := 3) rfl; have v3d := (G2.drew).cell (i := 1) (j := 3) rfl rfl; have z3d := (G2.drew).free (i := 1) (j := 3) rfl
  have a0n := (H0).cell (i := 1) (j := 2) rfl rfl; have a1n := (H1).cell (i := 2) (j := 2) rfl rfl; have a2n := (H2).cell (i := 3) (j := 2) rfl rfl; have b1n := (G1).cell (i := 2) (j := 2) rfl rfl; have b2n := (G2).cell (i := 3) (j := 2) rfl rfl
  have k1n := (H1).cell (i := 0) (j := j) rfl hkc; have k2n := (H2).cell (i := 1) (j := j) rfl hkc; have k3n := (G2).cell (i := 0) (j := j) rfl hkc
  have u0n := (H2).cell (i := 0) (j := 0) rfl rfl; have y0n := (H2).free (i := 0) (j := 0) rfl; have v0n := (G2).cell (i := 1) (j := 0) rfl rfl; have z0n := (G2).free (i := 1) (j := 0) rfl; have u1n := (H2).cell (i := 0) (j := 1) rfl rfl; have y1n := (H2).free (i := 0) (j := 1) rfl; have v1n := (G2).cell (i := 1) (j := 1) rfl rfl; have z1n := (G2).free (i := 1) (j := 1) rfl; have u2n := (H2).cell (i := 0) (j := 2) rfl rfl; have y2n := (H2).free (i := 0) (j := 2) rfl; have v2n := (G2).cell (i := 1) (j := 2) rfl rfl; have z2n := (G2).free (i := 1) (j := 2) rfl; have u3n := (H2).cell (i := 0) (j := 3) rfl rfl; have y3n := (H2).free (i := 0) (j := 3) rfl; have v3n := (G2).cell (i := 1) (j := 3) rfl rfl; have z3n := (G2).free (i := 1) (j := 3) rfl
  clear H0 H1 G1
  go_region
  · have HA1 := ec_two1 HA [.int .i64 kc, .int .i64 0, .slice A0 l0.length c0, .int .i64 0]; clear HA; clear H2 G2 a0d a1d a2d b1d b2d k1d k2d k3d u0d y0d v0d z0d u1d y1d v1d z1d u2d y2d v2d z2d u3d y3d v3d z3d a0n a1n a2n b1n b2n k1n k2n k3n u0n y0n v0n z0n u1n y1n v1n z1n u2n y2n v2n z2n u3n y3n v3n z3n; generalize World.drew _ = W9 at HA1 ⊢; generalize W_.heap.size + 1 = gc at HA1 ⊢; have HA := HA1; clear HA1
    go_wp2_with (first | (go_at_call 7; refine (ends_Right.calls KR 1 0 A2 c2 B 0 _ _ (own_readsA hown2 HA (fun z hz => by simp [hz])).1 (own_readsA hown2 HA (fun z hz => by simp [hz])).2 HKR.out).mono ?_; rintro e W_ ⟨rfl, hb_⟩; replace HA := HA.call hb_; clear hb_) | (go_at_call_of 11 kc; refine (ends_Agree.calls KA kc 0 A0 c0 l0 0 1 0 A2 c2 B 0 false _ (HA.1.reads HR0.out) HC0.out (own_readsA hown2 HA (fun z hz => by simp [hz])).1 (own_readsA hown2 HA (fun z hz => by simp [hz])).2 HKA.out).mono ?_; rintro e W_ ⟨rfl, hb_⟩; replace HA := HA.call hb_; clear hb_) | (go_at_call 6; refine (camletlaw02_knows.calls K true _ (HG.out.mono HA.below) HK.out).mono ?_; rintro e W_ ⟨rfl, hb_⟩; replace HA := HA.call hb_; clear hb_) | ((with_reducible refine gate_ld rfl ?_); (first | refine aw_loadW 0 (t := 25) rfl rfl HA rfl rfl ?_ ?_ | refine aw_loadW 1 (t := 25) rfl rfl HA rfl rfl ?_ ?_ | refine aw_loadW 2 (t := 25) rfl rfl HA rfl rfl ?_ ?_ | refine aw_loadW 3 (t := 25) rfl rfl HA rfl rfl ?_ ?_ | refine aw_loadW 4 (t := 25) rfl rfl HA rfl rfl ?_ ?_ | refine aw_load 0 rfl rfl HA rfl rfl rfl ?_ ?_ | refine aw_load 1 rfl rfl HA rfl rfl rfl ?_ ?_ | refine aw_load 2 rfl rfl HA rfl rfl rfl ?_ ?_ | refine aw_load 3 rfl rfl HA rfl rfl rfl ?_ ?_ | refine aw_load 4 rfl rfl HA rfl rfl rfl ?_ ?_); kernel_rfl; simp only [Act.put, List.setIfInBounds_toArray, List.set_cons_succ, List.set_cons_zero]))
    go_ret
    exact ⟨rfl, HA.below⟩
  · have HA1 := ec_two2 HA [.int .i64 kc, .int .i64 0, .slice A0 l0.length c0, .int .i64 0]; clear HA; clear H2 G2 a0d a1d a2d b1d b2d k1d k2d k3d u0d y0d v0d z0d u1d y1d v1d z1d u2d y2d v2d z2d u3d y3d v3d z3d a0n a1n a2n b1n b2n k1n k2n k3n u0n y0n v0n z0n u1n y1n v1n z1n u2n y2n v2n z2n u3n y3n v3n z3n; generalize World.drew _ = W9 at HA1 ⊢; generalize W_.heap.size = gc at HA1 ⊢; have HA := HA1; clear HA1
    go_wp2_with (first | (go_at_call 7; refine (ends_Right.calls KR 1 0 A2 c2 B 0 _ _ (own_readsA hown2 HA (fun z hz => by simp [hz])).1 (own_readsA hown2 HA (fun z hz => by simp [hz])).2 HKR.out).mono ?_; rintro e W_ ⟨rfl, hb_⟩; replace HA := HA.call hb_; clear hb_) | (go_at_call_of 11 kc; refine (ends_Agree.calls KA kc 0 A0 c0 l0 0 1 0 A2 c2 B 0 false _ (HA.1.reads HR0.out) HC0.out (own_readsA hown2 HA (fun z hz => by simp [hz])).1 (own_readsA hown2 HA (fun z hz => by simp [hz])).2 HKA.out).mono ?_; rintro e W_ ⟨rfl, hb_⟩; replace HA := HA.call hb_; clear hb_) | (go_at_call 6; refine (camletlaw02_knows.calls K true _ (HG.out.mono HA.below) HK.out).mono ?_; rintro e W_ ⟨rfl, hb_⟩; replace HA := HA.call hb_; clear hb_) | ((with_reducible refine gate_ld rfl ?_); (first | refine aw_loadW 0 (t := 25) rfl rfl HA rfl rfl ?_ ?_ | refine aw_loadW 1 (t := 25) rfl rfl HA rfl rfl ?_ ?_ | refine aw_loadW 2 (t := 25) rfl rfl HA rfl rfl ?_ ?_ | refine aw_loadW 3 (t := 25) rfl rfl HA rfl rfl ?_ ?_ | refine aw_loadW 4 (t := 25) rfl rfl HA rfl rfl ?_ ?_ | refine aw_load 0 rfl rfl HA rfl rfl rfl ?_ ?_ | refine aw_load 1 rfl rfl HA rfl rfl rfl ?_ ?_ | refine aw_load 2 rfl rfl HA rfl rfl rfl ?_ ?_ | refine aw_load 3 rfl rfl HA rfl rfl rfl ?_ ?_ | refine aw_load 4 rfl rfl HA rfl rfl rfl ?_ ?_); kernel_rfl; simp only [Act.put, List.setIfInBounds_toArray, List.set_cons_succ, List.set_cons_zero]))
    go_ret
    exact ⟨rfl, HA.below⟩
theorem mem_in {α : Type} {Lv L : List α} {z : α} (hz : z ∈ Lv) (h : ∀ y ∈ Lv, y ∈ L) : z ∈ L := h z hz
theorem own_some {e size n : Nat} {v : Value} {xs : List Value} {Lv : List (Nat × Blk)} (h : Own e size v n xs Lv) (hn : 0 < n) : ∃ g cap, v = .slice (some ⟨g, 0, none⟩) n cap ∧ Lv = [(g, Blk.r e size cap xs)] := by
  obtain ⟨_, ⟨_, h0, _⟩ | ⟨g, cap, rfl, _, rfl⟩⟩ := h
  · omega
  · exact ⟨g, cap, rfl, rfl⟩
theorem Aw.setR {S : Nat → Prop} {w W : World} {L : List (Nat × Blk)} (HA : Aw S w W L) {i g e size cap j : Nat} {xs : List Value} (v : Value) (hi : L[i]? = some (g, Blk.r e size cap xs)) : Aw S w (W.setCell ⟨g, j, none⟩ v) (L.set i (g, Blk.r e size cap (xs.set j v))) := by
  obtain ⟨ob, hg, cur, rfl, hs1, hs2, hs3⟩ := HA.atp hi
  have h2 := blk_set (g := g) hg j v
  have hr : RowO e size cap (xs.set j v) (.cells (cur.setIfInBounds j v) e (0, 0)) := by
    refine ⟨_, rfl, by simpa using hs1, hs2, ?_⟩
    rw [List.length_set, Array.toList_setIfInBounds, List.take_set, hs3]
  exact HA.put (b' := Blk.r e size cap (xs.set j v)) hi ⟨rfl, rfl, rfl⟩ (by simp [World.setCell]) h2 hr (fun k _ hk => Below.heap_setCell W ⟨g, j, none⟩ v k hk)
theorem Aw.freeR {S : Nat → Prop} {w W : World} {L : List (Nat × Blk)} (HA : Aw S w W L) {i g e size cap j : Nat} {xs : List Value} (hi : L[i]? = some (g, Blk.r e size cap xs)) : W.frozen? ⟨g, j, none⟩ = false := by
  obtain ⟨ob, hg, cur, rfl, hs1, hs2, hs3⟩ := HA.atp hi
  exact blk_frozen hg j
theorem Own.setR0 {e n m g cap : Nat} {xs ys : List Value} {u : Value} (h : Own e 1 (.slice (some ⟨g, 0, none⟩) n cap) n xs [(g, Blk.r e 1 cap xs)]) (hn : n = m) (hx : xs.set 0 u = ys) : Own e 1 (.slice (some ⟨g, 0, none⟩) m cap) m ys [(g, Blk.r e 1 cap ys)] := by
  subst hn hx
  obtain ⟨hl, ⟨h0, _⟩ | ⟨g', cap', h1, h2, h3⟩⟩ := h
  · cases h0
  · injection h1 with h4 _ h5
    injection h4 with h4
    injection h4 with h6
    subst h6 h5
    exact ⟨by rw [List.length_set]; exact hl, .inr ⟨_, _, rfl, h2, rfl⟩⟩
theorem ec_mid {kc : Int} (hk : kc = 3 ∨ kc = 5 ∨ kc = 6) (l D : List Int) : eMid kc 0 l 1 0 D = decide (l <+: D) := by
  have hc : eCut kc = true := by unfold eCut; rcases hk with rfl | rfl | rfl <;> rfl
  have h1 : eCut 1 = false := rfl
  unfold eMid
  rw [if_neg (by rw [hc]; rcases hk with rfl | rfl | rfl <;> simp)]
  unfold ePart
  rw [hc, h1]
  simp
theorem ec_agree_cb {kc : Int} (hk : kc = 3 ∨ kc = 5 ∨ kc = 6) (l m : List Int) (hR : eRight 1 0 (l ++ m) 0 = true) : eAgree kc 0 l 0 1 0 (l ++ m) 0 = true := by
  have hl : eRight kc 0 l 0 = true := by
    unfold eRight at hR ⊢
    have h := of_decide_eq_true hR
    refine decide_eq_true ⟨?_, ?_, by omega, by omega, .inl rfl, fun x hx => h.2.2.2.2.2 x (List.mem_append_left _ hx)⟩ <;> rcases hk with rfl | rfl | rfl <;> decide
  rw [eAgree_mid, hl, hR, ec_mid hk, decide_eq_true (List.prefix_append l m)]
  rfl
theorem ec_agree_cd {kc : Int} (hk : kc = 3 ∨ kc = 5 ∨ kc = 6) (x y : Int) (t u : List Int) (h : y ≠ x) : eAgree kc 0 (x :: t) 0 1 0 (y :: u) 0 = false := by
  have : decide (x :: t <+: y :: u) = false := decide_eq_false (fun hp => h (List.cons_prefix_cons.1 hp).1.symm)
  rw [eAgree_mid, ec_mid hk, this]
  simp
theorem ec_agree_eb (l m : List Int) (hm : m ≠ []) : eAgree 1 0 l 0 1 0 (l ++ m) 0 = false := by
  have e : eMid 1 0 l 1 0 (l ++ m) = false := by
    unfold eMid
    rw [if_pos (.inr (.inr ⟨rfl, rfl⟩))]
    unfold eSame
    refine decide_eq_false (fun h => hm ?_)
    have := congrArg List.length h.2.2
    rw [List.length_append] at this
    exact List.eq_nil_of_length_eq_zero (by omega)
  rw [eAgree_mid, e]
  simp
theorem ec_turn {x : Int} (h : W31 x = x) : Int.tmod (x + 1) 1073741824 ≠ x ∧ -1073741824 ≤ x ∧ x < 1073741824 := by
  unfold W31 at h
  refine ⟨?_, by omega, by omega⟩
  by_cases h0 : 0 ≤ x + 1
  · rw [Int.tmod_eq_emod_of_nonneg h0]; omega
  · rw [tmod_neg31 (by omega)]; omega
set_option maxHeartbeats 8000000 in
set_option maxRecDepth 100000 in
theorem ends_cut_00 (a0_0 a0_1 : Int) (A0 : Option Addr) (c0 : Nat) (l0 : List Int) (h0 : l0 = []) (a0_3 : Int) (A1 : Option Addr) (c1 : Nat) (l1 : List Int) (a2 : Int) (w : World) (hr0 : Kd.C (Kd.int .i64) w A0 l0.length l0) (hc0 : l0.length ≤ c0) (hr1 : Kd.C (Kd.int .i64) w A1 l1.length l1) (hc1 : l1.length ≤ c1) (hG : Laid w) (hs0 : (l0 : List Int).length ≤ 300) (hs1 : l1.length ≤ 300) (kc : Int) (hk : kc = 3 ∨ kc = 5 ∨ kc = 6) (j : Nat) (hj : Int.tmod (IntKind.u64.wrap a2) 3 = (j : Int)) (hj3 : (j : Int) < 3) (hkc : ([.int .i64 3, .int .i64 5, .int .i64 6] : List Value)[j]? = some (.int .i64 kc)) (hR : eRight 1 0 (l0 ++ l1) 0 = true) (hl1 : l1 = []) :
    Calls Tryd.prog 5 #[.agg #[.int .i64 a0_0, .int .i64 a0_1, .slice A0 l0.length c0, .int .i64 a0_3], .slice A1 l1.length c1, .int .i64 a2] w fun e w' => e = .returned (.bool true) ∧ Below w.heap.size w w' := by
  have HA := Aw.start noS w
  have HG := Aside0.mk hG
  have HR0 := Aside0.mk hr0
  have HR1 := Aside0.mk hr1
  have HC0 := Aside0.mk hc0
  have HC1 := Aside0.mk hc1
  have d1 : decide (300 < ((l0).length : Int)) = false := decide_eq_false (by omega)
  have d2 : decide (300 < (l1.length : Int)) = false := decide_eq_false (by omega)
  have d3 : decide (0 < ((l0).length : Int)) = false := by rw [h0]; rfl
  have d4 : ((l1.length : Int) == 0) = true := by rw [hl1]; rfl
  have d5 : ¬ 0 < (l0).length := by rw [h0]; decide
  have hm0 : (l0).length ≤ maxLen := by unfold maxLen; omega
  have hm1 : (l0).length * 8 ≤ 140737488355328 := by omega
  have hm2 : (l0).length + l1.length ≤ maxLen := by unfold maxLen; omega
  have hm3 : ((l0).length + l1.length) * 8 ≤ 140737488355328 := by omega
  obtain ⟨KA, hKA⟩ := ec_out (agree_ev kc 0 l0 0 1 0 (l0 ++ l1) 0 (by show _ ≤ _; omega) (by show _ ≤ _; rw [List.length_append]; omega))
  rw [ec_agree_cb hk l0 l1 hR] at hKA
  skip
  skip
  obtain ⟨B, hB⟩ : ∃ B, l0 ++ l1 = B := ⟨_, rfl⟩
  have HB1 : Aside0 ((l0).length + l1.length = B.length) := ⟨by rw [← hB, List.length_append]⟩
  have HB2 : Aside0 ((l0).map (Value.int .i64) ++ l1.map (Value.int .i64) = B.map (Value.int .i64)) := ⟨by rw [← hB, List.map_append]⟩
  skip
  have hm4 : B.length ≤ maxLen := by rw [← HB1.out]; exact hm2
  have hm5 : B.length * 8 ≤ 140737488355328 := by rw [← HB1.out]; exact hm3
  obtain ⟨K, hK⟩ := ec_out knows_ev
  obtain ⟨KR, hKR⟩ := ec_out (right_ev 1 0 (l0 ++ l1) 0 (by show _ ≤ _; rw [List.length_append]; omega))
  rw [hR] at hKR
  rw [hB] at hKR hKA
  have HK := Aside0.mk hK
  have HKR := Aside0.mk hKR
  have HKA := Aside0.mk hKA
  skip
  clear hG hK hr0 hr1 hc0 hc1 hs0 hs1 hKR hKA hR hl1 hk
  clear hB h0
  go_enter Tryd.func5, Tryd.ntmps5
  go_wp2_with (first | ((with_reducible refine gate_dst (N := 3) rfl ?_); refine aw_box rfl rfl rfl HA ?_; clear HA; intro ga W_ HA; simp only [Act.put, List.setIfInBounds_toArray, List.set_cons_succ, List.set_cons_zero]) | ((with_reducible refine gate_dst (N := 20) rfl ?_); refine aw_newv (fun g => .slice (some ⟨g, 0, none⟩) 0 0) 3 [] rfl (fun W => by first | (go_simp; done) | (go_simp; rfl) | kernel_rfl) HA ?_; clear HA; intro g0 W_ HA; simp only [Act.put, List.setIfInBounds_toArray, List.set_cons_succ, List.set_cons_zero]) | ((with_reducible refine gate_dst (N := 23) rfl ?_); refine aw_append_lit0 Tryd.underlying23 ec_info rfl rfl rfl rfl HA (news := l0.map (Value.int .i64)) rfl (by simp) (Kd.C_cells (HA.1.reads HR0.out)) (ints_one _) hm0 hm1 ?_; clear HA; intro v_ W_ Lv_ hown1 HA; dsimp only [List.cons_append, List.nil_append] at HA; simp only [Act.put, List.setIfInBounds_toArray, List.set_cons_succ, List.set_cons_zero]) | ((with_reducible refine gate_dst (N := 25) rfl ?_); refine aw_append_any 1 rfl Tryd.underlying23 ec_info rfl (Nat.le_refl 1) rfl hown1 rfl rfl HA (news := l1.map (Value.int .i64)) rfl (by simp) (Kd.C_cells (HA.1.reads HR1.out)) (ints_one _) hm2 hm3 ?_; clear HA hown1; intro v_ W_ Lv2_ hown2 HA; dsimp only [List.take, List.cons_append, List.nil_append] at HA; replace hown2 := hown2.cast HB1.out HB2.out; obtain ⟨A2, c2, rfl⟩ := own_form hown2; simp only [Act.put, List.setIfInBounds_toArray, List.set_cons_succ, List.set_cons_zero]) | ((with_reducible refine gate_dst (N := 7) rfl ?_); refine aw_alloc rfl rfl ec_zero HA ?_; clear HA; intro gb W_ HA; simp only [Act.put, List.setIfInBounds_toArray, List.set_cons_succ, List.set_cons_zero]) | ((with_reducible refine gate_ld rfl ?_); (first | refine aw_loadW 0 (t := 25) rfl rfl HA rfl rfl ?_ ?_ | refine aw_loadW 1 (t := 25) rfl rfl HA rfl rfl ?_ ?_ | refine aw_loadW 2 (t := 25) rfl rfl HA rfl rfl ?_ ?_ | refine aw_loadW 3 (t := 25) rfl rfl HA rfl rfl ?_ ?_ | refine aw_loadW 4 (t := 25) rfl rfl HA rfl rfl ?_ ?_ | refine aw_load 0 rfl rfl HA rfl rfl rfl ?_ ?_ | refine aw_load 1 rfl rfl HA rfl rfl rfl ?_ ?_ | refine aw_load 2 rfl rfl HA rfl rfl rfl ?_ ?_ | refine aw_load 3 rfl rfl HA rfl rfl rfl ?_ ?_ | refine aw_load 4 rfl rfl HA rfl rfl rfl ?_ ?_); kernel_rfl; simp only [Act.put, List.setIfInBounds_toArray, List.set_cons_succ, List.set_cons_zero]) | ((with_reducible refine gate_st rfl ?_); (first | refine aw_storeW 0 (t := 25) rfl rfl rfl rfl HA rfl rfl rfl ?_ rfl ?_ | refine aw_storeW 1 (t := 25) rfl rfl rfl rfl HA rfl rfl rfl ?_ rfl ?_ | refine aw_storeW 2 (t := 25) rfl rfl rfl rfl HA rfl rfl rfl ?_ rfl ?_ | refine aw_storeW 3 (t := 25) rfl rfl rfl rfl HA rfl rfl rfl ?_ rfl ?_ | refine aw_storeW 4 (t := 25) rfl rfl rfl rfl HA rfl rfl rfl ?_ rfl ?_); kernel_rfl; clear HA; intro W_ HA; dsimp only [List.set, List.take, List.cons_append, List.nil_append] at HA))
  have H0 := HA
  have H1 := H0.newD 22 [.int .i64 3, .int .i64 5, .int .i64 6]
  have H2 := H1.newD 25 [.int .i64 0, .int .i64 0, .slice none 0 0, .int .i64 0]
  have G1 := H0.newD 25 [.int .i64 0, .int .i64 0, .slice none 0 0, .int .i64 0]
  have G2 := G1.newD 22 [.int .i64 3, .int .i64 5, .int .i64 6]
  have a0d := (H0.drew).cell (i := 1) (j := 2) rfl rfl; have a1d := (H1.drew).cell (i := 2) (j := 2) rfl rfl; have a2d := (H2.drew).cell (i := 3) (j := 2) rfl rfl; have b1d := (G1.drew).cell (i := 2) (j := 2) rfl rfl; have b2d := (G2.drew).cell (i := 3) (j := 2) rfl rfl
  have k1d := (H1.drew).cell (i := 0) (j := j) rfl hkc; have k2d := (H2.drew).cell (i := 1) (j := j) rfl hkc; have k3d := (G2.drew).cell (i := 0) (j := j) rfl hkc
  have u0d := (H2.drew).cell (i := 0) (j := 0) rfl rfl; have y0d := (H2.drew).free (i := 0) (j := 0) rfl; have v0d := (G2.drew).cell (i := 1) (j := 0) rfl rfl; have z0d := (G2.drew).free (i := 1) (j := 0) rfl; have u1d := (H2.drew).cell (i := 0) (j := 1) rfl rfl; have y1d := (H2.drew).free (i := 0) (j := 1) rfl; have v1d := (G2.drew).cell (i := 1) (j := 1) rfl rfl; have z1d := (G2.drew).free (i := 1) (j := 1) rfl; have u2d := (H2.drew).cell (i := 0) (j := 2) rfl rfl; have y2d := (H2.drew).free (i := 0) (j := 2) rfl; have v2d := (G2.drew).cell (i := 1) (j := 2) rfl rfl; have z2d := (G2.drew).free (i := 1) (j := 2) rfl; have u3d := (H2.drew).cell (i := 0) (j := 3) rfl rfl; have y3d := (H2.drew).free (i := 0) (j := 3) rfl; have v3d := (G2.drew).cell (i := 1) (j := 3) rfl rfl; have z3d := (G2.drew).free (i := 1) (j := 3) rfl
  have a0n := (H0).cell (i := 1) (j := 2) rfl rfl; have a1n := (H1).cell (i := 2) (j := 2) rfl rfl; have a2n := (H2).cell (i := 3) (j := 2) rfl rfl; have b1n := (G1).cell (i := 2) (j := 2) rfl rfl; have b2n := (G2).cell (i := 3) (j := 2) rfl rfl
  have k1n := (H1).cell (i := 0) (j := j) rfl hkc; have k2n := (H2).cell (i := 1) (j := j) rfl hkc; have k3n := (G2).cell (i := 0) (j := j) rfl hkc
  have u0n := (H2).cell (i := 0) (j := 0) rfl rfl; have y0n := (H2).free (i := 0) (j := 0) rfl; have v0n := (G2).cell (i := 1) (j := 0) rfl rfl; have z0n := (G2).free (i := 1) (j := 0) rfl; have u1n := (H2).cell (i := 0) (j := 1) rfl rfl; have y1n := (H2).free (i := 0) (j := 1) rfl; have v1n := (G2).cell (i := 1) (j := 1) rfl rfl; have z1n := (G2).free (i := 1) (j := 1) rfl; have u2n := (H2).cell (i := 0) (j := 2) rfl rfl; have y2n := (H2).free (i := 0) (j := 2) rfl; have v2n := (G2).cell (i := 1) (j := 2) rfl rfl; have z2n := (G2).free (i := 1) (j := 2) rfl; have u3n := (H2).cell (i := 0) (j := 3) rfl rfl; have y3n := (H2).free (i := 0) (j := 3) rfl; have v3n := (G2).cell (i := 1) (j := 3) rfl rfl; have z3n := (G2).free (i := 1) (j := 3) rfl
  clear H0 H1 G1
  go_region
  · have HA1 := ec_two1 HA [.int .i64 kc, .int .i64 0, .slice A0 l0.length c0, .int .i64 0]; clear HA; clear H2 G2 a0d a1d a2d b1d b2d k1d k2d k3d u0d y0d v0d z0d u1d y1d v1d z1d u2d y2d v2d z2d u3d y3d v3d z3d a0n a1n a2n b1n b2n k1n k2n k3n u0n y0n v0n z0n u1n y1n v1n z1n u2n y2n v2n z2n u3n y3n v3n z3n; generalize World.drew _ = W9 at HA1 ⊢; generalize W_.heap.size + 1 = gc at HA1 ⊢; have HA := HA1; clear HA1
    go_wp2_with (first | (go_at_call 7; refine (ends_Right.calls KR 1 0 A2 c2 B 0 _ _ (own_readsA hown2 HA (fun z hz => by simp [hz])).1 (own_readsA hown2 HA (fun z hz => by simp [hz])).2 HKR.out).mono ?_; rintro e W_ ⟨rfl, hb_⟩; replace HA := HA.call hb_; clear hb_) | ((with_reducible refine gate_dst (N := 47) rfl ?_); refine aw_newv (fun g => .slice (some ⟨g, 0, none⟩) 0 0) 3 [] rfl (fun W => by first | (go_simp; done) | (go_simp; rfl) | kernel_rfl) HA ?_; clear HA; intro g9 W_ HA; simp only [Act.put, List.setIfInBounds_toArray, List.set_cons_succ, List.set_cons_zero]) | ((with_reducible refine gate_dst (N := 50) rfl ?_); refine aw_append_lit0 Tryd.underlying23 ec_info rfl rfl rfl rfl HA (news := B.map (Value.int .i64)) rfl (by simp) (Kd.C_cells (own_readsA hown2 HA (fun z hz => by simp [hz])).1) (ints_one _) hm4 hm5 ?_; clear HA; intro v3_ W_ Lv3_ hown3 HA; obtain ⟨A3, c3, rfl⟩ := own_form hown3; dsimp only [List.cons_append, List.nil_append] at HA; simp only [Act.put, List.setIfInBounds_toArray, List.set_cons_succ, List.set_cons_zero]) | ((with_reducible refine gate_dst (N := 9) rfl ?_); refine aw_alloc rfl rfl ec_zero HA ?_; clear HA; intro gd W_ HA; simp only [Act.put, List.setIfInBounds_toArray, List.set_cons_succ, List.set_cons_zero]) | (go_at_call 6; refine (camletlaw02_knows.calls K true _ (HG.out.mono HA.below) HK.out).mono ?_; rintro e W_ ⟨rfl, hb_⟩; replace HA := HA.call hb_; clear hb_) | (go_at_call_of 11 kc; refine (ends_Agree.calls KA kc 0 A0 c0 l0 0 1 0 A2 c2 B 0 true _ (HA.1.reads HR0.out) HC0.out (own_readsA hown2 HA (fun z hz => by simp [hz])).1 (own_readsA hown2 HA (fun z hz => by simp [hz])).2 HKA.out).mono ?_; rintro e W_ ⟨rfl, hb_⟩; replace HA := HA.call hb_; clear hb_) | ((with_reducible refine gate_ld rfl ?_); (first | refine aw_loadW 0 (t := 25) rfl rfl HA rfl rfl ?_ ?_ | refine aw_loadW 1 (t := 25) rfl rfl HA rfl rfl ?_ ?_ | refine aw_loadW 2 (t := 25) rfl rfl HA rfl rfl ?_ ?_ | refine aw_loadW 3 (t := 25) rfl rfl HA rfl rfl ?_ ?_ | refine aw_loadW 4 (t := 25) rfl rfl HA rfl rfl ?_ ?_ | refine aw_loadW 5 (t := 25) rfl rfl HA rfl rfl ?_ ?_ | refine aw_loadW 6 (t := 25) rfl rfl HA rfl rfl ?_ ?_ | refine aw_load 0 rfl rfl HA rfl rfl rfl ?_ ?_ | refine aw_load 1 rfl rfl HA rfl rfl rfl ?_ ?_ | refine aw_load 2 rfl rfl HA rfl rfl rfl ?_ ?_ | refine aw_load 3 rfl rfl HA rfl rfl rfl ?_ ?_ | refine aw_load 4 rfl rfl HA rfl rfl rfl ?_ ?_ | refine aw_load 5 rfl rfl HA rfl rfl rfl ?_ ?_ | refine aw_load 6 rfl rfl HA rfl rfl rfl ?_ ?_); kernel_rfl; simp only [Act.put, List.setIfInBounds_toArray, List.set_cons_succ, List.set_cons_zero]) | ((with_reducible refine gate_st rfl ?_); (first | refine aw_storeW 0 (t := 25) rfl rfl rfl rfl HA rfl rfl rfl ?_ rfl ?_ | refine aw_storeW 1 (t := 25) rfl rfl rfl rfl HA rfl rfl rfl ?_ rfl ?_ | refine aw_storeW 2 (t := 25) rfl rfl rfl rfl HA rfl rfl rfl ?_ rfl ?_ | refine aw_storeW 3 (t := 25) rfl rfl rfl rfl HA rfl rfl rfl ?_ rfl ?_ | refine aw_storeW 4 (t := 25) rfl rfl rfl rfl HA rfl rfl rfl ?_ rfl ?_ | refine aw_storeW 5 (t := 25) rfl rfl rfl rfl HA rfl rfl rfl ?_ rfl ?_ | refine aw_storeW 6 (t := 25) rfl rfl rfl rfl HA rfl rfl rfl ?_ rfl ?_ | refine aw_store 0 (v := .slice _ _ _) rfl rfl rfl rfl rfl HA rfl rfl rfl ?_ ?_ | refine aw_store 1 (v := .slice _ _ _) rfl rfl rfl rfl rfl HA rfl rfl rfl ?_ ?_ | refine aw_store 2 (v := .slice _ _ _) rfl rfl rfl rfl rfl HA rfl rfl rfl ?_ ?_ | refine aw_store 3 (v := .slice _ _ _) rfl rfl rfl rfl rfl HA rfl rfl rfl ?_ ?_ | refine aw_store 4 (v := .slice _ _ _) rfl rfl rfl rfl rfl HA rfl rfl rfl ?_ ?_ | refine aw_store 5 (v := .slice _ _ _) rfl rfl rfl rfl rfl HA rfl rfl rfl ?_ ?_ | refine aw_store 6 (v := .slice _ _ _) rfl rfl rfl rfl rfl HA rfl rfl rfl ?_ ?_); kernel_rfl; clear HA; intro W_ HA; dsimp only [List.set, List.take, List.cons_append, List.nil_append] at HA))
    go_ret
    exact ⟨rfl, HA.below⟩
  · have HA1 := ec_two2 HA [.int .i64 kc, .int .i64 0, .slice A0 l0.length c0, .int .i64 0]; clear HA; clear H2 G2 a0d a1d a2d b1d b2d k1d k2d k3d u0d y0d v0d z0d u1d y1d v1d z1d u2d y2d v2d z2d u3d y3d v3d z3d a0n a1n a2n b1n b2n k1n k2n k3n u0n y0n v0n z0n u1n y1n v1n z1n u2n y2n v2n z2n u3n y3n v3n z3n; generalize World.drew _ = W9 at HA1 ⊢; generalize W_.heap.size = gc at HA1 ⊢; have HA := HA1; clear HA1
    go_wp2_with (first | (go_at_call 7; refine (ends_Right.calls KR 1 0 A2 c2 B 0 _ _ (own_readsA hown2 HA (fun z hz => by simp [hz])).1 (own_readsA hown2 HA (fun z hz => by simp [hz])).2 HKR.out).mono ?_; rintro e W_ ⟨rfl, hb_⟩; replace HA := HA.call hb_; clear hb_) | ((with_reducible refine gate_dst (N := 47) rfl ?_); refine aw_newv (fun g => .slice (some ⟨g, 0, none⟩) 0 0) 3 [] rfl (fun W => by first | (go_simp; done) | (go_simp; rfl) | kernel_rfl) HA ?_; clear HA; intro g9 W_ HA; simp only [Act.put, List.setIfInBounds_toArray, List.set_cons_succ, List.set_cons_zero]) | ((with_reducible refine gate_dst (N := 50) rfl ?_); refine aw_append_lit0 Tryd.underlying23 ec_info rfl rfl rfl rfl HA (news := B.map (Value.int .i64)) rfl (by simp) (Kd.C_cells (own_readsA hown2 HA (fun z hz => by simp [hz])).1) (ints_one _) hm4 hm5 ?_; clear HA; intro v3_ W_ Lv3_ hown3 HA; obtain ⟨A3, c3, rfl⟩ := own_form hown3; dsimp only [List.cons_append, List.nil_append] at HA; simp only [Act.put, List.setIfInBounds_toArray, List.set_cons_succ, List.set_cons_zero]) | ((with_reducible refine gate_dst (N := 9) rfl ?_); refine aw_alloc rfl rfl ec_zero HA ?_; clear HA; intro gd W_ HA; simp only [Act.put, List.setIfInBounds_toArray, List.set_cons_succ, List.set_cons_zero]) | (go_at_call 6; refine (camletlaw02_knows.calls K true _ (HG.out.mono HA.below) HK.out).mono ?_; rintro e W_ ⟨rfl, hb_⟩; replace HA := HA.call hb_; clear hb_) | (go_at_call_of 11 kc; refine (ends_Agree.calls KA kc 0 A0 c0 l0 0 1 0 A2 c2 B 0 true _ (HA.1.reads HR0.out) HC0.out (own_readsA hown2 HA (fun z hz => by simp [hz])).1 (own_readsA hown2 HA (fun z hz => by simp [hz])).2 HKA.out).mono ?_; rintro e W_ ⟨rfl, hb_⟩; replace HA := HA.call hb_; clear hb_) | ((with_reducible refine gate_ld rfl ?_); (first | refine aw_loadW 0 (t := 25) rfl rfl HA rfl rfl ?_ ?_ | refine aw_loadW 1 (t := 25) rfl rfl HA rfl rfl ?_ ?_ | refine aw_loadW 2 (t := 25) rfl rfl HA rfl rfl ?_ ?_ | refine aw_loadW 3 (t := 25) rfl rfl HA rfl rfl ?_ ?_ | refine aw_loadW 4 (t := 25) rfl rfl HA rfl rfl ?_ ?_ | refine aw_loadW 5 (t := 25) rfl rfl HA rfl rfl ?_ ?_ | refine aw_loadW 6 (t := 25) rfl rfl HA rfl rfl ?_ ?_ | refine aw_load 0 rfl rfl HA rfl rfl rfl ?_ ?_ | refine aw_load 1 rfl rfl HA rfl rfl rfl ?_ ?_ | refine aw_load 2 rfl rfl HA rfl rfl rfl ?_ ?_ | refine aw_load 3 rfl rfl HA rfl rfl rfl ?_ ?_ | refine aw_load 4 rfl rfl HA rfl rfl rfl ?_ ?_ | refine aw_load 5 rfl rfl HA rfl rfl rfl ?_ ?_ | refine aw_load 6 rfl rfl HA rfl rfl rfl ?_ ?_); kernel_rfl; simp only [Act.put, List.setIfInBounds_toArray, List.set_cons_succ, List.set_cons_zero]) | ((with_reducible refine gate_st rfl ?_); (first | refine aw_storeW 0 (t := 25) rfl rfl rfl rfl HA rfl rfl rfl ?_ rfl ?_ | refine aw_storeW 1 (t := 25) rfl rfl rfl rfl HA rfl rfl rfl ?_ rfl ?_ | refine aw_storeW 2 (t := 25) rfl rfl rfl rfl HA rfl rfl rfl ?_ rfl ?_ | refine aw_storeW 3 (t := 25) rfl rfl rfl rfl HA rfl rfl rfl ?_ rfl ?_ | refine aw_storeW 4 (t := 25) rfl rfl rfl rfl HA rfl rfl rfl ?_ rfl ?_ | refine aw_storeW 5 (t := 25) rfl rfl rfl rfl HA rfl rfl rfl ?_ rfl ?_ | refine aw_storeW 6 (t := 25) rfl rfl rfl rfl HA rfl rfl rfl ?_ rfl ?_ | refine aw_store 0 (v := .slice _ _ _) rfl rfl rfl rfl rfl HA rfl rfl rfl ?_ ?_ | refine aw_store 1 (v := .slice _ _ _) rfl rfl rfl rfl rfl HA rfl rfl rfl ?_ ?_ | refine aw_store 2 (v := .slice _ _ _) rfl rfl rfl rfl rfl HA rfl rfl rfl ?_ ?_ | refine aw_store 3 (v := .slice _ _ _) rfl rfl rfl rfl rfl HA rfl rfl rfl ?_ ?_ | refine aw_store 4 (v := .slice _ _ _) rfl rfl rfl rfl rfl HA rfl rfl rfl ?_ ?_ | refine aw_store 5 (v := .slice _ _ _) rfl rfl rfl rfl rfl HA rfl rfl rfl ?_ ?_ | refine aw_store 6 (v := .slice _ _ _) rfl rfl rfl rfl rfl HA rfl rfl rfl ?_ ?_); kernel_rfl; clear HA; intro W_ HA; dsimp only [List.set, List.take, List.cons_append, List.nil_append] at HA))
    go_ret
    exact ⟨rfl, HA.below⟩
set_option maxHeartbeats 8000000 in
set_option maxRecDepth 100000 in
theorem ends_cut_01 (a0_0 a0_1 : Int) (A0 : Option Addr) (c0 : Nat) (l0 : List Int) (h0 : l0 = []) (a0_3 : Int) (A1 : Option Addr) (c1 : Nat) (l1 : List Int) (a2 : Int) (w : World) (hr0 : Kd.C (Kd.int .i64) w A0 l0.length l0) (hc0 : l0.length ≤ c0) (hr1 : Kd.C (Kd.int .i64) w A1 l1.length l1) (hc1 : l1.length ≤ c1) (hG : Laid w) (hs0 : (l0 : List Int).length ≤ 300) (hs1 : l1.length ≤ 300) (kc : Int) (hk : kc = 3 ∨ kc = 5 ∨ kc = 6) (j : Nat) (hj : Int.tmod (IntKind.u64.wrap a2) 3 = (j : Int)) (hj3 : (j : Int) < 3) (hkc : ([.int .i64 3, .int .i64 5, .int .i64 6] : List Value)[j]? = some (.int .i64 kc)) (hR : eRight 1 0 (l0 ++ l1) 0 = true) (hl1 : l1 ≠ []) :
    Calls Tryd.prog 5 #[.agg #[.int .i64 a0_0, .int .i64 a0_1, .slice A0 l0.length c0, .int .i64 a0_3], .slice A1 l1.length c1, .int .i64 a2] w fun e w' => e = .returned (.bool true) ∧ Below w.heap.size w w' := by
  have HA := Aw.start noS w
  have HG := Aside0.mk hG
  have HR0 := Aside0.mk hr0
  have HR1 := Aside0.mk hr1
  have HC0 := Aside0.mk hc0
  have HC1 := Aside0.mk hc1
  have d1 : decide (300 < ((l0).length : Int)) = false := decide_eq_false (by omega)
  have d2 : decide (300 < (l1.length : Int)) = false := decide_eq_false (by omega)
  have d3 : decide (0 < ((l0).length : Int)) = false := by rw [h0]; rfl
  have d4 : ((l1.length : Int) == 0) = false := by rw [beq_eq_false_iff_ne]; intro h; exact hl1 (List.eq_nil_of_length_eq_zero (by omega))
  have d5 : ¬ 0 < (l0).length := by rw [h0]; decide
  have hm0 : (l0).length ≤ maxLen := by unfold maxLen; omega
  have hm1 : (l0).length * 8 ≤ 140737488355328 := by omega
  have hm2 : (l0).length + l1.length ≤ maxLen := by unfold maxLen; omega
  have hm3 : ((l0).length + l1.length) * 8 ≤ 140737488355328 := by omega
  obtain ⟨KA, hKA⟩ := ec_out (agree_ev kc 0 l0 0 1 0 (l0 ++ l1) 0 (by show _ ≤ _; omega) (by show _ ≤ _; rw [List.length_append]; omega))
  rw [ec_agree_cb hk l0 l1 hR] at hKA
  obtain ⟨KE, hKE⟩ := ec_out (agree_ev 1 0 l0 0 1 0 (l0 ++ l1) 0 (by show _ ≤ _; omega) (by show _ ≤ _; rw [List.length_append]; omega))
  rw [ec_agree_eb l0 l1 hl1] at hKE
  skip
  obtain ⟨B, hB⟩ : ∃ B, l0 ++ l1 = B := ⟨_, rfl⟩
  have HB1 : Aside0 ((l0).length + l1.length = B.length) := ⟨by rw [← hB, List.length_append]⟩
  have HB2 : Aside0 ((l0).map (Value.int .i64) ++ l1.map (Value.int .i64) = B.map (Value.int .i64)) := ⟨by rw [← hB, List.map_append]⟩
  skip
  have hm4 : B.length ≤ maxLen := by rw [← HB1.out]; exact hm2
  have hm5 : B.length * 8 ≤ 140737488355328 := by rw [← HB1.out]; exact hm3
  obtain ⟨K, hK⟩ := ec_out knows_ev
  obtain ⟨KR, hKR⟩ := ec_out (right_ev 1 0 (l0 ++ l1) 0 (by show _ ≤ _; rw [List.length_append]; omega))
  rw [hR] at hKR
  rw [hB] at hKR hKA hKE
  have HK := Aside0.mk hK
  have HKR := Aside0.mk hKR
  have HKA := Aside0.mk hKA
  have HKE := Aside0.mk hKE; clear hKE; skip
  clear hG hK hr0 hr1 hc0 hc1 hs0 hs1 hKR hKA hR hl1 hk
  clear hB h0
  go_enter Tryd.func5, Tryd.ntmps5
  go_wp2_with (first | ((with_reducible refine gate_dst (N := 3) rfl ?_); refine aw_box rfl rfl rfl HA ?_; clear HA; intro ga W_ HA; simp only [Act.put, List.setIfInBounds_toArray, List.set_cons_succ, List.set_cons_zero]) | ((with_reducible refine gate_dst (N := 20) rfl ?_); refine aw_newv (fun g => .slice (some ⟨g, 0, none⟩) 0 0) 3 [] rfl (fun W => by first | (go_simp; done) | (go_simp; rfl) | kernel_rfl) HA ?_; clear HA; intro g0 W_ HA; simp only [Act.put, List.setIfInBounds_toArray, List.set_cons_succ, List.set_cons_zero]) | ((with_reducible refine gate_dst (N := 23) rfl ?_); refine aw_append_lit0 Tryd.underlying23 ec_info rfl rfl rfl rfl HA (news := l0.map (Value.int .i64)) rfl (by simp) (Kd.C_cells (HA.1.reads HR0.out)) (ints_one _) hm0 hm1 ?_; clear HA; intro v_ W_ Lv_ hown1 HA; dsimp only [List.cons_append, List.nil_append] at HA; simp only [Act.put, List.setIfInBounds_toArray, List.set_cons_succ, List.set_cons_zero]) | ((with_reducible refine gate_dst (N := 25) rfl ?_); refine aw_append_any 1 rfl Tryd.underlying23 ec_info rfl (Nat.le_refl 1) rfl hown1 rfl rfl HA (news := l1.map (Value.int .i64)) rfl (by simp) (Kd.C_cells (HA.1.reads HR1.out)) (ints_one _) hm2 hm3 ?_; clear HA hown1; intro v_ W_ Lv2_ hown2 HA; dsimp only [List.take, List.cons_append, List.nil_append] at HA; replace hown2 := hown2.cast HB1.out HB2.out; obtain ⟨A2, c2, rfl⟩ := own_form hown2; simp only [Act.put, List.setIfInBounds_toArray, List.set_cons_succ, List.set_cons_zero]) | ((with_reducible refine gate_dst (N := 7) rfl ?_); refine aw_alloc rfl rfl ec_zero HA ?_; clear HA; intro gb W_ HA; simp only [Act.put, List.setIfInBounds_toArray, List.set_cons_succ, List.set_cons_zero]) | ((with_reducible refine gate_ld rfl ?_); (first | refine aw_loadW 0 (t := 25) rfl rfl HA rfl rfl ?_ ?_ | refine aw_loadW 1 (t := 25) rfl rfl HA rfl rfl ?_ ?_ | refine aw_loadW 2 (t := 25) rfl rfl HA rfl rfl ?_ ?_ | refine aw_loadW 3 (t := 25) rfl rfl HA rfl rfl ?_ ?_ | refine aw_loadW 4 (t := 25) rfl rfl HA rfl rfl ?_ ?_ | refine aw_load 0 rfl rfl HA rfl rfl rfl ?_ ?_ | refine aw_load 1 rfl rfl HA rfl rfl rfl ?_ ?_ | refine aw_load 2 rfl rfl HA rfl rfl rfl ?_ ?_ | refine aw_load 3 rfl rfl HA rfl rfl rfl ?_ ?_ | refine aw_load 4 rfl rfl HA rfl rfl rfl ?_ ?_); kernel_rfl; simp only [Act.put, List.setIfInBounds_toArray, List.set_cons_succ, List.set_cons_zero]) | ((with_reducible refine gate_st rfl ?_); (first | refine aw_storeW 0 (t := 25) rfl rfl rfl rfl HA rfl rfl rfl ?_ rfl ?_ | refine aw_storeW 1 (t := 25) rfl rfl rfl rfl HA rfl rfl rfl ?_ rfl ?_ | refine aw_storeW 2 (t := 25) rfl rfl rfl rfl HA rfl rfl rfl ?_ rfl ?_ | refine aw_storeW 3 (t := 25) rfl rfl rfl rfl HA rfl rfl rfl ?_ rfl ?_ | refine aw_storeW 4 (t := 25) rfl rfl rfl rfl HA rfl rfl rfl ?_ rfl ?_); kernel_rfl; clear HA; intro W_ HA; dsimp only [List.set, List.take, List.cons_append, List.nil_append] at HA))
  have H0 := HA
  have H1 := H0.newD 22 [.int .i64 3, .int .i64 5, .int .i64 6]
  have H2 := H1.newD 25 [.int .i64 0, .int .i64 0, .slice none 0 0, .int .i64 0]
  have G1 := H0.newD 25 [.int .i64 0, .int .i64 0, .slice none 0 0, .int .i64 0]
  have G2 := G1.newD 22 [.int .i64 3, .int .i64 5, .int .i64 6]
  have a0d := (H0.drew).cell (i := 1) (j := 2) rfl rfl; have a1d := (H1.drew).cell (i := 2) (j := 2) rfl rfl; have a2d := (H2.drew).cell (i := 3) (j := 2) rfl rfl; have b1d := (G1.drew).cell (i := 2) (j := 2) rfl rfl; have b2d := (G2.drew).cell (i := 3) (j := 2) rfl rfl
  have k1d := (H1.drew).cell (i := 0) (j := j) rfl hkc; have k2d := (H2.drew).cell (i := 1) (j := j) rfl hkc; have k3d := (G2.drew).cell (i := 0) (j := j) rfl hkc
  have u0d := (H2.drew).cell (i := 0) (j := 0) rfl rfl; have y0d := (H2.drew).free (i := 0) (j := 0) rfl; have v0d := (G2.drew).cell (i := 1) (j := 0) rfl rfl; have z0d := (G2.drew).free (i := 1) (j := 0) rfl; have u1d := (H2.drew).cell (i := 0) (j := 1) rfl rfl; have y1d := (H2.drew).free (i := 0) (j := 1) rfl; have v1d := (G2.drew).cell (i := 1) (j := 1) rfl rfl; have z1d := (G2.drew).free (i := 1) (j := 1) rfl; have u2d := (H2.drew).cell (i := 0) (j := 2) rfl rfl; have y2d := (H2.drew).free (i := 0) (j := 2) rfl; have v2d := (G2.drew).cell (i := 1) (j := 2) rfl rfl; have z2d := (G2.drew).free (i := 1) (j := 2) rfl; have u3d := (H2.drew).cell (i := 0) (j := 3) rfl rfl; have y3d := (H2.drew).free (i := 0) (j := 3) rfl; have v3d := (G2.drew).cell (i := 1) (j := 3) rfl rfl; have z3d := (G2.drew).free (i := 1) (j := 3) rfl
  have a0n := (H0).cell (i := 1) (j := 2) rfl rfl; have a1n := (H1).cell (i := 2) (j := 2) rfl rfl; have a2n := (H2).cell (i := 3) (j := 2) rfl rfl; have b1n := (G1).cell (i := 2) (j := 2) rfl rfl; have b2n := (G2).cell (i := 3) (j := 2) rfl rfl
  have k1n := (H1).cell (i := 0) (j := j) rfl hkc; have k2n := (H2).cell (i := 1) (j := j) rfl hkc; have k3n := (G2).cell (i := 0) (j := j) rfl hkc
  have u0n := (H2).cell (i := 0) (j := 0) rfl rfl; have y0n := (H2).free (i := 0) (j := 0) rfl; have v0n := (G2).cell (i := 1) (j := 0) rfl rfl; have z0n := (G2).free (i := 1) (j := 0) rfl; have u1n := (H2).cell (i := 0) (j := 1) rfl rfl; have y1n := (H2).free (i := 0) (j := 1) rfl; have v1n := (G2).cell (i := 1) (j := 1) rfl rfl; have z1n := (G2).free (i := 1) (j := 1) rfl; have u2n := (H2).cell (i := 0) (j := 2) rfl rfl; have y2n := (H2).free (i := 0) (j := 2) rfl; have v2n := (G2).cell (i := 1) (j := 2) rfl rfl; have z2n := (G2).free (i := 1) (j := 2) rfl; have u3n := (H2).cell (i := 0) (j := 3) rfl rfl; have y3n := (H2).free (i := 0) (j := 3) rfl; have v3n := (G2).cell (i := 1) (j := 3) rfl rfl; have z3n := (G2).free (i := 1) (j := 3) rfl
  clear H0 H1 G1
  go_region
  · have HA1 := ec_two1 HA [.int .i64 kc, .int .i64 0, .slice A0 l0.length c0, .int .i64 0]; clear HA; clear H2 G2 a0d a1d a2d b1d b2d k1d k2d k3d u0d y0d v0d z0d u1d y1d v1d z1d u2d y2d v2d z2d u3d y3d v3d z3d a0n a1n a2n b1n b2n k1n k2n k3n u0n y0n v0n z0n u1n y1n v1n z1n u2n y2n v2n z2n u3n y3n v3n z3n; generalize World.drew _ = W9 at HA1 ⊢; generalize W_.heap.size + 1 = gc at HA1 ⊢; have HA := HA1; clear HA1
    go_wp2_with (first | (go_at_call 7; refine (ends_Right.calls KR 1 0 A2 c2 B 0 _ _ (own_readsA hown2 HA (fun z hz => by simp [hz])).1 (own_readsA hown2 HA (fun z hz => by simp [hz])).2 HKR.out).mono ?_; rintro e W_ ⟨rfl, hb_⟩; replace HA := HA.call hb_; clear hb_) | ((with_reducible refine gate_dst (N := 47) rfl ?_); refine aw_newv (fun g => .slice (some ⟨g, 0, none⟩) 0 0) 3 [] rfl (fun W => by first | (go_simp; done) | (go_simp; rfl) | kernel_rfl) HA ?_; clear HA; intro g9 W_ HA; simp only [Act.put, List.setIfInBounds_toArray, List.set_cons_succ, List.set_cons_zero]) | ((with_reducible refine gate_dst (N := 50) rfl ?_); refine aw_append_lit0 Tryd.underlying23 ec_info rfl rfl rfl rfl HA (news := B.map (Value.int .i64)) rfl (by simp) (Kd.C_cells (own_readsA hown2 HA (fun z hz => by simp [hz])).1) (ints_one _) hm4 hm5 ?_; clear HA; intro v3_ W_ Lv3_ hown3 HA; obtain ⟨A3, c3, rfl⟩ := own_form hown3; dsimp only [List.cons_append, List.nil_append] at HA; simp only [Act.put, List.setIfInBounds_toArray, List.set_cons_succ, List.set_cons_zero]) | ((with_reducible refine gate_dst (N := 9) rfl ?_); refine aw_alloc rfl rfl ec_zero HA ?_; clear HA; intro gd W_ HA; simp only [Act.put, List.setIfInBounds_toArray, List.set_cons_succ, List.set_cons_zero]) | (go_at_call 6; refine (camletlaw02_knows.calls K true _ (HG.out.mono HA.below) HK.out).mono ?_; rintro e W_ ⟨rfl, hb_⟩; replace HA := HA.call hb_; clear hb_) | (go_at_call_of 11 kc; refine (ends_Agree.calls KA kc 0 A0 c0 l0 0 1 0 A2 c2 B 0 true _ (HA.1.reads HR0.out) HC0.out (own_readsA hown2 HA (fun z hz => by simp [hz])).1 (own_readsA hown2 HA (fun z hz => by simp [hz])).2 HKA.out).mono ?_; rintro e W_ ⟨rfl, hb_⟩; replace HA := HA.call hb_; clear hb_) | (go_at_call_of 11 A2; refine (ends_Agree.calls KE 1 0 A0 c0 l0 0 1 0 A2 c2 B 0 false _ (HA.1.reads HR0.out) HC0.out (own_readsA hown2 HA (fun z hz => by simp [hz])).1 (own_readsA hown2 HA (fun z hz => by simp [hz])).2 HKE.out).mono ?_; rintro e W_ ⟨rfl, hb_⟩; replace HA := HA.call hb_; clear hb_) | ((with_reducible refine gate_ld rfl ?_); (first | refine aw_loadW 0 (t := 25) rfl rfl HA rfl rfl ?_ ?_ | refine aw_loadW 1 (t := 25) rfl rfl HA rfl rfl ?_ ?_ | refine aw_loadW 2 (t := 25) rfl rfl HA rfl rfl ?_ ?_ | refine aw_loadW 3 (t := 25) rfl rfl HA rfl rfl ?_ ?_ | refine aw_loadW 4 (t := 25) rfl rfl HA rfl rfl ?_ ?_ | refine aw_loadW 5 (t := 25) rfl rfl HA rfl rfl ?_ ?_ | refine aw_loadW 6 (t := 25) rfl rfl HA rfl rfl ?_ ?_ | refine aw_load 0 rfl rfl HA rfl rfl rfl ?_ ?_ | refine aw_load 1 rfl rfl HA rfl rfl rfl ?_ ?_ | refine aw_load 2 rfl rfl HA rfl rfl rfl ?_ ?_ | refine aw_load 3 rfl rfl HA rfl rfl rfl ?_ ?_ | refine aw_load 4 rfl rfl HA rfl rfl rfl ?_ ?_ | refine aw_load 5 rfl rfl HA rfl rfl rfl ?_ ?_ | refine aw_load 6 rfl rfl HA rfl rfl rfl ?_ ?_); kernel_rfl; simp only [Act.put, List.setIfInBounds_toArray, List.set_cons_succ, List.set_cons_zero]) | ((with_reducible refine gate_st rfl ?_); (first | refine aw_storeW 0 (t := 25) rfl rfl rfl rfl HA rfl rfl rfl ?_ rfl ?_ | refine aw_storeW 1 (t := 25) rfl rfl rfl rfl HA rfl rfl rfl ?_ rfl ?_ | refine aw_storeW 2 (t := 25) rfl rfl rfl rfl HA rfl rfl rfl ?_ rfl ?_ | refine aw_storeW 3 (t := 25) rfl rfl rfl rfl HA rfl rfl rfl ?_ rfl ?_ | refine aw_storeW 4 (t := 25) rfl rfl rfl rfl HA rfl rfl rfl ?_ rfl ?_ | refine aw_storeW 5 (t := 25) rfl rfl rfl rfl HA rfl rfl rfl ?_ rfl ?_ | refine aw_storeW 6 (t := 25) rfl rfl rfl rfl HA rfl rfl rfl ?_ rfl ?_ | refine aw_store 0 (v := .slice _ _ _) rfl rfl rfl rfl rfl HA rfl rfl rfl ?_ ?_ | refine aw_store 1 (v := .slice _ _ _) rfl rfl rfl rfl rfl HA rfl rfl rfl ?_ ?_ | refine aw_store 2 (v := .slice _ _ _) rfl rfl rfl rfl rfl HA rfl rfl rfl ?_ ?_ | refine aw_store 3 (v := .slice _ _ _) rfl rfl rfl rfl rfl HA rfl rfl rfl ?_ ?_ | refine aw_store 4 (v := .slice _ _ _) rfl rfl rfl rfl rfl HA rfl rfl rfl ?_ ?_ | refine aw_store 5 (v := .slice _ _ _) rfl rfl rfl rfl rfl HA rfl rfl rfl ?_ ?_ | refine aw_store 6 (v := .slice _ _ _) rfl rfl rfl rfl rfl HA rfl rfl rfl ?_ ?_); kernel_rfl; clear HA; intro W_ HA; dsimp only [List.set, List.take, List.cons_append, List.nil_append] at HA))
    go_ret
    exact ⟨rfl, HA.below⟩
  · have HA1 := ec_two2 HA [.int .i64 kc, .int .i64 0, .slice A0 l0.length c0, .int .i64 0]; clear HA; clear H2 G2 a0d a1d a2d b1d b2d k1d k2d k3d u0d y0d v0d z0d u1d y1d v1d z1d u2d y2d v2d z2d u3d y3d v3d z3d a0n a1n a2n b1n b2n k1n k2n k3n u0n y0n v0n z0n u1n y1n v1n z1n u2n y2n v2n z2n u3n y3n v3n z3n; generalize World.drew _ = W9 at HA1 ⊢; generalize W_.heap.size = gc at HA1 ⊢; have HA := HA1; clear HA1
    go_wp2_with (first | (go_at_call 7; refine (ends_Right.calls KR 1 0 A2 c2 B 0 _ _ (own_readsA hown2 HA (fun z hz => by simp [hz])).1 (own_readsA hown2 HA (fun z hz => by simp [hz])).2 HKR.out).mono ?_; rintro e W_ ⟨rfl, hb_⟩; replace HA := HA.call hb_; clear hb_) | ((with_reducible refine gate_dst (N := 47) rfl ?_); refine aw_newv (fun g => .slice (some ⟨g, 0, none⟩) 0 0) 3 [] rfl (fun W => by first | (go_simp; done) | (go_simp; rfl) | kernel_rfl) HA ?_; clear HA; intro g9 W_ HA; simp only [Act.put, List.setIfInBounds_toArray, List.set_cons_succ, List.set_cons_zero]) | ((with_reducible refine gate_dst (N := 50) rfl ?_); refine aw_append_lit0 Tryd.underlying23 ec_info rfl rfl rfl rfl HA (news := B.map (Value.int .i64)) rfl (by simp) (Kd.C_cells (own_readsA hown2 HA (fun z hz => by simp [hz])).1) (ints_one _) hm4 hm5 ?_; clear HA; intro v3_ W_ Lv3_ hown3 HA; obtain ⟨A3, c3, rfl⟩ := own_form hown3; dsimp only [List.cons_append, List.nil_append] at HA; simp only [Act.put, List.setIfInBounds_toArray, List.set_cons_succ, List.set_cons_zero]) | ((with_reducible refine gate_dst (N := 9) rfl ?_); refine aw_alloc rfl rfl ec_zero HA ?_; clear HA; intro gd W_ HA; simp only [Act.put, List.setIfInBounds_toArray, List.set_cons_succ, List.set_cons_zero]) | (go_at_call 6; refine (camletlaw02_knows.calls K true _ (HG.out.mono HA.below) HK.out).mono ?_; rintro e W_ ⟨rfl, hb_⟩; replace HA := HA.call hb_; clear hb_) | (go_at_call_of 11 kc; refine (ends_Agree.calls KA kc 0 A0 c0 l0 0 1 0 A2 c2 B 0 true _ (HA.1.reads HR0.out) HC0.out (own_readsA hown2 HA (fun z hz => by simp [hz])).1 (own_readsA hown2 HA (fun z hz => by simp [hz])).2 HKA.out).mono ?_; rintro e W_ ⟨rfl, hb_⟩; replace HA := HA.call hb_; clear hb_) | (go_at_call_of 11 A2; refine (ends_Agree.calls KE 1 0 A0 c0 l0 0 1 0 A2 c2 B 0 false _ (HA.1.reads HR0.out) HC0.out (own_readsA hown2 HA (fun z hz => by simp [hz])).1 (own_readsA hown2 HA (fun z hz => by simp [hz])).2 HKE.out).mono ?_; rintro e W_ ⟨rfl, hb_⟩; replace HA := HA.call hb_; clear hb_) | ((with_reducible refine gate_ld rfl ?_); (first | refine aw_loadW 0 (t := 25) rfl rfl HA rfl rfl ?_ ?_ | refine aw_loadW 1 (t := 25) rfl rfl HA rfl rfl ?_ ?_ | refine aw_loadW 2 (t := 25) rfl rfl HA rfl rfl ?_ ?_ | refine aw_loadW 3 (t := 25) rfl rfl HA rfl rfl ?_ ?_ | refine aw_loadW 4 (t := 25) rfl rfl HA rfl rfl ?_ ?_ | refine aw_loadW 5 (t := 25) rfl rfl HA rfl rfl ?_ ?_ | refine aw_loadW 6 (t := 25) rfl rfl HA rfl rfl ?_ ?_ | refine aw_load 0 rfl rfl HA rfl rfl rfl ?_ ?_ | refine aw_load 1 rfl rfl HA rfl rfl rfl ?_ ?_ | refine aw_load 2 rfl rfl HA rfl rfl rfl ?_ ?_ | refine aw_load 3 rfl rfl HA rfl rfl rfl ?_ ?_ | refine aw_load 4 rfl rfl HA rfl rfl rfl ?_ ?_ | refine aw_load 5 rfl rfl HA rfl rfl rfl ?_ ?_ | refine aw_load 6 rfl rfl HA rfl rfl rfl ?_ ?_); kernel_rfl; simp only [Act.put, List.setIfInBounds_toArray, List.set_cons_succ, List.set_cons_zero]) | ((with_reducible refine gate_st rfl ?_); (first | refine aw_storeW 0 (t := 25) rfl rfl rfl rfl HA rfl rfl rfl ?_ rfl ?_ | refine aw_storeW 1 (t := 25) rfl rfl rfl rfl HA rfl rfl rfl ?_ rfl ?_ | refine aw_storeW 2 (t := 25) rfl rfl rfl rfl HA rfl rfl rfl ?_ rfl ?_ | refine aw_storeW 3 (t := 25) rfl rfl rfl rfl HA rfl rfl rfl ?_ rfl ?_ | refine aw_storeW 4 (t := 25) rfl rfl rfl rfl HA rfl rfl rfl ?_ rfl ?_ | refine aw_storeW 5 (t := 25) rfl rfl rfl rfl HA rfl rfl rfl ?_ rfl ?_ | refine aw_storeW 6 (t := 25) rfl rfl rfl rfl HA rfl rfl rfl ?_ rfl ?_ | refine aw_store 0 (v := .slice _ _ _) rfl rfl rfl rfl rfl HA rfl rfl rfl ?_ ?_ | refine aw_store 1 (v := .slice _ _ _) rfl rfl rfl rfl rfl HA rfl rfl rfl ?_ ?_ | refine aw_store 2 (v := .slice _ _ _) rfl rfl rfl rfl rfl HA rfl rfl rfl ?_ ?_ | refine aw_store 3 (v := .slice _ _ _) rfl rfl rfl rfl rfl HA rfl rfl rfl ?_ ?_ | refine aw_store 4 (v := .slice _ _ _) rfl rfl rfl rfl rfl HA rfl rfl rfl ?_ ?_ | refine aw_store 5 (v := .slice _ _ _) rfl rfl rfl rfl rfl HA rfl rfl rfl ?_ ?_ | refine aw_store 6 (v := .slice _ _ _) rfl rfl rfl rfl rfl HA rfl rfl rfl ?_ ?_); kernel_rfl; clear HA; intro W_ HA; dsimp only [List.set, List.take, List.cons_append, List.nil_append] at HA))
    go_ret
    exact ⟨rfl, HA.below⟩
set_option maxHeartbeats 8000000 in
set_option maxRecDepth 100000 in
theorem ends_cut_10 (a0_0 a0_1 : Int) (A0 : Option Addr) (c0 : Nat) (l0 : List Int) (x : Int) (t : List Int) (h0 : l0 = x :: t) (a0_3 : Int) (A1 : Option Addr) (c1 : Nat) (l1 : List Int) (a2 : Int) (w : World) (hr0 : Kd.C (Kd.int .i64) w A0 l0.length l0) (hc0 : l0.length ≤ c0) (hr1 : Kd.C (Kd.int .i64) w A1 l1.length l1) (hc1 : l1.length ≤ c1) (hG : Laid w) (hs0 : (l0 : List Int).length ≤ 300) (hs1 : l1.length ≤ 300) (kc : Int) (hk : kc = 3 ∨ kc = 5 ∨ kc = 6) (j : Nat) (hj : Int.tmod (IntKind.u64.wrap a2) 3 = (j : Int)) (hj3 : (j : Int) < 3) (hkc : ([.int .i64 3, .int .i64 5, .int .i64 6] : List Value)[j]? = some (.int .i64 kc)) (hR : eRight 1 0 (l0 ++ l1) 0 = true) (hl1 : l1 = []) :
    Calls Tryd.prog 5 #[.agg #[.int .i64 a0_0, .int .i64 a0_1, .slice A0 l0.length c0, .int .i64 a0_3], .slice A1 l1.length c1, .int .i64 a2] w fun e w' => e = .returned (.bool true) ∧ Below w.heap.size w w' := by
  have HA := Aw.start noS w
  have HG := Aside0.mk hG
  have HR0 := Aside0.mk hr0
  have HR1 := Aside0.mk hr1
  have HC0 := Aside0.mk hc0
  have HC1 := Aside0.mk hc1
  have d1 : decide (300 < ((l0).length : Int)) = false := decide_eq_false (by omega)
  have d2 : decide (300 < (l1.length : Int)) = false := decide_eq_false (by omega)
  have d3 : decide (0 < ((l0).length : Int)) = true := decide_eq_true (by rw [h0, List.length_cons]; omega)
  have d4 : ((l1.length : Int) == 0) = true := by rw [hl1]; rfl
  have d5 : 0 < (l0).length := by rw [h0, List.length_cons]; omega
  have hm0 : (l0).length ≤ maxLen := by unfold maxLen; omega
  have hm1 : (l0).length * 8 ≤ 140737488355328 := by omega
  have hm2 : (l0).length + l1.length ≤ maxLen := by unfold maxLen; omega
  have hm3 : ((l0).length + l1.length) * 8 ≤ 140737488355328 := by omega
  obtain ⟨KA, hKA⟩ := ec_out (agree_ev kc 0 l0 0 1 0 (l0 ++ l1) 0 (by show _ ≤ _; omega) (by show _ ≤ _; rw [List.length_append]; omega))
  rw [ec_agree_cb hk l0 l1 hR] at hKA
  skip
  have hx := ec_turn ((of_decide_eq_true hR).2.2.2.2.2 x (by rw [h0]; simp))
  have s1 : IntKind.i64.wrap (x + 1) = x + 1 := IntWalk.i64_in _ (by omega)
  obtain ⟨y, hy⟩ : ∃ y, Int.tmod (x + 1) 1073741824 = y := ⟨_, rfl⟩
  rw [hy] at hx
  obtain ⟨KD, hKD⟩ := ec_out (agree_ev kc 0 (x :: t) 0 1 0 (y :: (t ++ l1)) 0 (by rw [← h0]; show _ ≤ _; omega) (by show _ ≤ _; have h0l := congrArg List.length h0; rw [List.length_cons] at h0l; rw [List.length_cons, List.length_append]; omega))
  rw [ec_agree_cd hk x y t (t ++ l1) hx.1, ← h0] at hKD
  obtain ⟨B, hB⟩ : ∃ B, l0 ++ l1 = B := ⟨_, rfl⟩
  have HB1 : Aside0 ((l0).length + l1.length = B.length) := ⟨by rw [← hB, List.length_append]⟩
  have HB2 : Aside0 ((l0).map (Value.int .i64) ++ l1.map (Value.int .i64) = B.map (Value.int .i64)) := ⟨by rw [← hB, List.map_append]⟩
  have hBp : 0 < B.length := by rw [← HB1.out, h0, List.length_cons]; omega
  have HX0 : Aside0 ((B.map (Value.int .i64))[0]? = some (.int .i64 x)) := ⟨by rw [← hB, h0]; rfl⟩
  obtain ⟨D, hD⟩ : ∃ D, y :: (t ++ l1) = D := ⟨_, rfl⟩
  have HD1 : Aside0 (B.length = D.length) := ⟨by rw [← hB, ← hD, h0]; simp⟩
  have HD2 : Aside0 ((B.map (Value.int .i64)).set 0 (.int .i64 y) = D.map (Value.int .i64)) := ⟨by rw [← hB, ← hD, h0]; rfl⟩
  rw [hD] at hKD
  have i1 : decide ((0 : Int) < (B.length : Int)) = true := decide_eq_true (by omega)
  have hm4 : B.length ≤ maxLen := by rw [← HB1.out]; exact hm2
  have hm5 : B.length * 8 ≤ 140737488355328 := by rw [← HB1.out]; exact hm3
  obtain ⟨K, hK⟩ := ec_out knows_ev
  obtain ⟨KR, hKR⟩ := ec_out (right_ev 1 0 (l0 ++ l1) 0 (by show _ ≤ _; rw [List.length_append]; omega))
  rw [hR] at hKR
  rw [hB] at hKR hKA
  have HK := Aside0.mk hK
  have HKR := Aside0.mk hKR
  have HKA := Aside0.mk hKA
  have hcd := fun (W : World) (g cap : Nat) h1 h2 h3 h4 => ends_Agree.calls KD kc 0 A0 c0 l0 0 1 0 (some ⟨g, 0, none⟩) cap D 0 false W h1 h2 h3 h4 hKD
  rw [← HD1.out] at hcd
  have HCD := Aside0.mk hcd; clear hcd hKD
  clear hG hK hr0 hr1 hc0 hc1 hs0 hs1 hKR hKA hR hl1 hk
  clear hB hD hx h0
  go_enter Tryd.func5, Tryd.ntmps5
  go_wp2_with (first | ((with_reducible refine gate_dst (N := 3) rfl ?_); refine aw_box rfl rfl rfl HA ?_; clear HA; intro ga W_ HA; simp only [Act.put, List.setIfInBounds_toArray, List.set_cons_succ, List.set_cons_zero]) | ((with_reducible refine gate_dst (N := 20) rfl ?_); refine aw_newv (fun g => .slice (some ⟨g, 0, none⟩) 0 0) 3 [] rfl (fun W => by first | (go_simp; done) | (go_simp; rfl) | kernel_rfl) HA ?_; clear HA; intro g0 W_ HA; simp only [Act.put, List.setIfInBounds_toArray, List.set_cons_succ, List.set_cons_zero]) | ((with_reducible refine gate_dst (N := 23) rfl ?_); refine aw_append_lit0 Tryd.underlying23 ec_info rfl rfl rfl rfl HA (news := l0.map (Value.int .i64)) rfl (by simp) (Kd.C_cells (HA.1.reads HR0.out)) (ints_one _) hm0 hm1 ?_; clear HA; intro v_ W_ Lv_ hown1 HA; dsimp only [List.cons_append, List.nil_append] at HA; simp only [Act.put, List.setIfInBounds_toArray, List.set_cons_succ, List.set_cons_zero]) | ((with_reducible refine gate_dst (N := 25) rfl ?_); refine aw_append_any 1 rfl Tryd.underlying23 ec_info rfl (Nat.le_refl 1) rfl hown1 rfl rfl HA (news := l1.map (Value.int .i64)) rfl (by simp) (Kd.C_cells (HA.1.reads HR1.out)) (ints_one _) hm2 hm3 ?_; clear HA hown1; intro v_ W_ Lv2_ hown2 HA; replace hown2 := hown2.cast HB1.out HB2.out; obtain ⟨g2, c2, rfl, rfl⟩ := own_some hown2 hBp; dsimp only [List.take, List.cons_append, List.nil_append] at HA; simp only [Act.put, List.setIfInBounds_toArray, List.set_cons_succ, List.set_cons_zero]) | ((with_reducible refine gate_dst (N := 7) rfl ?_); refine aw_alloc rfl rfl ec_zero HA ?_; clear HA; intro gb W_ HA; simp only [Act.put, List.setIfInBounds_toArray, List.set_cons_succ, List.set_cons_zero]) | ((with_reducible refine gate_ld rfl ?_); (first | refine aw_loadW 0 (t := 25) rfl rfl HA rfl rfl ?_ ?_ | refine aw_loadW 1 (t := 25) rfl rfl HA rfl rfl ?_ ?_ | refine aw_loadW 2 (t := 25) rfl rfl HA rfl rfl ?_ ?_ | refine aw_loadW 3 (t := 25) rfl rfl HA rfl rfl ?_ ?_ | refine aw_loadW 4 (t := 25) rfl rfl HA rfl rfl ?_ ?_ | refine aw_load 0 rfl rfl HA rfl rfl rfl ?_ ?_ | refine aw_load 1 rfl rfl HA rfl rfl rfl ?_ ?_ | refine aw_load 2 rfl rfl HA rfl rfl rfl ?_ ?_ | refine aw_load 3 rfl rfl HA rfl rfl rfl ?_ ?_ | refine aw_load 4 rfl rfl HA rfl rfl rfl ?_ ?_); kernel_rfl; simp only [Act.put, List.setIfInBounds_toArray, List.set_cons_succ, List.set_cons_zero]) | ((with_reducible refine gate_st rfl ?_); (first | refine aw_storeW 0 (t := 25) rfl rfl rfl rfl HA rfl rfl rfl ?_ rfl ?_ | refine aw_storeW 1 (t := 25) rfl rfl rfl rfl HA rfl rfl rfl ?_ rfl ?_ | refine aw_storeW 2 (t := 25) rfl rfl rfl rfl HA rfl rfl rfl ?_ rfl ?_ | refine aw_storeW 3 (t := 25) rfl rfl rfl rfl HA rfl rfl rfl ?_ rfl ?_ | refine aw_storeW 4 (t := 25) rfl rfl rfl rfl HA rfl rfl rfl ?_ rfl ?_); kernel_rfl; clear HA; intro W_ HA; dsimp only [List.set, List.take, List.cons_append, List.nil_append] at HA))
  have H0 := HA
  have H1 := H0.newD 22 [.int .i64 3, .int .i64 5, .int .i64 6]
  have H2 := H1.newD 25 [.int .i64 0, .int .i64 0, .slice none 0 0, .int .i64 0]
  have G1 := H0.newD 25 [.int .i64 0, .int .i64 0, .slice none 0 0, .int .i64 0]
  have G2 := G1.newD 22 [.int .i64 3, .int .i64 5, .int .i64 6]
  have a0d := (H0.drew).cell (i := 1) (j := 2) rfl rfl; have a1d := (H1.drew).cell (i := 2) (j := 2) rfl rfl; have a2d := (H2.drew).cell (i := 3) (j := 2) rfl rfl; have b1d := (G1.drew).cell (i := 2) (j := 2) rfl rfl; have b2d := (G2.drew).cell (i := 3) (j := 2) rfl rfl
  have k1d := (H1.drew).cell (i := 0) (j := j) rfl hkc; have k2d := (H2.drew).cell (i := 1) (j := j) rfl hkc; have k3d := (G2.drew).cell (i := 0) (j := j) rfl hkc
  have u0d := (H2.drew).cell (i := 0) (j := 0) rfl rfl; have y0d := (H2.drew).free (i := 0) (j := 0) rfl; have v0d := (G2.drew).cell (i := 1) (j := 0) rfl rfl; have z0d := (G2.drew).free (i := 1) (j := 0) rfl; have u1d := (H2.drew).cell (i := 0) (j := 1) rfl rfl; have y1d := (H2.drew).free (i := 0) (j := 1) rfl; have v1d := (G2.drew).cell (i := 1) (j := 1) rfl rfl; have z1d := (G2.drew).free (i := 1) (j := 1) rfl; have u2d := (H2.drew).cell (i := 0) (j := 2) rfl rfl; have y2d := (H2.drew).free (i := 0) (j := 2) rfl; have v2d := (G2.drew).cell (i := 1) (j := 2) rfl rfl; have z2d := (G2.drew).free (i := 1) (j := 2) rfl; have u3d := (H2.drew).cell (i := 0) (j := 3) rfl rfl; have y3d := (H2.drew).free (i := 0) (j := 3) rfl; have v3d := (G2.drew).cell (i := 1) (j := 3) rfl rfl; have z3d := (G2.drew).free (i := 1) (j := 3) rfl
  have a0n := (H0).cell (i := 1) (j := 2) rfl rfl; have a1n := (H1).cell (i := 2) (j := 2) rfl rfl; have a2n := (H2).cell (i := 3) (j := 2) rfl rfl; have b1n := (G1).cell (i := 2) (j := 2) rfl rfl; have b2n := (G2).cell (i := 3) (j := 2) rfl rfl
  have k1n := (H1).cell (i := 0) (j := j) rfl hkc; have k2n := (H2).cell (i := 1) (j := j) rfl hkc; have k3n := (G2).cell (i := 0) (j := j) rfl hkc
  have u0n := (H2).cell (i := 0) (j := 0) rfl rfl; have y0n := (H2).free (i := 0) (j := 0) rfl; have v0n := (G2).cell (i := 1) (j := 0) rfl rfl; have z0n := (G2).free (i := 1) (j := 0) rfl; have u1n := (H2).cell (i := 0) (j := 1) rfl rfl; have y1n := (H2).free (i := 0) (j := 1) rfl; have v1n := (G2).cell (i := 1) (j := 1) rfl rfl; have z1n := (G2).free (i := 1) (j := 1) rfl; have u2n := (H2).cell (i := 0) (j := 2) rfl rfl; have y2n := (H2).free (i := 0) (j := 2) rfl; have v2n := (G2).cell (i := 1) (j := 2) rfl rfl; have z2n := (G2).free (i := 1) (j := 2) rfl; have u3n := (H2).cell (i := 0) (j := 3) rfl rfl; have y3n := (H2).free (i := 0) (j := 3) rfl; have v3n := (G2).cell (i := 1) (j := 3) rfl rfl; have z3n := (G2).free (i := 1) (j := 3) rfl
  clear H0 H1 G1
  go_region
  · have HA1 := ec_two1 HA [.int .i64 kc, .int .i64 0, .slice A0 l0.length c0, .int .i64 0]; clear HA; clear H2 G2 a0d a1d a2d b1d b2d k1d k2d k3d u0d y0d v0d z0d u1d y1d v1d z1d u2d y2d v2d z2d u3d y3d v3d z3d a0n a1n a2n b1n b2n k1n k2n k3n u0n y0n v0n z0n u1n y1n v1n z1n u2n y2n v2n z2n u3n y3n v3n z3n; generalize World.drew _ = W9 at HA1 ⊢; generalize W_.heap.size + 1 = gc at HA1 ⊢; have HA := HA1; clear HA1
    go_wp2_with (first | (go_at_call 7; refine (ends_Right.calls KR 1 0 (some ⟨g2, 0, none⟩) c2 B 0 _ _ (own_readsA hown2 HA (by simp)).1 (own_readsA hown2 HA (by simp)).2 HKR.out).mono ?_; rintro e W_ ⟨rfl, hb_⟩; replace HA := HA.call hb_; clear hb_) | ((with_reducible refine gate_dst (N := 47) rfl ?_); refine aw_newv (fun g => .slice (some ⟨g, 0, none⟩) 0 0) 3 [] rfl (fun W => by first | (go_simp; done) | (go_simp; rfl) | kernel_rfl) HA ?_; clear HA; intro g9 W_ HA; simp only [Act.put, List.setIfInBounds_toArray, List.set_cons_succ, List.set_cons_zero]) | ((with_reducible refine gate_dst (N := 50) rfl ?_); refine aw_append_lit0 Tryd.underlying23 ec_info rfl rfl rfl rfl HA (news := B.map (Value.int .i64)) rfl (by simp) (Kd.C_cells (own_readsA hown2 HA (by simp)).1) (ints_one _) hm4 hm5 ?_; clear HA; intro v3_ W_ Lv3_ hown3 HA; obtain ⟨g3, cap3, rfl, rfl⟩ := own_some hown3 hBp; dsimp only [List.cons_append, List.nil_append] at HA; simp only [Act.put, List.setIfInBounds_toArray, List.set_cons_succ, List.set_cons_zero]) | ((with_reducible refine gate_dst (N := 9) rfl ?_); refine aw_alloc rfl rfl ec_zero HA ?_; clear HA; intro gd W_ HA; simp only [Act.put, List.setIfInBounds_toArray, List.set_cons_succ, List.set_cons_zero]) | ((with_reducible refine gate_ld rfl ?_); (first | refine aw_loadW 0 (t := 25) rfl rfl HA rfl rfl ?_ ?_ | refine aw_loadW 1 (t := 25) rfl rfl HA rfl rfl ?_ ?_ | refine aw_loadW 2 (t := 25) rfl rfl HA rfl rfl ?_ ?_ | refine aw_loadW 3 (t := 25) rfl rfl HA rfl rfl ?_ ?_ | refine aw_loadW 4 (t := 25) rfl rfl HA rfl rfl ?_ ?_ | refine aw_loadW 5 (t := 25) rfl rfl HA rfl rfl ?_ ?_ | refine aw_loadW 6 (t := 25) rfl rfl HA rfl rfl ?_ ?_ | refine aw_load 0 rfl rfl HA rfl rfl rfl ?_ ?_ | refine aw_load 1 rfl rfl HA rfl rfl rfl ?_ ?_ | refine aw_load 2 rfl rfl HA rfl rfl rfl ?_ ?_ | refine aw_load 3 rfl rfl HA rfl rfl rfl ?_ ?_ | refine aw_load 4 rfl rfl HA rfl rfl rfl ?_ ?_ | refine aw_load 5 rfl rfl HA rfl rfl rfl ?_ ?_ | refine aw_load 6 rfl rfl HA rfl rfl rfl ?_ ?_); kernel_rfl; simp only [Act.put, List.setIfInBounds_toArray, List.set_cons_succ, List.set_cons_zero]) | ((with_reducible refine gate_st rfl ?_); (first | refine aw_storeW 0 (t := 25) rfl rfl rfl rfl HA rfl rfl rfl ?_ rfl ?_ | refine aw_storeW 1 (t := 25) rfl rfl rfl rfl HA rfl rfl rfl ?_ rfl ?_ | refine aw_storeW 2 (t := 25) rfl rfl rfl rfl HA rfl rfl rfl ?_ rfl ?_ | refine aw_storeW 3 (t := 25) rfl rfl rfl rfl HA rfl rfl rfl ?_ rfl ?_ | refine aw_storeW 4 (t := 25) rfl rfl rfl rfl HA rfl rfl rfl ?_ rfl ?_ | refine aw_storeW 5 (t := 25) rfl rfl rfl rfl HA rfl rfl rfl ?_ rfl ?_ | refine aw_storeW 6 (t := 25) rfl rfl rfl rfl HA rfl rfl rfl ?_ rfl ?_ | refine aw_store 0 (v := .slice _ _ _) rfl rfl rfl rfl rfl HA rfl rfl rfl ?_ ?_ | refine aw_store 1 (v := .slice _ _ _) rfl rfl rfl rfl rfl HA rfl rfl rfl ?_ ?_ | refine aw_store 2 (v := .slice _ _ _) rfl rfl rfl rfl rfl HA rfl rfl rfl ?_ ?_ | refine aw_store 3 (v := .slice _ _ _) rfl rfl rfl rfl rfl HA rfl rfl rfl ?_ ?_ | refine aw_store 4 (v := .slice _ _ _) rfl rfl rfl rfl rfl HA rfl rfl rfl ?_ ?_ | refine aw_store 5 (v := .slice _ _ _) rfl rfl rfl rfl rfl HA rfl rfl rfl ?_ ?_ | refine aw_store 6 (v := .slice _ _ _) rfl rfl rfl rfl rfl HA rfl rfl rfl ?_ ?_); kernel_rfl; clear HA; intro W_ HA; dsimp only [List.set, List.take, List.cons_append, List.nil_append] at HA))
    have q1 := HA.cell (i := 0) (j := 2) rfl rfl; have q2 := HA.rcell (i := 5) (j := 0) rfl HX0.out; have q3 := HA.freeR (i := 5) (j := 0) rfl
    have p1 := HA.drew.cell (i := 0) (j := 2) rfl rfl; have p2 := HA.drew.rcell (i := 5) (j := 0) rfl HX0.out; have p3 := HA.drew.freeR (i := 5) (j := 0) rfl
    go_region
    clear q1 q2 q3 p1 p2 p3
    replace HA := (HA.setR (i := 5) (j := 0) (.int .i64 y) rfl).drew
    replace hown3 := hown3.setR0 HD1.out HD2.out
    rw [HD2.out] at HA
    generalize World.drew _ = W9 at HA ⊢
    go_wp2_with (first | (go_at_call_of 11 g3; refine (HCD.out _ g3 cap3 (HA.1.reads HR0.out) HC0.out (by rw [HD1.out]; exact (own_readsA hown3 HA (by simp)).1) (by rw [HD1.out]; exact (own_readsA hown3 HA (by simp)).2)).mono ?_; rintro e W_ ⟨rfl, hb_⟩; replace HA := HA.call hb_; clear hb_) | (go_at_call_of 11 kc; refine (ends_Agree.calls KA kc 0 A0 c0 l0 0 1 0 (some ⟨g2, 0, none⟩) c2 B 0 true _ (HA.1.reads HR0.out) HC0.out (own_readsA hown2 HA (by simp)).1 (own_readsA hown2 HA (by simp)).2 HKA.out).mono ?_; rintro e W_ ⟨rfl, hb_⟩; replace HA := HA.call hb_; clear hb_) | (go_at_call 6; refine (camletlaw02_knows.calls K true _ (HG.out.mono HA.below) HK.out).mono ?_; rintro e W_ ⟨rfl, hb_⟩; replace HA := HA.call hb_; clear hb_) | ((with_reducible refine gate_ld rfl ?_); (first | refine aw_loadW 0 (t := 25) rfl rfl HA rfl rfl ?_ ?_ | refine aw_loadW 1 (t := 25) rfl rfl HA rfl rfl ?_ ?_ | refine aw_loadW 2 (t := 25) rfl rfl HA rfl rfl ?_ ?_ | refine aw_loadW 3 (t := 25) rfl rfl HA rfl rfl ?_ ?_ | refine aw_loadW 4 (t := 25) rfl rfl HA rfl rfl ?_ ?_ | refine aw_loadW 5 (t := 25) rfl rfl HA rfl rfl ?_ ?_ | refine aw_loadW 6 (t := 25) rfl rfl HA rfl rfl ?_ ?_ | refine aw_load 0 rfl rfl HA rfl rfl rfl ?_ ?_ | refine aw_load 1 rfl rfl HA rfl rfl rfl ?_ ?_ | refine aw_load 2 rfl rfl HA rfl rfl rfl ?_ ?_ | refine aw_load 3 rfl rfl HA rfl rfl rfl ?_ ?_ | refine aw_load 4 rfl rfl HA rfl rfl rfl ?_ ?_ | refine aw_load 5 rfl rfl HA rfl rfl rfl ?_ ?_ | refine aw_load 6 rfl rfl HA rfl rfl rfl ?_ ?_); kernel_rfl; simp only [Act.put, List.setIfInBounds_toArray, List.set_cons_succ, List.set_cons_zero]))
    go_ret
    exact ⟨rfl, HA.below⟩
  · have HA1 := ec_two2 HA [.int .i64 kc, .int .i64 0, .slice A0 l0.length c0, .int .i64 0]; clear HA; clear H2 G2 a0d a1d a2d b1d b2d k1d k2d k3d u0d y0d v0d z0d u1d y1d v1d z1d u2d y2d v2d z2d u3d y3d v3d z3d a0n a1n a2n b1n b2n k1n k2n k3n u0n y0n v0n z0n u1n y1n v1n z1n u2n y2n v2n z2n u3n y3n v3n z3n; generalize World.drew _ = W9 at HA1 ⊢; generalize W_.heap.size = gc at HA1 ⊢; have HA := HA1; clear HA1
    go_wp2_with (first | (go_at_call 7; refine (ends_Right.calls KR 1 0 (some ⟨g2, 0, none⟩) c2 B 0 _ _ (own_readsA hown2 HA (by simp)).1 (own_readsA hown2 HA (by simp)).2 HKR.out).mono ?_; rintro e W_ ⟨rfl, hb_⟩; replace HA := HA.call hb_; clear hb_) | ((with_reducible refine gate_dst (N := 47) rfl ?_); refine aw_newv (fun g => .slice (some ⟨g, 0, none⟩) 0 0) 3 [] rfl (fun W => by first | (go_simp; done) | (go_simp; rfl) | kernel_rfl) HA ?_; clear HA; intro g9 W_ HA; simp only [Act.put, List.setIfInBounds_toArray, List.set_cons_succ, List.set_cons_zero]) | ((with_reducible refine gate_dst (N := 50) rfl ?_); refine aw_append_lit0 Tryd.underlying23 ec_info rfl rfl rfl rfl HA (news := B.map (Value.int .i64)) rfl (by simp) (Kd.C_cells (own_readsA hown2 HA (by simp)).1) (ints_one _) hm4 hm5 ?_; clear HA; intro v3_ W_ Lv3_ hown3 HA; obtain ⟨g3, cap3, rfl, rfl⟩ := own_some hown3 hBp; dsimp only [List.cons_append, List.nil_append] at HA; simp only [Act.put, List.setIfInBounds_toArray, List.set_cons_succ, List.set_cons_zero]) | ((with_reducible refine gate_dst (N := 9) rfl ?_); refine aw_alloc rfl rfl ec_zero HA ?_; clear HA; intro gd W_ HA; simp only [Act.put, List.setIfInBounds_toArray, List.set_cons_succ, List.set_cons_zero]) | ((with_reducible refine gate_ld rfl ?_); (first | refine aw_loadW 0 (t := 25) rfl rfl HA rfl rfl ?_ ?_ | refine aw_loadW 1 (t := 25) rfl rfl HA rfl rfl ?_ ?_ | refine aw_loadW 2 (t := 25) rfl rfl HA rfl rfl ?_ ?_ | refine aw_loadW 3 (t := 25) rfl rfl HA rfl rfl ?_ ?_ | refine aw_loadW 4 (t := 25) rfl rfl HA rfl rfl ?_ ?_ | refine aw_loadW 5 (t := 25) rfl rfl HA rfl rfl ?_ ?_ | refine aw_loadW 6 (t := 25) rfl rfl HA rfl rfl ?_ ?_ | refine aw_load 0 rfl rfl HA rfl rfl rfl ?_ ?_ | refine aw_load 1 rfl rfl HA rfl rfl rfl ?_ ?_ | refine aw_load 2 rfl rfl HA rfl rfl rfl ?_ ?_ | refine aw_load 3 rfl rfl HA rfl rfl rfl ?_ ?_ | refine aw_load 4 rfl rfl HA rfl rfl rfl ?_ ?_ | refine aw_load 5 rfl rfl HA rfl rfl rfl ?_ ?_ | refine aw_load 6 rfl rfl HA rfl rfl rfl ?_ ?_); kernel_rfl; simp only [Act.put, List.setIfInBounds_toArray, List.set_cons_succ, List.set_cons_zero]) | ((with_reducible refine gate_st rfl ?_); (first | refine aw_storeW 0 (t := 25) rfl rfl rfl rfl HA rfl rfl rfl ?_ rfl ?_ | refine aw_storeW 1 (t := 25) rfl rfl rfl rfl HA rfl rfl rfl ?_ rfl ?_ | refine aw_storeW 2 (t := 25) rfl rfl rfl rfl HA rfl rfl rfl ?_ rfl ?_ | refine aw_storeW 3 (t := 25) rfl rfl rfl rfl HA rfl rfl rfl ?_ rfl ?_ | refine aw_storeW 4 (t := 25) rfl rfl rfl rfl HA rfl rfl rfl ?_ rfl ?_ | refine aw_storeW 5 (t := 25) rfl rfl rfl rfl HA rfl rfl rfl ?_ rfl ?_ | refine aw_storeW 6 (t := 25) rfl rfl rfl rfl HA rfl rfl rfl ?_ rfl ?_ | refine aw_store 0 (v := .slice _ _ _) rfl rfl rfl rfl rfl HA rfl rfl rfl ?_ ?_ | refine aw_store 1 (v := .slice _ _ _) rfl rfl rfl rfl rfl HA rfl rfl rfl ?_ ?_ | refine aw_store 2 (v := .slice _ _ _) rfl rfl rfl rfl rfl HA rfl rfl rfl ?_ ?_ | refine aw_store 3 (v := .slice _ _ _) rfl rfl rfl rfl rfl HA rfl rfl rfl ?_ ?_ | refine aw_store 4 (v := .slice _ _ _) rfl rfl rfl rfl rfl HA rfl rfl rfl ?_ ?_ | refine aw_store 5 (v := .slice _ _ _) rfl rfl rfl rfl rfl HA rfl rfl rfl ?_ ?_ | refine aw_store 6 (v := .slice _ _ _) rfl rfl rfl rfl rfl HA rfl rfl rfl ?_ ?_); kernel_rfl; clear HA; intro W_ HA; dsimp only [List.set, List.take, List.cons_append, List.nil_append] at HA))
    have q1 := HA.cell (i := 0) (j := 2) rfl rfl; have q2 := HA.rcell (i := 5) (j := 0) rfl HX0.out; have q3 := HA.freeR (i := 5) (j := 0) rfl
    have p1 := HA.drew.cell (i := 0) (j := 2) rfl rfl; have p2 := HA.drew.rcell (i := 5) (j := 0) rfl HX0.out; have p3 := HA.drew.freeR (i := 5) (j := 0) rfl
    go_region
    clear q1 q2 q3 p1 p2 p3
    replace HA := (HA.setR (i := 5) (j := 0) (.int .i64 y) rfl).drew
    replace hown3 := hown3.setR0 HD1.out HD2.out
    rw [HD2.out] at HA
    generalize World.drew _ = W9 at HA ⊢
    go_wp2_with (first | (go_at_call_of 11 g3; refine (HCD.out _ g3 cap3 (HA.1.reads HR0.out) HC0.out (by rw [HD1.out]; exact (own_readsA hown3 HA (by simp)).1) (by rw [HD1.out]; exact (own_readsA hown3 HA (by simp)).2)).mono ?_; rintro e W_ ⟨rfl, hb_⟩; replace HA := HA.call hb_; clear hb_) | (go_at_call_of 11 kc; refine (ends_Agree.calls KA kc 0 A0 c0 l0 0 1 0 (some ⟨g2, 0, none⟩) c2 B 0 true _ (HA.1.reads HR0.out) HC0.out (own_readsA hown2 HA (by simp)).1 (own_readsA hown2 HA (by simp)).2 HKA.out).mono ?_; rintro e W_ ⟨rfl, hb_⟩; replace HA := HA.call hb_; clear hb_) | (go_at_call 6; refine (camletlaw02_knows.calls K true _ (HG.out.mono HA.below) HK.out).mono ?_; rintro e W_ ⟨rfl, hb_⟩; replace HA := HA.call hb_; clear hb_) | ((with_reducible refine gate_ld rfl ?_); (first | refine aw_loadW 0 (t := 25) rfl rfl HA rfl rfl ?_ ?_ | refine aw_loadW 1 (t := 25) rfl rfl HA rfl rfl ?_ ?_ | refine aw_loadW 2 (t := 25) rfl rfl HA rfl rfl ?_ ?_ | refine aw_loadW 3 (t := 25) rfl rfl HA rfl rfl ?_ ?_ | refine aw_loadW 4 (t := 25) rfl rfl HA rfl rfl ?_ ?_ | refine aw_loadW 5 (t := 25) rfl rfl HA rfl rfl ?_ ?_ | refine aw_loadW 6 (t := 25) rfl rfl HA rfl rfl ?_ ?_ | refine aw_load 0 rfl rfl HA rfl rfl rfl ?_ ?_ | refine aw_load 1 rfl rfl HA rfl rfl rfl ?_ ?_ | refine aw_load 2 rfl rfl HA rfl rfl rfl ?_ ?_ | refine aw_load 3 rfl rfl HA rfl rfl rfl ?_ ?_ | refine aw_load 4 rfl rfl HA rfl rfl rfl ?_ ?_ | refine aw_load 5 rfl rfl HA rfl rfl rfl ?_ ?_ | refine aw_load 6 rfl rfl HA rfl rfl rfl ?_ ?_); kernel_rfl; simp only [Act.put, List.setIfInBounds_toArray, List.set_cons_succ, List.set_cons_zero]))
    go_ret
    exact ⟨rfl, HA.below⟩
set_option maxHeartbeats 8000000 in
set_option maxRecDepth 100000 in
theorem ends_cut_11 (a0_0 a0_1 : Int) (A0 : Option Addr) (c0 : Nat) (l0 : List Int) (x : Int) (t : List Int) (h0 : l0 = x :: t) (a0_3 : Int) (A1 : Option Addr) (c1 : Nat) (l1 : List Int) (a2 : Int) (w : World) (hr0 : Kd.C (Kd.int .i64) w A0 l0.length l0) (hc0 : l0.length ≤ c0) (hr1 : Kd.C (Kd.int .i64) w A1 l1.length l1) (hc1 : l1.length ≤ c1) (hG : Laid w) (hs0 : (l0 : List Int).length ≤ 300) (hs1 : l1.length ≤ 300) (kc : Int) (hk : kc = 3 ∨ kc = 5 ∨ kc = 6) (j : Nat) (hj : Int.tmod (IntKind.u64.wrap a2) 3 = (j : Int)) (hj3 : (j : Int) < 3) (hkc : ([.int .i64 3, .int .i64 5, .int .i64 6] : List Value)[j]? = some (.int .i64 kc)) (hR : eRight 1 0 (l0 ++ l1) 0 = true) (hl1 : l1 ≠ []) :
    Calls Tryd.prog 5 #[.agg #[.int .i64 a0_0, .int .i64 a0_1, .slice A0 l0.length c0, .int .i64 a0_3], .slice A1 l1.length c1, .int .i64 a2] w fun e w' => e = .returned (.bool true) ∧ Below w.heap.size w w' := by
  have HA := Aw.start noS w
  have HG := Aside0.mk hG
  have HR0 := Aside0.mk hr0
  have HR1 := Aside0.mk hr1
  have HC0 := Aside0.mk hc0
  have HC1 := Aside0.mk hc1
  have d1 : decide (300 < ((l0).length : Int)) = false := decide_eq_false (by omega)
  have d2 : decide (300 < (l1.length : Int)) = false := decide_eq_false (by omega)
  have d3 : decide (0 < ((l0).length : Int)) = true := decide_eq_true (by rw [h0, List.length_cons]; omega)
  have d4 : ((l1.length : Int) == 0) = false := by rw [beq_eq_false_iff_ne]; intro h; exact hl1 (List.eq_nil_of_length_eq_zero (by omega))
  have d5 : 0 < (l0).length := by rw [h0, List.length_cons]; omega
  have hm0 : (l0).length ≤ maxLen := by unfold maxLen; omega
  have hm1 : (l0).length * 8 ≤ 140737488355328 := by omega
  have hm2 : (l0).length + l1.length ≤ maxLen := by unfold maxLen; omega
  have hm3 : ((l0).length + l1.length) * 8 ≤ 140737488355328 := by omega
  obtain ⟨KA, hKA⟩ := ec_out (agree_ev kc 0 l0 0 1 0 (l0 ++ l1) 0 (by show _ ≤ _; omega) (by show _ ≤ _; rw [List.length_append]; omega))
  rw [ec_agree_cb hk l0 l1 hR] at hKA
  obtain ⟨KE, hKE⟩ := ec_out (agree_ev 1 0 l0 0 1 0 (l0 ++ l1) 0 (by show _ ≤ _; omega) (by show _ ≤ _; rw [List.length_append]; omega))
  rw [ec_agree_eb l0 l1 hl1] at hKE
  have hx := ec_turn ((of_decide_eq_true hR).2.2.2.2.2 x (by rw [h0]; simp))
  have s1 : IntKind.i64.wrap (x + 1) = x + 1 := IntWalk.i64_in _ (by omega)
  obtain ⟨y, hy⟩ : ∃ y, Int.tmod (x + 1) 1073741824 = y := ⟨_, rfl⟩
  rw [hy] at hx
  obtain ⟨KD, hKD⟩ := ec_out (agree_ev kc 0 (x :: t) 0 1 0 (y :: (t ++ l1)) 0 (by rw [← h0]; show _ ≤ _; omega) (by show _ ≤ _; have h0l := congrArg List.length h0; rw [List.length_cons] at h0l; rw [List.length_cons, List.length_append]; omega))
  rw [ec_agree_cd hk x y t (t ++ l1) hx.1, ← h0] at hKD
  obtain ⟨B, hB⟩ : ∃ B, l0 ++ l1 = B := ⟨_, rfl⟩
  have HB1 : Aside0 ((l0).length + l1.length = B.length) := ⟨by rw [← hB, List.length_append]⟩
  have HB2 : Aside0 ((l0).map (Value.int .i64) ++ l1.map (Value.int .i64) = B.map (Value.int .i64)) := ⟨by rw [← hB, List.map_append]⟩
  have hBp : 0 < B.length := by rw [← HB1.out, h0, List.length_cons]; omega
  have HX0 : Aside0 ((B.map (Value.int .i64))[0]? = some (.int .i64 x)) := ⟨by rw [← hB, h0]; rfl⟩
  obtain ⟨D, hD⟩ : ∃ D, y :: (t ++ l1) = D := ⟨_, rfl⟩
  have HD1 : Aside0 (B.length = D.length) := ⟨by rw [← hB, ← hD, h0]; simp⟩
  have HD2 : Aside0 ((B.map (Value.int .i64)).set 0 (.int .i64 y) = D.map (Value.int .i64)) := ⟨by rw [← hB, ← hD, h0]; rfl⟩
  rw [hD] at hKD
  have i1 : decide ((0 : Int) < (B.length : Int)) = true := decide_eq_true (by omega)
  have hm4 : B.length ≤ maxLen := by rw [← HB1.out]; exact hm2
  have hm5 : B.length * 8 ≤ 140737488355328 := by rw [← HB1.out]; exact hm3
  obtain ⟨K, hK⟩ := ec_out knows_ev
  obtain ⟨KR, hKR⟩ := ec_out (right_ev 1 0 (l0 ++ l1) 0 (by show _ ≤ _; rw [List.length_append]; omega))
  rw [hR] at hKR
  rw [hB] at hKR hKA hKE
  have HK := Aside0.mk hK
  have HKR := Aside0.mk hKR
  have HKA := Aside0.mk hKA
  have HKE := Aside0.mk hKE; clear hKE; have hcd := fun (W : World) (g cap : Nat) h1 h2 h3 h4 => ends_Agree.calls KD kc 0 A0 c0 l0 0 1 0 (some ⟨g, 0, none⟩) cap D 0 false W h1 h2 h3 h4 hKD
  rw [← HD1.out] at hcd
  have HCD := Aside0.mk hcd; clear hcd hKD
  clear hG hK hr0 hr1 hc0 hc1 hs0 hs1 hKR hKA hR hl1 hk
  clear hB hD hx h0
  go_enter Tryd.func5, Tryd.ntmps5
  go_wp2_with (first | ((with_reducible refine gate_dst (N := 3) rfl ?_); refine aw_box rfl rfl rfl HA ?_; clear HA; intro ga W_ HA; simp only [Act.put, List.setIfInBounds_toArray, List.set_cons_succ, List.set_cons_zero]) | ((with_reducible refine gate_dst (N := 20) rfl ?_); refine aw_newv (fun g => .slice (some ⟨g, 0, none⟩) 0 0) 3 [] rfl (fun W => by first | (go_simp; done) | (go_simp; rfl) | kernel_rfl) HA ?_; clear HA; intro g0 W_ HA; simp only [Act.put, List.setIfInBounds_toArray, List.set_cons_succ, List.set_cons_zero]) | ((with_reducible refine gate_dst (N := 23) rfl ?_); refine aw_append_lit0 Tryd.underlying23 ec_info rfl rfl rfl rfl HA (news := l0.map (Value.int .i64)) rfl (by simp) (Kd.C_cells (HA.1.reads HR0.out)) (ints_one _) hm0 hm1 ?_; clear HA; intro v_ W_ Lv_ hown1 HA; dsimp only [List.cons_append, List.nil_append] at HA; simp only [Act.put, List.setIfInBounds_toArray, List.set_cons_succ, List.set_cons_zero]) | ((with_reducible refine gate_dst (N := 25) rfl ?_); refine aw_append_any 1 rfl Tryd.underlying23 ec_info rfl (Nat.le_refl 1) rfl hown1 rfl rfl HA (news := l1.map (Value.int .i64)) rfl (by simp) (Kd.C_cells (HA.1.reads HR1.out)) (ints_one _) hm2 hm3 ?_; clear HA hown1; intro v_ W_ Lv2_ hown2 HA; replace hown2 := hown2.cast HB1.out HB2.out; obtain ⟨g2, c2, rfl, rfl⟩ := own_some hown2 hBp; dsimp only [List.take, List.cons_append, List.nil_append] at HA; simp only [Act.put, List.setIfInBounds_toArray, List.set_cons_succ, List.set_cons_zero]) | ((with_reducible refine gate_dst (N := 7) rfl ?_); refine aw_alloc rfl rfl ec_zero HA ?_; clear HA; intro gb W_ HA; simp only [Act.put, List.setIfInBounds_toArray, List.set_cons_succ, List.set_cons_zero]) | ((with_reducible refine gate_ld rfl ?_); (first | refine aw_loadW 0 (t := 25) rfl rfl HA rfl rfl ?_ ?_ | refine aw_loadW 1 (t := 25) rfl rfl HA rfl rfl ?_ ?_ | refine aw_loadW 2 (t := 25) rfl rfl HA rfl rfl ?_ ?_ | refine aw_loadW 3 (t := 25) rfl rfl HA rfl rfl ?_ ?_ | refine aw_loadW 4 (t := 25) rfl rfl HA rfl rfl ?_ ?_ | refine aw_load 0 rfl rfl HA rfl rfl rfl ?_ ?_ | refine aw_load 1 rfl rfl HA rfl rfl rfl ?_ ?_ | refine aw_load 2 rfl rfl HA rfl rfl rfl ?_ ?_ | refine aw_load 3 rfl rfl HA rfl rfl rfl ?_ ?_ | refine aw_load 4 rfl rfl HA rfl rfl rfl ?_ ?_); kernel_rfl; simp only [Act.put, List.setIfInBounds_toArray, List.set_cons_succ, List.set_cons_zero]) | ((with_reducible refine gate_st rfl ?_); (first | refine aw_storeW 0 (t := 25) rfl rfl rfl rfl HA rfl rfl rfl ?_ rfl ?_ | refine aw_storeW 1 (t := 25) rfl rfl rfl rfl HA rfl rfl rfl ?_ rfl ?_ | refine aw_storeW 2 (t := 25) rfl rfl rfl rfl HA rfl rfl rfl ?_ rfl ?_ | refine aw_storeW 3 (t := 25) rfl rfl rfl rfl HA rfl rfl rfl ?_ rfl ?_ | refine aw_storeW 4 (t := 25) rfl rfl rfl rfl HA rfl rfl rfl ?_ rfl ?_); kernel_rfl; clear HA; intro W_ HA; dsimp only [List.set, List.take, List.cons_append, List.nil_append] at HA))
  have H0 := HA
  have H1 := H0.newD 22 [.int .i64 3, .int .i64 5, .int .i64 6]
  have H2 := H1.newD 25 [.int .i64 0, .int .i64 0, .slice none 0 0, .int .i64 0]
  have G1 := H0.newD 25 [.int .i64 0, .int .i64 0, .slice none 0 0, .int .i64 0]
  have G2 := G1.newD 22 [.int .i64 3, .int .i64 5, .int .i64 6]
  have a0d := (H0.drew).cell (i := 1) (j := 2) rfl rfl; have a1d := (H1.drew).cell (i := 2) (j := 2) rfl rfl; have a2d := (H2.drew).cell (i := 3) (j := 2) rfl rfl; have b1d := (G1.drew).cell (i := 2) (j := 2) rfl rfl; have b2d := (G2.drew).cell (i := 3) (j := 2) rfl rfl
  have k1d := (H1.drew).cell (i := 0) (j := j) rfl hkc; have k2d := (H2.drew).cell (i := 1) (j := j) rfl hkc; have k3d := (G2.drew).cell (i := 0) (j := j) rfl hkc
  have u0d := (H2.drew).cell (i := 0) (j := 0) rfl rfl; have y0d := (H2.drew).free (i := 0) (j := 0) rfl; have v0d := (G2.drew).cell (i := 1) (j := 0) rfl rfl; have z0d := (G2.drew).free (i := 1) (j := 0) rfl; have u1d := (H2.drew).cell (i := 0) (j := 1) rfl rfl; have y1d := (H2.drew).free (i := 0) (j := 1) rfl; have v1d := (G2.drew).cell (i := 1) (j := 1) rfl rfl; have z1d := (G2.drew).free (i := 1) (j := 1) rfl; have u2d := (H2.drew).cell (i := 0) (j := 2) rfl rfl; have y2d := (H2.drew).free (i := 0) (j := 2) rfl; have v2d := (G2.drew).cell (i := 1) (j := 2) rfl rfl; have z2d := (G2.drew).free (i := 1) (j := 2) rfl; have u3d := (H2.drew).cell (i := 0) (j := 3) rfl rfl; have y3d := (H2.drew).free (i := 0) (j := 3) rfl; have v3d := (G2.drew).cell (i := 1) (j := 3) rfl rfl; have z3d := (G2.drew).free (i := 1) (j := 3) rfl
  have a0n := (H0).cell (i := 1) (j := 2) rfl rfl; have a1n := (H1).cell (i := 2) (j := 2) rfl rfl; have a2n := (H2).cell (i := 3) (j := 2) rfl rfl; have b1n := (G1).cell (i := 2) (j := 2) rfl rfl; have b2n := (G2).cell (i := 3) (j := 2) rfl rfl
  have k1n := (H1).cell (i := 0) (j := j) rfl hkc; have k2n := (H2).cell (i := 1) (j := j) rfl hkc; have k3n := (G2).cell (i := 0) (j := j) rfl hkc
  have u0n := (H2).cell (i := 0) (j := 0) rfl rfl; have y0n := (H2).free (i := 0) (j := 0) rfl; have v0n := (G2).cell (i := 1) (j := 0) rfl rfl; have z0n := (G2).free (i := 1) (j := 0) rfl; have u1n := (H2).cell (i := 0) (j := 1) rfl rfl; have y1n := (H2).free (i := 0) (j := 1) rfl; have v1n := (G2).cell (i := 1) (j := 1) rfl rfl; have z1n := (G2).free (i := 1) (j := 1) rfl; have u2n := (H2).cell (i := 0) (j := 2) rfl rfl; have y2n := (H2).free (i := 0) (j := 2) rfl; have v2n := (G2).cell (i := 1) (j := 2) rfl rfl; have z2n := (G2).free (i := 1) (j := 2) rfl; have u3n := (H2).cell (i := 0) (j := 3) rfl rfl; have y3n := (H2).free (i := 0) (j := 3) rfl; have v3n := (G2).cell (i := 1) (j := 3) rfl rfl; have z3n := (G2).free (i := 1) (j := 3) rfl
  clear H0 H1 G1
  go_region
  · have HA1 := ec_two1 HA [.int .i64 kc, .int .i64 0, .slice A0 l0.length c0, .int .i64 0]; clear HA; clear H2 G2 a0d a1d a2d b1d b2d k1d k2d k3d u0d y0d v0d z0d u1d y1d v1d z1d u2d y2d v2d z2d u3d y3d v3d z3d a0n a1n a2n b1n b2n k1n k2n k3n u0n y0n v0n z0n u1n y1n v1n z1n u2n y2n v2n z2n u3n y3n v3n z3n; generalize World.drew _ = W9 at HA1 ⊢; generalize W_.heap.size + 1 = gc at HA1 ⊢; have HA := HA1; clear HA1
    go_wp2_with (first | (go_at_call 7; refine (ends_Right.calls KR 1 0 (some ⟨g2, 0, none⟩) c2 B 0 _ _ (own_readsA hown2 HA (by simp)).1 (own_readsA hown2 HA (by simp)).2 HKR.out).mono ?_; rintro e W_ ⟨rfl, hb_⟩; replace HA := HA.call hb_; clear hb_) | ((with_reducible refine gate_dst (N := 47) rfl ?_); refine aw_newv (fun g => .slice (some ⟨g, 0, none⟩) 0 0) 3 [] rfl (fun W => by first | (go_simp; done) | (go_simp; rfl) | kernel_rfl) HA ?_; clear HA; intro g9 W_ HA; simp only [Act.put, List.setIfInBounds_toArray, List.set_cons_succ, List.set_cons_zero]) | ((with_reducible refine gate_dst (N := 50) rfl ?_); refine aw_append_lit0 Tryd.underlying23 ec_info rfl rfl rfl rfl HA (news := B.map (Value.int .i64)) rfl (by simp) (Kd.C_cells (own_readsA hown2 HA (by simp)).1) (ints_one _) hm4 hm5 ?_; clear HA; intro v3_ W_ Lv3_ hown3 HA; obtain ⟨g3, cap3, rfl, rfl⟩ := own_some hown3 hBp; dsimp only [List.cons_append, List.nil_append] at HA; simp only [Act.put, List.setIfInBounds_toArray, List.set_cons_succ, List.set_cons_zero]) | ((with_reducible refine gate_dst (N := 9) rfl ?_); refine aw_alloc rfl rfl ec_zero HA ?_; clear HA; intro gd W_ HA; simp only [Act.put, List.setIfInBounds_toArray, List.set_cons_succ, List.set_cons_zero]) | ((with_reducible refine gate_ld rfl ?_); (first | refine aw_loadW 0 (t := 25) rfl rfl HA rfl rfl ?_ ?_ | refine aw_loadW 1 (t := 25) rfl rfl HA rfl rfl ?_ ?_ | refine aw_loadW 2 (t := 25) rfl rfl HA rfl rfl ?_ ?_ | refine aw_loadW 3 (t := 25) rfl rfl HA rfl rfl ?_ ?_ | refine aw_loadW 4 (t := 25) rfl rfl HA rfl rfl ?_ ?_ | refine aw_loadW 5 (t := 25) rfl rfl HA rfl rfl ?_ ?_ | refine aw_loadW 6 (t := 25) rfl rfl HA rfl rfl ?_ ?_ | refine aw_load 0 rfl rfl HA rfl rfl rfl ?_ ?_ | refine aw_load 1 rfl rfl HA rfl rfl rfl ?_ ?_ | refine aw_load 2 rfl rfl HA rfl rfl rfl ?_ ?_ | refine aw_load 3 rfl rfl HA rfl rfl rfl ?_ ?_ | refine aw_load 4 rfl rfl HA rfl rfl rfl ?_ ?_ | refine aw_load 5 rfl rfl HA rfl rfl rfl ?_ ?_ | refine aw_load 6 rfl rfl HA rfl rfl rfl ?_ ?_); kernel_rfl; simp only [Act.put, List.setIfInBounds_toArray, List.set_cons_succ, List.set_cons_zero]) | ((with_reducible refine gate_st rfl ?_); (first | refine aw_storeW 0 (t := 25) rfl rfl rfl rfl HA rfl rfl rfl ?_ rfl ?_ | refine aw_storeW 1 (t := 25) rfl rfl rfl rfl HA rfl rfl rfl ?_ rfl ?_ | refine aw_storeW 2 (t := 25) rfl rfl rfl rfl HA rfl rfl rfl ?_ rfl ?_ | refine aw_storeW 3 (t := 25) rfl rfl rfl rfl HA rfl rfl rfl ?_ rfl ?_ | refine aw_storeW 4 (t := 25) rfl rfl rfl rfl HA rfl rfl rfl ?_ rfl ?_ | refine aw_storeW 5 (t := 25) rfl rfl rfl rfl HA rfl rfl rfl ?_ rfl ?_ | refine aw_storeW 6 (t := 25) rfl rfl rfl rfl HA rfl rfl rfl ?_ rfl ?_ | refine aw_store 0 (v := .slice _ _ _) rfl rfl rfl rfl rfl HA rfl rfl rfl ?_ ?_ | refine aw_store 1 (v := .slice _ _ _) rfl rfl rfl rfl rfl HA rfl rfl rfl ?_ ?_ | refine aw_store 2 (v := .slice _ _ _) rfl rfl rfl rfl rfl HA rfl rfl rfl ?_ ?_ | refine aw_store 3 (v := .slice _ _ _) rfl rfl rfl rfl rfl HA rfl rfl rfl ?_ ?_ | refine aw_store 4 (v := .slice _ _ _) rfl rfl rfl rfl rfl HA rfl rfl rfl ?_ ?_ | refine aw_store 5 (v := .slice _ _ _) rfl rfl rfl rfl rfl HA rfl rfl rfl ?_ ?_ | refine aw_store 6 (v := .slice _ _ _) rfl rfl rfl rfl rfl HA rfl rfl rfl ?_ ?_); kernel_rfl; clear HA; intro W_ HA; dsimp only [List.set, List.take, List.cons_append, List.nil_append] at HA))
    have q1 := HA.cell (i := 0) (j := 2) rfl rfl; have q2 := HA.rcell (i := 5) (j := 0) rfl HX0.out; have q3 := HA.freeR (i := 5) (j := 0) rfl
    have p1 := HA.drew.cell (i := 0) (j := 2) rfl rfl; have p2 := HA.drew.rcell (i := 5) (j := 0) rfl HX0.out; have p3 := HA.drew.freeR (i := 5) (j := 0) rfl
    go_region
    clear q1 q2 q3 p1 p2 p3
    replace HA := (HA.setR (i := 5) (j := 0) (.int .i64 y) rfl).drew
    replace hown3 := hown3.setR0 HD1.out HD2.out
    rw [HD2.out] at HA
    generalize World.drew _ = W9 at HA ⊢
    go_wp2_with (first | (go_at_call_of 11 g3; refine (HCD.out _ g3 cap3 (HA.1.reads HR0.out) HC0.out (by rw [HD1.out]; exact (own_readsA hown3 HA (by simp)).1) (by rw [HD1.out]; exact (own_readsA hown3 HA (by simp)).2)).mono ?_; rintro e W_ ⟨rfl, hb_⟩; replace HA := HA.call hb_; clear hb_) | (go_at_call_of 11 kc; refine (ends_Agree.calls KA kc 0 A0 c0 l0 0 1 0 (some ⟨g2, 0, none⟩) c2 B 0 true _ (HA.1.reads HR0.out) HC0.out (own_readsA hown2 HA (by simp)).1 (own_readsA hown2 HA (by simp)).2 HKA.out).mono ?_; rintro e W_ ⟨rfl, hb_⟩; replace HA := HA.call hb_; clear hb_) | (go_at_call_of 11 g2; refine (ends_Agree.calls KE 1 0 A0 c0 l0 0 1 0 (some ⟨g2, 0, none⟩) c2 B 0 false _ (HA.1.reads HR0.out) HC0.out (own_readsA hown2 HA (by simp)).1 (own_readsA hown2 HA (by simp)).2 HKE.out).mono ?_; rintro e W_ ⟨rfl, hb_⟩; replace HA := HA.call hb_; clear hb_) | (go_at_call 6; refine (camletlaw02_knows.calls K true _ (HG.out.mono HA.below) HK.out).mono ?_; rintro e W_ ⟨rfl, hb_⟩; replace HA := HA.call hb_; clear hb_) | ((with_reducible refine gate_ld rfl ?_); (first | refine aw_loadW 0 (t := 25) rfl rfl HA rfl rfl ?_ ?_ | refine aw_loadW 1 (t := 25) rfl rfl HA rfl rfl ?_ ?_ | refine aw_loadW 2 (t := 25) rfl rfl HA rfl rfl ?_ ?_ | refine aw_loadW 3 (t := 25) rfl rfl HA rfl rfl ?_ ?_ | refine aw_loadW 4 (t := 25) rfl rfl HA rfl rfl ?_ ?_ | refine aw_loadW 5 (t := 25) rfl rfl HA rfl rfl ?_ ?_ | refine aw_loadW 6 (t := 25) rfl rfl HA rfl rfl ?_ ?_ | refine aw_load 0 rfl rfl HA rfl rfl rfl ?_ ?_ | refine aw_load 1 rfl rfl HA rfl rfl rfl ?_ ?_ | refine aw_load 2 rfl rfl HA rfl rfl rfl ?_ ?_ | refine aw_load 3 rfl rfl HA rfl rfl rfl ?_ ?_ | refine aw_load 4 rfl rfl HA rfl rfl rfl ?_ ?_ | refine aw_load 5 rfl rfl HA rfl rfl rfl ?_ ?_ | refine aw_load 6 rfl rfl HA rfl rfl rfl ?_ ?_); kernel_rfl; simp only [Act.put, List.setIfInBounds_toArray, List.set_cons_succ, List.set_cons_zero]))
    go_ret
    exact ⟨rfl, HA.below⟩
  · have HA1 := ec_two2 HA [.int .i64 kc, .int .i64 0, .slice A0 l0.length c0, .int .i64 0]; clear HA; clear H2 G2 a0d a1d a2d b1d b2d k1d k2d k3d u0d y0d v0d z0d u1d y1d v1d z1d u2d y2d v2d z2d u3d y3d v3d z3d a0n a1n a2n b1n b2n k1n k2n k3n u0n y0n v0n z0n u1n y1n v1n z1n u2n y2n v2n z2n u3n y3n v3n z3n; generalize World.drew _ = W9 at HA1 ⊢; generalize W_.heap.size = gc at HA1 ⊢; have HA := HA1; clear HA1
    go_wp2_with (first | (go_at_call 7; refine (ends_Right.calls KR 1 0 (some ⟨g2, 0, none⟩) c2 B 0 _ _ (own_readsA hown2 HA (by simp)).1 (own_readsA hown2 HA (by simp)).2 HKR.out).mono ?_; rintro e W_ ⟨rfl, hb_⟩; replace HA := HA.call hb_; clear hb_) | ((with_reducible refine gate_dst (N := 47) rfl ?_); refine aw_newv (fun g => .slice (some ⟨g, 0, none⟩) 0 0) 3 [] rfl (fun W => by first | (go_simp; done) | (go_simp; rfl) | kernel_rfl) HA ?_; clear HA; intro g9 W_ HA; simp only [Act.put, List.setIfInBounds_toArray, List.set_cons_succ, List.set_cons_zero]) | ((with_reducible refine gate_dst (N := 50) rfl ?_); refine aw_append_lit0 Tryd.underlying23 ec_info rfl rfl rfl rfl HA (news := B.map (Value.int .i64)) rfl (by simp) (Kd.C_cells (own_readsA hown2 HA (by simp)).1) (ints_one _) hm4 hm5 ?_; clear HA; intro v3_ W_ Lv3_ hown3 HA; obtain ⟨g3, cap3, rfl, rfl⟩ := own_some hown3 hBp; dsimp only [List.cons_append, List.nil_append] at HA; simp only [Act.put, List.setIfInBounds_toArray, List.set_cons_succ, List.set_cons_zero]) | ((with_reducible refine gate_dst (N := 9) rfl ?_); refine aw_alloc rfl rfl ec_zero HA ?_; clear HA; intro gd W_ HA; simp only [Act.put, List.setIfInBounds_toArray, List.set_cons_succ, List.set_cons_zero]) | ((with_reducible refine gate_ld rfl ?_); (first | refine aw_loadW 0 (t := 25) rfl rfl HA rfl rfl ?_ ?_ | refine aw_loadW 1 (t := 25) rfl rfl HA rfl rfl ?_ ?_ | refine aw_loadW 2 (t := 25) rfl rfl HA rfl rfl ?_ ?_ | refine aw_loadW 3 (t := 25) rfl rfl HA rfl rfl ?_ ?_ | refine aw_loadW 4 (t := 25) rfl rfl HA rfl rfl ?_ ?_ | refine aw_loadW 5 (t := 25) rfl rfl HA rfl rfl ?_ ?_ | refine aw_loadW 6 (t := 25) rfl rfl HA rfl rfl ?_ ?_ | refine aw_load 0 rfl rfl HA rfl rfl rfl ?_ ?_ | refine aw_load 1 rfl rfl HA rfl rfl rfl ?_ ?_ | refine aw_load 2 rfl rfl HA rfl rfl rfl ?_ ?_ | refine aw_load 3 rfl rfl HA rfl rfl rfl ?_ ?_ | refine aw_load 4 rfl rfl HA rfl rfl rfl ?_ ?_ | refine aw_load 5 rfl rfl HA rfl rfl rfl ?_ ?_ | refine aw_load 6 rfl rfl HA rfl rfl rfl ?_ ?_); kernel_rfl; simp only [Act.put, List.setIfInBounds_toArray, List.set_cons_succ, List.set_cons_zero]) | ((with_reducible refine gate_st rfl ?_); (first | refine aw_storeW 0 (t := 25) rfl rfl rfl rfl HA rfl rfl rfl ?_ rfl ?_ | refine aw_storeW 1 (t := 25) rfl rfl rfl rfl HA rfl rfl rfl ?_ rfl ?_ | refine aw_storeW 2 (t := 25) rfl rfl rfl rfl HA rfl rfl rfl ?_ rfl ?_ | refine aw_storeW 3 (t := 25) rfl rfl rfl rfl HA rfl rfl rfl ?_ rfl ?_ | refine aw_storeW 4 (t := 25) rfl rfl rfl rfl HA rfl rfl rfl ?_ rfl ?_ | refine aw_storeW 5 (t := 25) rfl rfl rfl rfl HA rfl rfl rfl ?_ rfl ?_ | refine aw_storeW 6 (t := 25) rfl rfl rfl rfl HA rfl rfl rfl ?_ rfl ?_ | refine aw_store 0 (v := .slice _ _ _) rfl rfl rfl rfl rfl HA rfl rfl rfl ?_ ?_ | refine aw_store 1 (v := .slice _ _ _) rfl rfl rfl rfl rfl HA rfl rfl rfl ?_ ?_ | refine aw_store 2 (v := .slice _ _ _) rfl rfl rfl rfl rfl HA rfl rfl rfl ?_ ?_ | refine aw_store 3 (v := .slice _ _ _) rfl rfl rfl rfl rfl HA rfl rfl rfl ?_ ?_ | refine aw_store 4 (v := .slice _ _ _) rfl rfl rfl rfl rfl HA rfl rfl rfl ?_ ?_ | refine aw_store 5 (v := .slice _ _ _) rfl rfl rfl rfl rfl HA rfl rfl rfl ?_ ?_ | refine aw_store 6 (v := .slice _ _ _) rfl rfl rfl rfl rfl HA rfl rfl rfl ?_ ?_); kernel_rfl; clear HA; intro W_ HA; dsimp only [List.set, List.take, List.cons_append, List.nil_append] at HA))
    have q1 := HA.cell (i := 0) (j := 2) rfl rfl; have q2 := HA.rcell (i := 5) (j := 0) rfl HX0.out; have q3 := HA.freeR (i := 5) (j := 0) rfl
    have p1 := HA.drew.cell (i := 0) (j := 2) rfl rfl; have p2 := HA.drew.rcell (i := 5) (j := 0) rfl HX0.out; have p3 := HA.drew.freeR (i := 5) (j := 0) rfl
    go_region
    clear q1 q2 q3 p1 p2 p3
    replace HA := (HA.setR (i := 5) (j := 0) (.int .i64 y) rfl).drew
    replace hown3 := hown3.setR0 HD1.out HD2.out
    rw [HD2.out] at HA
    generalize World.drew _ = W9 at HA ⊢
    go_wp2_with (first | (go_at_call_of 11 g3; refine (HCD.out _ g3 cap3 (HA.1.reads HR0.out) HC0.out (by rw [HD1.out]; exact (own_readsA hown3 HA (by simp)).1) (by rw [HD1.out]; exact (own_readsA hown3 HA (by simp)).2)).mono ?_; rintro e W_ ⟨rfl, hb_⟩; replace HA := HA.call hb_; clear hb_) | (go_at_call_of 11 kc; refine (ends_Agree.calls KA kc 0 A0 c0 l0 0 1 0 (some ⟨g2, 0, none⟩) c2 B 0 true _ (HA.1.reads HR0.out) HC0.out (own_readsA hown2 HA (by simp)).1 (own_readsA hown2 HA (by simp)).2 HKA.out).mono ?_; rintro e W_ ⟨rfl, hb_⟩; replace HA := HA.call hb_; clear hb_) | (go_at_call_of 11 g2; refine (ends_Agree.calls KE 1 0 A0 c0 l0 0 1 0 (some ⟨g2, 0, none⟩) c2 B 0 false _ (HA.1.reads HR0.out) HC0.out (own_readsA hown2 HA (by simp)).1 (own_readsA hown2 HA (by simp)).2 HKE.out).mono ?_; rintro e W_ ⟨rfl, hb_⟩; replace HA := HA.call hb_; clear hb_) | (go_at_call 6; refine (camletlaw02_knows.calls K true _ (HG.out.mono HA.below) HK.out).mono ?_; rintro e W_ ⟨rfl, hb_⟩; replace HA := HA.call hb_; clear hb_) | ((with_reducible refine gate_ld rfl ?_); (first | refine aw_loadW 0 (t := 25) rfl rfl HA rfl rfl ?_ ?_ | refine aw_loadW 1 (t := 25) rfl rfl HA rfl rfl ?_ ?_ | refine aw_loadW 2 (t := 25) rfl rfl HA rfl rfl ?_ ?_ | refine aw_loadW 3 (t := 25) rfl rfl HA rfl rfl ?_ ?_ | refine aw_loadW 4 (t := 25) rfl rfl HA rfl rfl ?_ ?_ | refine aw_loadW 5 (t := 25) rfl rfl HA rfl rfl ?_ ?_ | refine aw_loadW 6 (t := 25) rfl rfl HA rfl rfl ?_ ?_ | refine aw_load 0 rfl rfl HA rfl rfl rfl ?_ ?_ | refine aw_load 1 rfl rfl HA rfl rfl rfl ?_ ?_ | refine aw_load 2 rfl rfl HA rfl rfl rfl ?_ ?_ | refine aw_load 3 rfl rfl HA rfl rfl rfl ?_ ?_ | refine aw_load 4 rfl rfl HA rfl rfl rfl ?_ ?_ | refine aw_load 5 rfl rfl HA rfl rfl rfl ?_ ?_ | refine aw_load 6 rfl rfl HA rfl rfl rfl ?_ ?_); kernel_rfl; simp only [Act.put, List.setIfInBounds_toArray, List.set_cons_succ, List.set_cons_zero]))
    go_ret
    exact ⟨rfl, HA.below⟩
theorem camletlaw02_EndsCut.calls (a0_0 : Int) (a0_1 : Int) (A0_2 : Option Addr) (c0_2 : Nat) (l0_2 : List Int) (a0_3 : Int) (A1 : Option Addr) (c1 : Nat) (l1 : List Int) (a2 : Int) (r : Bool) (w : World) (hr0_2 : Kd.C (Kd.int .i64) w A0_2 l0_2.length l0_2) (hc0_2 : l0_2.length ≤ c0_2) (hr1 : Kd.C (Kd.int .i64) w A1 l1.length l1) (hc1 : l1.length ≤ c1) (hG : Laid w) (h : camletlaw02_EndsCut.f a0_0 a0_1 l0_2 a0_3 l1 a2 = some r) :
    Calls Tryd.prog 5 #[.agg #[.int .i64 a0_0, .int .i64 a0_1, .slice A0_2 l0_2.length c0_2, .int .i64 a0_3], .slice A1 l1.length c1, .int .i64 a2] w fun e w' => e = .returned (.bool r) ∧ Below w.heap.size w w' := by
  obtain rfl : true = r := Option.some.inj h
  by_cases hlong : 300 < l0_2.length ∨ 300 < l1.length
  · exact ends_cut_long a0_0 a0_1 A0_2 c0_2 l0_2 a0_3 A1 c1 l1 a2 w hG hlong
  have hs0 : l0_2.length ≤ 300 := by omega
  have hs1 : l1.length ≤ 300 := by omega
  have hu : 0 ≤ IntKind.u64.wrap a2 := by rw [u64_wrap]; omega
  have hm := Int.tmod_eq_emod_of_nonneg (b := 3) hu
  obtain ⟨j, hj⟩ : ∃ j : Nat, Int.tmod (IntKind.u64.wrap a2) 3 = (j : Int) := ⟨(Int.tmod (IntKind.u64.wrap a2) 3).toNat, by rw [hm]; omega⟩
  have hj3 : (j : Int) < 3 := by rw [← hj, hm]; omega
  obtain ⟨kc, hk, hkc⟩ : ∃ kc : Int, (kc = 3 ∨ kc = 5 ∨ kc = 6) ∧ ([.int .i64 3, .int .i64 5, .int .i64 6] : List Value)[j]? = some (.int .i64 kc) := by
    have hj2 : j = 0 ∨ j = 1 ∨ j = 2 := by omega
    rcases hj2 with rfl | rfl | rfl
    · exact ⟨3, .inl rfl, rfl⟩
    · exact ⟨5, .inr (.inl rfl), rfl⟩
    · exact ⟨6, .inr (.inr rfl), rfl⟩
  cases hR : eRight 1 0 (l0_2 ++ l1) 0 with
  | false => exact ends_cut_wrong a0_0 a0_1 A0_2 c0_2 l0_2 a0_3 A1 c1 l1 a2 w hr0_2 hc0_2 hr1 hc1 hG hs0 hs1 kc j hj hj3 hkc hR
  | true =>
    by_cases e0 : l0_2 = []
    · by_cases e1 : l1 = []
      · exact ends_cut_00 a0_0 a0_1 A0_2 c0_2 l0_2 e0 a0_3 A1 c1 l1 a2 w hr0_2 hc0_2 hr1 hc1 hG hs0 hs1 kc hk j hj hj3 hkc hR e1
      · exact ends_cut_01 a0_0 a0_1 A0_2 c0_2 l0_2 e0 a0_3 A1 c1 l1 a2 w hr0_2 hc0_2 hr1 hc1 hG hs0 hs1 kc hk j hj hj3 hkc hR e1
    · obtain ⟨x, t, h0⟩ := List.exists_cons_of_ne_nil e0
      by_cases e1 : l1 = []
      · exact ends_cut_10 a0_0 a0_1 A0_2 c0_2 l0_2 x t h0 a0_3 A1 c1 l1 a2 w hr0_2 hc0_2 hr1 hc1 hG hs0 hs1 kc hk j hj hj3 hkc hR e1
      · exact ends_cut_11 a0_0 a0_1 A0_2 c0_2 l0_2 x t h0 a0_3 A1 c1 l1 a2 w hr0_2 hc0_2 hr1 hc1 hG hs0 hs1 kc hk j hj hj3 hkc hR e1
end Go.Proofs.YtaijpfooobcdkaaDoor.Q
