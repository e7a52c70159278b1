/- heap's taking of a value. By wip/gen/heap_take.py. -/
import Derived.Test.YtaddjeegplfjiaaQx0
import Derived.Test.YtaddjeegplfjiaaQx3
import Derived.Test.YtaddjeegplfjiaaAw
import Derived.Test.YtaddjeegplfjiaaAwAny
import Derived.Test.YtaddjeegplfjiaaAwFrame
import Derived.Test.YtaddjeegplfjiaaAwMap
import Derived.Test.YtaddjeegplfjiaaAwMapRun
import Derived.Test.YtaddjeegplfjiaaAwReg
import Derived.Test.YtaddjeegplfjiaaAwRs
import Derived.Test.YtaddjeegplfjiaaAwSl
import Derived.Test.YtaddjeegplfjiaaAwTree
import Derived.Test.YtaddjeegplfjiaaHeapPlain
import Derived.Test.YtaddjeegplfjiaaHheapStands
import Derived.Test.YtaddjeegplfjiaaTakeM
--@needs XAwTree
--@needs XTakeM
--@needs XHeapPlain
--@needs XAwRs
--@needs XAwReg
--@needs XHheapStands
--@needs XAwMap
--@needs XAwMapRun
--@uses camlet/num.IsInt
--@uses camlet/num.Unbox
import Derived.LoopTactic
import Derived.Deep.LoopGhost
import Derived.Lib.Hide
import Derived.IntWalk
import Derived.Outline
namespace Go.Proofs.Ytaddjeegplfjiaa.Q
open Go.RowKit Go.Proofs.YtaddjeegplfjiaaW.PrintWords Go.Proofs.YtaddjeegplfjiaaW.PrintLast Go.Proofs.YtaddjeegplfjiaaW.PrintMore
attribute [local go_sem] max2_int min2_int max_two min_two max_three min_three max_four min_four   -- for this text's walks alone
set_option linter.unusedVariables false
set_option linter.unusedSimpArgs false

open Go.Maps
theorem hk_iu : Try.prog.underlying 3 = some (.int .i64) := by kernel_rfl
theorem hk_uu : Try.prog.underlying 22 = some (.int .u32) := by kernel_rfl
theorem hk_mu : Try.prog.underlying 61 = some (.map 22 3) := by kernel_rfl
theorem hk_keyed : Keyed Try.prog 22 := int_keyed hk_uu
theorem hk_zero : ∀ W, (zeroValue 3).run Try.prog W = .ok (.int .i64 0) W := fun _ => by kernel_rfl
theorem hk_uwf {x : Int} (h0 : 0 ≤ x) (h1 : x < 4294967296) : (Lit.int .u32 x).wf = true := by
  show (decide (IntKind.u32.min ≤ x) && decide (x ≤ IntKind.u32.max)) = true
  have e1 : IntKind.u32.min = 0 := by decide
  have e2 : IntKind.u32.max = 4294967295 := by decide
  rw [e1, e2]
  simp only [Bool.and_eq_true, decide_eq_true_eq]
  exact ⟨h0, by omega⟩
theorem hk_iwf {a : Int} (h0 : -9223372036854775808 ≤ a) (h : a ≤ 9223372036854775807) : (Lit.int .i64 a).wf = true := by
  show (decide (IntKind.i64.min ≤ a) && decide (a ≤ IntKind.i64.max)) = true
  have h1 : IntKind.i64.min = -9223372036854775808 := by decide
  have h2 : IntKind.i64.max = 9223372036854775807 := by decide
  rw [h1, h2]
  simp only [Bool.and_eq_true, decide_eq_true_eq]
  exact ⟨h0, h⟩
theorem hk_key {x : Int} (h0 : 0 ≤ x) (h1 : x < 4294967296) : keyOf Try.prog 22 (.int .u32 x) = some (.int .u32 x) := keyOf_int_mk hk_uu (hk_uwf h0 h1)
/-- what the map of cells gives -/
def cellsF (cs : List Int) : Lit → Option Int
  | .int .u32 w => if w % 4 = 0 then (cs.findIdx? (fun a => a == w / 4)).map (fun i : Nat => (i : Int)) else none
  | _ => none
theorem cellsF_at (cs : List Int) {x : Int} (h : x % 4 = 0) : cellsF cs (.int .u32 x) = (cs.findIdx? (fun a => a == x / 4)).map (fun i : Nat => (i : Int)) := by show (if x % 4 = 0 then _ else none) = _; rw [if_pos h]
theorem cellsF_put (cs : List Int) {x : Int} (h : x % 4 = 0) (hn : cs.findIdx? (fun a => a == x / 4) = none) : putf (cellsF cs) (.int .u32 x) (cs.length : Int) = cellsF (cs ++ [x / 4]) := by
  funext k
  unfold putf
  by_cases e : k = .int .u32 x
  · subst e
    rw [if_pos rfl, cellsF_at _ h, List.findIdx?_append, hn]
    simp
  · rw [if_neg e]
    unfold cellsF
    split
    · rename_i w
      by_cases hw : w % 4 = 0
      · rw [if_pos hw, if_pos hw, List.findIdx?_append]
        have hne : ¬ x / 4 = w / 4 := fun e2 => e (by rw [show w = x by omega])
        have h1 : List.findIdx? (fun a => a == w / 4) [x / 4] = none := by simp [hne]
        rw [h1]
        cases List.findIdx? (fun a => a == w / 4) cs <;> rfl
      · rw [if_neg hw, if_neg hw]
    · rfl
abbrev hkT (gt gm : Nat) (A0 : Option Addr) (n c0 : Nat) (left : Int) : Nat × Blk := (gt, .c 63 [.slice A0 n c0, .int .i64 left, .map (some gm)])
abbrev hkM (gm n : Nat) (f : Lit → Option Int) : Nat × Blk := (gm, Blk.m Try.prog 22 3 .i64 n f)
def HkPost (A0 : Option Addr) (n c0 gt gm : Nat) (W : World) (res : (S34 × Int) × (Int × List Int)) (e : Ending) (W' : World) : Prop :=
  ∃ (vk : Value) (lf : Int) (mn : Nat) (mf : Lit → Option Int), e = .returned (.tuple #[.agg #[.int .i64 res.1.1.f0, .int .i64 res.1.1.f1, vk], .int .i64 res.1.2]) ∧ (res.1.2 = 0 → lf = res.2.1 ∧ mn = res.2.2.length ∧ mf = cellsF res.2.2) ∧
    Aw (inL [(gt, Blk.c 63 []), (gm, Blk.c 63 [])]) W W' [hkT gt gm A0 n c0 lf, hkM gm mn mf] ∧ k34.M W' W.heap.size (offL [hkT gt gm A0 n c0 lf, hkM gm mn mf]) res.1.1 [.int .i64 res.1.1.f0, .int .i64 res.1.1.f1, vk]
theorem hv_zero (W : World) : (Instr.alloc 34 true (.tuple #[])).run Try.prog W = .ok (.pointer (some ⟨W.heap.size, 0, none⟩)) (W.alloc (.cells ([.int .i64 0, .int .i64 0, .slice none 0 0] : List Value).toArray 34 (0, 0))) := by kernel_rfl
theorem hk_leaf (W : World) (b : Nat) (ok : Nat → Prop) (k N : Int) : k34.M W b ok (⟨k, N, []⟩ : S34) [.int .i64 k, .int .i64 N, .slice none 0 0] := k34_mkM W b ok ⟨k, N, []⟩ (Kd.R_nil _ _ _ _ _)
theorem isInt_eq (x : Int) (h0 : 0 ≤ x) (h1 : x < 4294967296) : num_IsInt.f x = some (x % 2 == 1) := by
  unfold num_IsInt.f
  have h := band_mask x h0 h1 1 (by decide)
  rw [show ((2 ^ 1 - 1 : Nat) : Int) = 1 from rfl, show ((2 ^ 1 : Nat) : Int) = 2 from rfl] at h
  rw [h]
theorem numUnbox_eq (x : Int) (h0 : 0 ≤ x) (h1 : x < 4294967296) : num_Unbox.f x = some (unb x) := by
  rw [← unb_eq]
  unfold num_Unbox.f camletref01_Unbox.f camletref01_Wrap.f
  have e1 : Int.tdiv x 2 = x / 2 := Int.tdiv_eq_ediv_of_nonneg h0
  rw [e1]
  have e2 : x / 2 % 4294967296 = x / 2 := by omega
  rw [e2]
  have e3 : Int.tmod (x / 2) 2147483648 = x / 2 := by rw [Int.tmod_eq_emod_of_nonneg (by omega)]; omega
  rw [e3]
  rw [if_neg (by omega)]
  unfold wrap64 wrap32
  split <;> simp <;> omega
set_option maxHeartbeats 8000000 in
set_option maxRecDepth 100000 in
theorem H_take.low (m : List Int) (hm : m.length ≤ 1000000 ∧ ∀ x ∈ m, 0 ≤ x ∧ x < 4294967296) (A0 : Option Addr) (c0 : Nat) (hc0 : m.length ≤ c0) (left : Int) (cs : List Int) (x : Int) (W : World) (gt gm : Nat) (hl1 : 0 ≤ left ∧ left < 1) (hcb : (cs.length : Int) + left ≤ 100000) (hx0 : 0 ≤ x) (hx1 : x < 4294967296) (hr : (∀ W', Kp (inL [(gt, Blk.c 63 []), (gm, Blk.c 63 [])]) W W' → Kd.C (Kd.int .u32) W' A0 m.length m)) (HA : Aw (inL [(gt, Blk.c 63 []), (gm, Blk.c 63 [])]) W W [hkT gt gm A0 m.length c0 left, hkM gm cs.length (cellsF cs)])  :
    Calls Try.prog 35 #[.pointer (some ⟨gt, 0, none⟩), .int .u32 x] W (HkPost A0 m.length c0 gt gm W ((zV, 4), (left, cs))) := by
  unfold hkT at HA
  have HR := Aside0.mk hr
  have c1 : decide (left - 1 < 0) = true := decide_eq_true (by omega)
  have s0 : IntKind.i64.wrap (left - 1) = left - 1 := IntWalk.i64_in _ (by omega)
  have HII := Aside0.mk (isInt_eq x hx0 hx1)
  go_enter Try.func35, Try.ntmps35
  go_wp2_with (first | ((with_reducible refine gate_dst (N := 4) rfl ?_); refine aw_alloc rfl rfl hv_zero HA ?_; clear HA; intro g4 W_ HA; simp only [Act.put, List.setIfInBounds_toArray, List.set_cons_succ, List.set_cons_zero]) | ((with_reducible refine gate_ld rfl ?_); (first | refine aw_load 0 rfl rfl HA rfl rfl rfl ?_ ?_ | refine aw_load 1 rfl rfl HA rfl rfl rfl ?_ ?_ | refine aw_load 2 rfl rfl HA rfl rfl rfl ?_ ?_ | refine aw_load 3 rfl rfl HA rfl rfl rfl ?_ ?_); kernel_rfl; simp only [Act.put, List.setIfInBounds_toArray, List.set_cons_succ, List.set_cons_zero]) | ((with_reducible refine gate_st rfl ?_); (first | refine aw_storeW 0 (t := 34) rfl rfl rfl rfl HA rfl rfl rfl ?_ rfl ?_ | refine aw_storeW 1 (t := 34) rfl rfl rfl rfl HA rfl rfl rfl ?_ rfl ?_ | refine aw_storeW 2 (t := 34) rfl rfl rfl rfl HA rfl rfl rfl ?_ rfl ?_ | refine aw_storeW 3 (t := 34) rfl rfl rfl rfl HA rfl rfl rfl ?_ rfl ?_ | refine aw_store 0 (v := .int _ _) rfl rfl rfl rfl rfl HA rfl rfl rfl ?_ ?_ | refine aw_store 1 (v := .int _ _) rfl rfl rfl rfl rfl HA rfl rfl rfl ?_ ?_ | refine aw_store 2 (v := .int _ _) rfl rfl rfl rfl rfl HA rfl rfl rfl ?_ ?_ | refine aw_store 3 (v := .int _ _) rfl rfl rfl rfl rfl HA rfl rfl rfl ?_ ?_); kernel_rfl; clear HA; intro W_ HA; dsimp only [List.set, List.take, List.cons_append, List.nil_append] at HA))
  refine bodyPost_ret (results_ct rfl _ _ g4 34 #[.int .i64 0, .int .i64 0, .slice none 0 0] (0, 0) _ rfl (HA.at (i := 0) rfl) Try.underlying34 rfl (by kernel_rfl)) rfl ?_
  exact ⟨_, left - 1, cs.length, cellsF cs, rfl, (fun h => absurd (show (4 : Int) = 0 from h) (by decide)), HA.sub (List.sublist_cons_self _ _), hk_leaf _ _ _ _ _⟩
set_option maxHeartbeats 8000000 in
set_option maxRecDepth 100000 in
theorem H_take.odd (m : List Int) (hm : m.length ≤ 1000000 ∧ ∀ x ∈ m, 0 ≤ x ∧ x < 4294967296) (A0 : Option Addr) (c0 : Nat) (hc0 : m.length ≤ c0) (left : Int) (cs : List Int) (x : Int) (W : World) (gt gm : Nat) (hl1 : 1 ≤ left) (hcb : (cs.length : Int) + left ≤ 100000) (hx0 : 0 ≤ x) (hx1 : x < 4294967296) (hr : (∀ W', Kp (inL [(gt, Blk.c 63 []), (gm, Blk.c 63 [])]) W W' → Kd.C (Kd.int .u32) W' A0 m.length m)) (HA : Aw (inL [(gt, Blk.c 63 []), (gm, Blk.c 63 [])]) W W [hkT gt gm A0 m.length c0 left, hkM gm cs.length (cellsF cs)]) (h2 : x % 2 = 1) :
    Calls Try.prog 35 #[.pointer (some ⟨gt, 0, none⟩), .int .u32 x] W (HkPost A0 m.length c0 gt gm W ((⟨1, unb x, []⟩, 0), (left - 1, cs))) := by
  unfold hkT at HA
  have HR := Aside0.mk hr
  have c1 : decide (left - 1 < 0) = false := decide_eq_false (by omega)
  have s0 : IntKind.i64.wrap (left - 1) = left - 1 := IntWalk.i64_in _ (by omega)
  have HII := Aside0.mk (isInt_eq x hx0 hx1)
  rw [show (x % 2 == 1) = true from beq_iff_eq.mpr h2] at HII
  have HUB := Aside0.mk (numUnbox_eq x hx0 hx1)
  clear h2
  go_enter Try.func35, Try.ntmps35
  go_wp2_with (first | ((with_reducible refine gate_dst (N := 4) rfl ?_); refine aw_alloc rfl rfl hv_zero HA ?_; clear HA; intro g4 W_ HA; simp only [Act.put, List.setIfInBounds_toArray, List.set_cons_succ, List.set_cons_zero]) | (go_at_call 50; refine (num_IsInt.calls x _ _ HII.out).mono ?_; rintro e W_ ⟨rfl, hd_⟩; replace HA := HA.drewN0 hd_; clear hd_) | (go_at_call 51; refine (num_Unbox.calls x _ _ HUB.out).mono ?_; rintro e W_ ⟨rfl, hd_⟩; replace HA := HA.drewN0 hd_; clear hd_) | ((with_reducible refine gate_ld rfl ?_); (first | refine aw_load 0 rfl rfl HA rfl rfl rfl ?_ ?_ | refine aw_load 1 rfl rfl HA rfl rfl rfl ?_ ?_ | refine aw_load 2 rfl rfl HA rfl rfl rfl ?_ ?_ | refine aw_load 3 rfl rfl HA rfl rfl rfl ?_ ?_); kernel_rfl; simp only [Act.put, List.setIfInBounds_toArray, List.set_cons_succ, List.set_cons_zero]) | ((with_reducible refine gate_st rfl ?_); (first | refine aw_storeW 0 (t := 34) rfl rfl rfl rfl HA rfl rfl rfl ?_ rfl ?_ | refine aw_storeW 1 (t := 34) rfl rfl rfl rfl HA rfl rfl rfl ?_ rfl ?_ | refine aw_storeW 2 (t := 34) rfl rfl rfl rfl HA rfl rfl rfl ?_ rfl ?_ | refine aw_storeW 3 (t := 34) rfl rfl rfl rfl HA rfl rfl rfl ?_ rfl ?_ | refine aw_store 0 (v := .int _ _) rfl rfl rfl rfl rfl HA rfl rfl rfl ?_ ?_ | refine aw_store 1 (v := .int _ _) rfl rfl rfl rfl rfl HA rfl rfl rfl ?_ ?_ | refine aw_store 2 (v := .int _ _) rfl rfl rfl rfl rfl HA rfl rfl rfl ?_ ?_ | refine aw_store 3 (v := .int _ _) rfl rfl rfl rfl rfl HA rfl rfl rfl ?_ ?_); kernel_rfl; clear HA; intro W_ HA; dsimp only [List.set, List.take, List.cons_append, List.nil_append] at HA))
  refine bodyPost_ret (results_ct rfl _ _ g4 34 #[.int .i64 1, .int .i64 (unb x), .slice none 0 0] (0, 0) _ rfl (HA.at (i := 0) rfl) Try.underlying34 rfl (by kernel_rfl)) rfl ?_
  exact ⟨_, left - 1, cs.length, cellsF cs, rfl, fun _ => ⟨rfl, rfl, rfl⟩, HA.sub (List.sublist_cons_self _ _), hk_leaf _ _ _ _ _⟩
set_option maxHeartbeats 8000000 in
set_option maxRecDepth 100000 in
theorem H_take.no (m : List Int) (hm : m.length ≤ 1000000 ∧ ∀ x ∈ m, 0 ≤ x ∧ x < 4294967296) (A0 : Option Addr) (c0 : Nat) (hc0 : m.length ≤ c0) (left : Int) (cs : List Int) (x : Int) (W : World) (gt gm : Nat) (hl1 : 1 ≤ left) (hcb : (cs.length : Int) + left ≤ 100000) (hx0 : 0 ≤ x) (hx1 : x < 4294967296) (hr : (∀ W', Kp (inL [(gt, Blk.c 63 []), (gm, Blk.c 63 [])]) W W' → Kd.C (Kd.int .u32) W' A0 m.length m)) (HA : Aw (inL [(gt, Blk.c 63 []), (gm, Blk.c 63 [])]) W W [hkT gt gm A0 m.length c0 left, hkM gm cs.length (cellsF cs)]) (h2 : ¬ x % 2 = 1) (h4 : x % 4 ≠ 0 ∨ blkB m (x / 4) = false) :
    Calls Try.prog 35 #[.pointer (some ⟨gt, 0, none⟩), .int .u32 x] W (HkPost A0 m.length c0 gt gm W ((zV, 22), (left - 1, cs))) := by
  unfold hkT at HA
  have HR := Aside0.mk hr
  have c1 : decide (left - 1 < 0) = false := decide_eq_false (by omega)
  have s0 : IntKind.i64.wrap (left - 1) = left - 1 := IntWalk.i64_in _ (by omega)
  have HII := Aside0.mk (isInt_eq x hx0 hx1)
  rw [show (x % 2 == 1) = false from beq_eq_false_iff_ne.mpr h2] at HII
  have HST : Aside0 (∀ W', Kp (inL [(gt, Blk.c 63 []), (gm, Blk.c 63 [])]) W W' → Calls Try.prog 37 #[.slice A0 m.length c0, .int .u32 x] W' fun e W2 => e = .returned (.tuple #[.int .i64 0, .int .i64 0, .slice none 0 0, .bool false]) ∧ Below W'.heap.size W' W2) := ⟨fun W' hk => stands.no m hm A0 c0 hc0 x hx0 hx1 W' (HR.out W' hk) h4⟩
  clear h2 h4
  go_enter Try.func35, Try.ntmps35
  go_wp2_with (first | ((with_reducible refine gate_dst (N := 4) rfl ?_); refine aw_alloc rfl rfl hv_zero HA ?_; clear HA; intro g4 W_ HA; simp only [Act.put, List.setIfInBounds_toArray, List.set_cons_succ, List.set_cons_zero]) | (go_at_call 50; refine (num_IsInt.calls x _ _ HII.out).mono ?_; rintro e W_ ⟨rfl, hd_⟩; replace HA := HA.drewN0 hd_; clear hd_) | (go_at_call 37; refine (HST.out _ HA.1).mono ?_; rintro e W_ ⟨rfl, hb_⟩; replace HA := HA.call hb_; clear hb_) | ((with_reducible refine gate_ld rfl ?_); (first | refine aw_load 0 rfl rfl HA rfl rfl rfl ?_ ?_ | refine aw_load 1 rfl rfl HA rfl rfl rfl ?_ ?_ | refine aw_load 2 rfl rfl HA rfl rfl rfl ?_ ?_ | refine aw_load 3 rfl rfl HA rfl rfl rfl ?_ ?_); kernel_rfl; simp only [Act.put, List.setIfInBounds_toArray, List.set_cons_succ, List.set_cons_zero]) | ((with_reducible refine gate_st rfl ?_); (first | refine aw_storeW 0 (t := 34) rfl rfl rfl rfl HA rfl rfl rfl ?_ rfl ?_ | refine aw_storeW 1 (t := 34) rfl rfl rfl rfl HA rfl rfl rfl ?_ rfl ?_ | refine aw_storeW 2 (t := 34) rfl rfl rfl rfl HA rfl rfl rfl ?_ rfl ?_ | refine aw_storeW 3 (t := 34) rfl rfl rfl rfl HA rfl rfl rfl ?_ rfl ?_ | refine aw_store 0 (v := .int _ _) rfl rfl rfl rfl rfl HA rfl rfl rfl ?_ ?_ | refine aw_store 1 (v := .int _ _) rfl rfl rfl rfl rfl HA rfl rfl rfl ?_ ?_ | refine aw_store 2 (v := .int _ _) rfl rfl rfl rfl rfl HA rfl rfl rfl ?_ ?_ | refine aw_store 3 (v := .int _ _) rfl rfl rfl rfl rfl HA rfl rfl rfl ?_ ?_); kernel_rfl; clear HA; intro W_ HA; dsimp only [List.set, List.take, List.cons_append, List.nil_append] at HA))
  refine bodyPost_ret (results_ct rfl _ _ g4 34 #[.int .i64 0, .int .i64 0, .slice none 0 0] (0, 0) _ rfl (HA.at (i := 0) rfl) Try.underlying34 rfl (by kernel_rfl)) rfl ?_
  exact ⟨_, left - 1, cs.length, cellsF cs, rfl, fun _ => ⟨rfl, rfl, rfl⟩, HA.sub (List.sublist_cons_self _ _), hk_leaf _ _ _ _ _⟩
set_option maxHeartbeats 8000000 in
set_option maxRecDepth 100000 in
theorem H_take.old (m : List Int) (hm : m.length ≤ 1000000 ∧ ∀ x ∈ m, 0 ≤ x ∧ x < 4294967296) (A0 : Option Addr) (c0 : Nat) (hc0 : m.length ≤ c0) (left : Int) (cs : List Int) (x : Int) (W : World) (gt gm : Nat) (hl1 : 1 ≤ left) (hcb : (cs.length : Int) + left ≤ 100000) (hx0 : 0 ≤ x) (hx1 : x < 4294967296) (hr : (∀ W', Kp (inL [(gt, Blk.c 63 []), (gm, Blk.c 63 [])]) W W' → Kd.C (Kd.int .u32) W' A0 m.length m)) (HA : Aw (inL [(gt, Blk.c 63 []), (gm, Blk.c 63 [])]) W W [hkT gt gm A0 m.length c0 left, hkM gm cs.length (cellsF cs)]) (h2 : ¬ x % 2 = 1) (h4 : x % 4 = 0) (hb : blkB m (x / 4) = true) (hk2 : (splV (rd m (x / 4))).1 = 2) (j : Nat) (hj : cs.findIdx? (fun a => a == x / 4) = some j) :
    Calls Try.prog 35 #[.pointer (some ⟨gt, 0, none⟩), .int .u32 x] W (HkPost A0 m.length c0 gt gm W ((⟨4, (cellV cs (x / 4)).1, []⟩, 0), (left - 1, (cellV cs (x / 4)).2))) := by
  unfold hkT at HA
  have HR := Aside0.mk hr
  have c1 : decide (left - 1 < 0) = false := decide_eq_false (by omega)
  have s0 : IntKind.i64.wrap (left - 1) = left - 1 := IntWalk.i64_in _ (by omega)
  have HII := Aside0.mk (isInt_eq x hx0 hx1)
  rw [show (x % 2 == 1) = false from beq_eq_false_iff_ne.mpr h2] at HII
  have ha := blkB_in' hb
  have hxw := hm.2 _ (rd_memT (l := m) (i := x / 4) ha.1 ha.2.1)
  have hsz := splV_size hxw.1 hxw.2
  obtain ⟨ad, had, _⟩ := Kd.at_int (HR.out _ (Kp.refl _ _)) (x / 4) ha.1 ha.2.1
  subst had
  have HST : Aside0 (∀ W', Kp (inL [(gt, Blk.c 63 []), (gm, Blk.c 63 [])]) W W' → Calls Try.prog 37 #[.slice (some ad) m.length c0, .int .u32 x] W' fun e W2 => e = .returned (.tuple #[.int .i64 (splV (rd m (x / 4))).1, .int .i64 (splV (rd m (x / 4))).2.1, .slice (some (ad.add (x / 4 + 1).toNat)) (splV (rd m (x / 4))).2.2.1.toNat (c0 - (x / 4 + 1).toNat), .bool true]) ∧ Below W'.heap.size W' W2) := ⟨fun W' hk => (stands.yea m hm (some ad) c0 hc0 x hx0 hx1 W' (HR.out W' hk) h4 hb).mono (by rintro e W2 ⟨⟨ad_, had_, he_⟩, hb_⟩; cases had_; exact ⟨he_, hb_⟩)⟩
  obtain ⟨s1, hs1⟩ : ∃ y, (splV (rd m (x / 4))).1 = y := ⟨_, rfl⟩
  obtain ⟨s2, hs2⟩ : ∃ y, (splV (rd m (x / 4))).2.1 = y := ⟨_, rfl⟩
  obtain ⟨s3, hs3⟩ : ∃ y, (splV (rd m (x / 4))).2.2.1 = y := ⟨_, rfl⟩
  rw [hs1, hs2, hs3] at HST
  have hv : cellsF cs (.int .u32 x) = some (j : Int) := by rw [cellsF_at cs h4, hj]; rfl
  have hv2 : (cellsF cs (.int .u32 x)).getD 0 = (j : Int) := by rw [hv]; rfl
  have hcv : cellV cs (x / 4) = ((j : Int), cs) := by unfold cellV; rw [hj]
  rw [hcv]
  dsimp only
  rw [hs1] at hk2
  subst hk2
  have hkx := hk_key hx0 hx1
  clear h2 h4 hb ha hxw hsz hs1
  clear hj hcv
  go_enter Try.func35, Try.ntmps35
  go_wp2_with (first | ((with_reducible refine gate_dst (N := 4) rfl ?_); refine aw_alloc rfl rfl hv_zero HA ?_; clear HA; intro g4 W_ HA; simp only [Act.put, List.setIfInBounds_toArray, List.set_cons_succ, List.set_cons_zero]) | (go_at_call 50; refine (num_IsInt.calls x _ _ HII.out).mono ?_; rintro e W_ ⟨rfl, hd_⟩; replace HA := HA.drewN0 hd_; clear hd_) | (go_at_call 37; refine (HST.out _ HA.1).mono ?_; rintro e W_ ⟨rfl, hb_⟩; replace HA := HA.call hb_; clear hb_) | ((with_reducible refine gate_dst (N := 70) rfl ?_); refine aw_lookup_ok 3 (f := cellsF cs) (kl := .int .u32 x) hk_keyed hk_mu hk_iu hk_zero rfl rfl rfl rfl HA rfl hkx hv ?_; simp only [Act.put, List.setIfInBounds_toArray, List.set_cons_succ, List.set_cons_zero]) | ((with_reducible refine gate_dst (N := 90) rfl ?_); refine aw_lookup 3 (f := cellsF cs) (kl := .int .u32 x) hk_keyed hk_mu hk_iu hk_zero rfl rfl rfl rfl HA rfl hkx hv2 ?_; simp only [Act.put, List.setIfInBounds_toArray, List.set_cons_succ, List.set_cons_zero]) | ((with_reducible refine gate_dst (N := 10) rfl ?_); refine aw_alloc rfl rfl hv_zero HA ?_; clear HA; intro gv W_ HA; simp only [Act.put, List.setIfInBounds_toArray, List.set_cons_succ, List.set_cons_zero]) | ((with_reducible refine gate_ld rfl ?_); (first | refine aw_load 0 rfl rfl HA rfl rfl rfl ?_ ?_ | refine aw_load 1 rfl rfl HA rfl rfl rfl ?_ ?_ | refine aw_load 2 rfl rfl HA rfl rfl rfl ?_ ?_ | refine aw_load 3 rfl rfl HA rfl rfl rfl ?_ ?_); kernel_rfl; simp only [Act.put, List.setIfInBounds_toArray, List.set_cons_succ, List.set_cons_zero]) | ((with_reducible refine gate_st rfl ?_); (first | refine aw_storeW 0 (t := 34) rfl rfl rfl rfl HA rfl rfl rfl ?_ rfl ?_ | refine aw_storeW 1 (t := 34) rfl rfl rfl rfl HA rfl rfl rfl ?_ rfl ?_ | refine aw_storeW 2 (t := 34) rfl rfl rfl rfl HA rfl rfl rfl ?_ rfl ?_ | refine aw_storeW 3 (t := 34) rfl rfl rfl rfl HA rfl rfl rfl ?_ rfl ?_ | refine aw_store 0 (v := .int _ _) rfl rfl rfl rfl rfl HA rfl rfl rfl ?_ ?_ | refine aw_store 1 (v := .int _ _) rfl rfl rfl rfl rfl HA rfl rfl rfl ?_ ?_ | refine aw_store 2 (v := .int _ _) rfl rfl rfl rfl rfl HA rfl rfl rfl ?_ ?_ | refine aw_store 3 (v := .int _ _) rfl rfl rfl rfl rfl HA rfl rfl rfl ?_ ?_); kernel_rfl; clear HA; intro W_ HA; dsimp only [List.set, List.take, List.cons_append, List.nil_append] at HA))
  refine bodyPost_ret (results_ct rfl _ _ g4 34 #[.int .i64 4, .int .i64 (j : Int), .slice none 0 0] (0, 0) _ rfl (HA.at (i := 1) rfl) Try.underlying34 rfl (by kernel_rfl)) rfl ?_
  exact ⟨_, left - 1, cs.length, cellsF cs, rfl, fun _ => ⟨rfl, rfl, rfl⟩, HA.sub (.cons _ (List.sublist_cons_self _ _)), hk_leaf _ _ _ _ _⟩
set_option maxHeartbeats 8000000 in
set_option maxRecDepth 100000 in
theorem H_take.new (m : List Int) (hm : m.length ≤ 1000000 ∧ ∀ x ∈ m, 0 ≤ x ∧ x < 4294967296) (A0 : Option Addr) (c0 : Nat) (hc0 : m.length ≤ c0) (left : Int) (cs : List Int) (x : Int) (W : World) (gt gm : Nat) (hl1 : 1 ≤ left) (hcb : (cs.length : Int) + left ≤ 100000) (hx0 : 0 ≤ x) (hx1 : x < 4294967296) (hr : (∀ W', Kp (inL [(gt, Blk.c 63 []), (gm, Blk.c 63 [])]) W W' → Kd.C (Kd.int .u32) W' A0 m.length m)) (HA : Aw (inL [(gt, Blk.c 63 []), (gm, Blk.c 63 [])]) W W [hkT gt gm A0 m.length c0 left, hkM gm cs.length (cellsF cs)]) (h2 : ¬ x % 2 = 1) (h4 : x % 4 = 0) (hb : blkB m (x / 4) = true) (hk2 : (splV (rd m (x / 4))).1 = 2) (hj : cs.findIdx? (fun a => a == x / 4) = none) :
    Calls Try.prog 35 #[.pointer (some ⟨gt, 0, none⟩), .int .u32 x] W (HkPost A0 m.length c0 gt gm W ((⟨4, (cellV cs (x / 4)).1, []⟩, 0), (left - 1, (cellV cs (x / 4)).2))) := by
  unfold hkT at HA
  have HR := Aside0.mk hr
  have c1 : decide (left - 1 < 0) = false := decide_eq_false (by omega)
  have s0 : IntKind.i64.wrap (left - 1) = left - 1 := IntWalk.i64_in _ (by omega)
  have HII := Aside0.mk (isInt_eq x hx0 hx1)
  rw [show (x % 2 == 1) = false from beq_eq_false_iff_ne.mpr h2] at HII
  have ha := blkB_in' hb
  have hxw := hm.2 _ (rd_memT (l := m) (i := x / 4) ha.1 ha.2.1)
  have hsz := splV_size hxw.1 hxw.2
  obtain ⟨ad, had, _⟩ := Kd.at_int (HR.out _ (Kp.refl _ _)) (x / 4) ha.1 ha.2.1
  subst had
  have HST : Aside0 (∀ W', Kp (inL [(gt, Blk.c 63 []), (gm, Blk.c 63 [])]) W W' → Calls Try.prog 37 #[.slice (some ad) m.length c0, .int .u32 x] W' fun e W2 => e = .returned (.tuple #[.int .i64 (splV (rd m (x / 4))).1, .int .i64 (splV (rd m (x / 4))).2.1, .slice (some (ad.add (x / 4 + 1).toNat)) (splV (rd m (x / 4))).2.2.1.toNat (c0 - (x / 4 + 1).toNat), .bool true]) ∧ Below W'.heap.size W' W2) := ⟨fun W' hk => (stands.yea m hm (some ad) c0 hc0 x hx0 hx1 W' (HR.out W' hk) h4 hb).mono (by rintro e W2 ⟨⟨ad_, had_, he_⟩, hb_⟩; cases had_; exact ⟨he_, hb_⟩)⟩
  obtain ⟨s1, hs1⟩ : ∃ y, (splV (rd m (x / 4))).1 = y := ⟨_, rfl⟩
  obtain ⟨s2, hs2⟩ : ∃ y, (splV (rd m (x / 4))).2.1 = y := ⟨_, rfl⟩
  obtain ⟨s3, hs3⟩ : ∃ y, (splV (rd m (x / 4))).2.2.1 = y := ⟨_, rfl⟩
  rw [hs1, hs2, hs3] at HST
  have hv : cellsF cs (.int .u32 x) = none := by rw [cellsF_at cs h4, hj]; rfl
  have hcv : cellV cs (x / 4) = ((cs.length : Int), cs ++ [x / 4]) := by unfold cellV; rw [hj]
  rw [hcv]
  dsimp only
  have HPUT := Aside0.mk (cellsF_put cs h4 hj)
  have hv2 : (cellsF (cs ++ [x / 4]) (.int .u32 x)).getD 0 = (cs.length : Int) := by rw [cellsF_at _ h4, List.findIdx?_append, hj]; simp
  rw [hs1] at hk2
  subst hk2
  have hkx := hk_key hx0 hx1
  clear h2 h4 hb ha hxw hsz hs1
  clear hj hcv
  go_enter Try.func35, Try.ntmps35
  go_wp2_with (first | ((with_reducible refine gate_dst (N := 4) rfl ?_); refine aw_alloc rfl rfl hv_zero HA ?_; clear HA; intro g4 W_ HA; simp only [Act.put, List.setIfInBounds_toArray, List.set_cons_succ, List.set_cons_zero]) | (go_at_call 50; refine (num_IsInt.calls x _ _ HII.out).mono ?_; rintro e W_ ⟨rfl, hd_⟩; replace HA := HA.drewN0 hd_; clear hd_) | (go_at_call 37; refine (HST.out _ HA.1).mono ?_; rintro e W_ ⟨rfl, hb_⟩; replace HA := HA.call hb_; clear hb_) | ((with_reducible refine gate_dst (N := 70) rfl ?_); refine aw_lookup_ok 3 (f := cellsF cs) (kl := .int .u32 x) hk_keyed hk_mu hk_iu hk_zero rfl rfl rfl rfl HA rfl hkx hv ?_; simp only [Act.put, List.setIfInBounds_toArray, List.set_cons_succ, List.set_cons_zero]) | ((with_reducible refine gate_dst (N := 10) rfl ?_); refine aw_alloc rfl rfl hv_zero HA ?_; clear HA; intro gv W_ HA; simp only [Act.put, List.setIfInBounds_toArray, List.set_cons_succ, List.set_cons_zero]) | ((with_reducible refine gate_ld rfl ?_); (first | refine aw_load 0 rfl rfl HA rfl rfl rfl ?_ ?_ | refine aw_load 1 rfl rfl HA rfl rfl rfl ?_ ?_ | refine aw_load 2 rfl rfl HA rfl rfl rfl ?_ ?_ | refine aw_load 3 rfl rfl HA rfl rfl rfl ?_ ?_); kernel_rfl; simp only [Act.put, List.setIfInBounds_toArray, List.set_cons_succ, List.set_cons_zero]) | ((with_reducible refine gate_st rfl ?_); (first | refine aw_storeW 0 (t := 34) rfl rfl rfl rfl HA rfl rfl rfl ?_ rfl ?_ | refine aw_storeW 1 (t := 34) rfl rfl rfl rfl HA rfl rfl rfl ?_ rfl ?_ | refine aw_storeW 2 (t := 34) rfl rfl rfl rfl HA rfl rfl rfl ?_ rfl ?_ | refine aw_storeW 3 (t := 34) rfl rfl rfl rfl HA rfl rfl rfl ?_ rfl ?_ | refine aw_store 0 (v := .int _ _) rfl rfl rfl rfl rfl HA rfl rfl rfl ?_ ?_ | refine aw_store 1 (v := .int _ _) rfl rfl rfl rfl rfl HA rfl rfl rfl ?_ ?_ | refine aw_store 2 (v := .int _ _) rfl rfl rfl rfl rfl HA rfl rfl rfl ?_ ?_ | refine aw_store 3 (v := .int _ _) rfl rfl rfl rfl rfl HA rfl rfl rfl ?_ ?_); kernel_rfl; clear HA; intro W_ HA; dsimp only [List.set, List.take, List.cons_append, List.nil_append] at HA))
  have hx2 := HA.drew.cell (i := 2) (j := 2) rfl rfl
  have hlen := HA.drew.len_run 3 hk_mu 3 rfl
  obtain ⟨W9, hrun, HA9⟩ := HA.drew.mapput_run 3 (v := (cs.length : Int)) hk_keyed hk_mu hk_iu rfl hkx (hk_iwf (by omega) (by omega)) (by unfold maxLen; omega)
  rw [hv] at HA9
  dsimp only [Option.isSome, List.set] at HA9
  rw [HPUT.out] at HA9
  go_region
  clear HA hx2 hlen hrun
  have HA := HA9
  clear HA9
  go_wp2_with (first | ((with_reducible refine gate_dst (N := 90) rfl ?_); refine aw_lookup 3 (f := cellsF (cs ++ [x / 4])) (kl := .int .u32 x) hk_keyed hk_mu hk_iu hk_zero rfl rfl rfl rfl HA rfl hkx hv2 ?_; simp only [Act.put, List.setIfInBounds_toArray, List.set_cons_succ, List.set_cons_zero]) | ((with_reducible refine gate_ld rfl ?_); (first | refine aw_load 0 rfl rfl HA rfl rfl rfl ?_ ?_ | refine aw_load 1 rfl rfl HA rfl rfl rfl ?_ ?_ | refine aw_load 2 rfl rfl HA rfl rfl rfl ?_ ?_ | refine aw_load 3 rfl rfl HA rfl rfl rfl ?_ ?_); kernel_rfl; simp only [Act.put, List.setIfInBounds_toArray, List.set_cons_succ, List.set_cons_zero]) | ((with_reducible refine gate_st rfl ?_); (first | refine aw_storeW 0 (t := 34) rfl rfl rfl rfl HA rfl rfl rfl ?_ rfl ?_ | refine aw_storeW 1 (t := 34) rfl rfl rfl rfl HA rfl rfl rfl ?_ rfl ?_ | refine aw_storeW 2 (t := 34) rfl rfl rfl rfl HA rfl rfl rfl ?_ rfl ?_ | refine aw_storeW 3 (t := 34) rfl rfl rfl rfl HA rfl rfl rfl ?_ rfl ?_ | refine aw_store 0 (v := .int _ _) rfl rfl rfl rfl rfl HA rfl rfl rfl ?_ ?_ | refine aw_store 1 (v := .int _ _) rfl rfl rfl rfl rfl HA rfl rfl rfl ?_ ?_ | refine aw_store 2 (v := .int _ _) rfl rfl rfl rfl rfl HA rfl rfl rfl ?_ ?_ | refine aw_store 3 (v := .int _ _) rfl rfl rfl rfl rfl HA rfl rfl rfl ?_ ?_); kernel_rfl; clear HA; intro W_ HA; dsimp only [List.set, List.take, List.cons_append, List.nil_append] at HA))
  refine bodyPost_ret (results_ct rfl _ _ g4 34 #[.int .i64 4, .int .i64 (cs.length : Int), .slice none 0 0] (0, 0) _ rfl (HA.at (i := 1) rfl) Try.underlying34 rfl (by kernel_rfl)) rfl ?_
  refine ⟨_, left - 1, cs.length + 1, cellsF (cs ++ [x / 4]), rfl, fun _ => ⟨rfl, by simp, rfl⟩, HA.sub (.cons _ (List.sublist_cons_self _ _)), hk_leaf _ _ _ _ _⟩
theorem hk_split {y b1 b2 : Nat × Blk} {Lc Lk : List (Nat × Blk)} : (b1 :: b2 :: y :: (Lc ++ Lk)).Perm ((y :: Lc) ++ (b1 :: b2 :: Lk)) := by
  have h1 : (b1 :: b2 :: y :: (Lc ++ Lk)).Perm (((y :: Lc) ++ Lk) ++ [b1, b2]) := List.perm_append_comm (l₁ := [b1, b2]) (l₂ := (y :: Lc) ++ Lk)
  refine h1.trans ?_
  rw [List.append_assoc]
  exact List.Perm.append_left _ (List.perm_append_comm (l₁ := Lk) (l₂ := [b1, b2]))
theorem hk_inL {L L' : List (Nat × Blk)} (h : L.Perm L') (g : Nat) : inL L g ↔ inL L' g := (h.map (·.1)).mem_iff
theorem hk_off {α : Type} {d : Kd α} {W : World} {b : Nat} {L L' : List (Nat × Blk)} {x : α} {cs : List Value} (h : d.M W b (offL L) x cs) (hp : L.Perm L') : d.M W b (offL L') x cs := d.M_mono (fun k hk hi => hk ((hk_inL hp k).2 hi)) h
theorem hk_snoc {R : S34 → List Value → Prop} {acc : List S34} {inner c : List Value} {x : S34} (h : Reps R 3 acc inner) (hx : R x c) (hc : c.length = 3) : Reps R 3 (acc ++ [x]) (inner ++ c) := h.snoc hx hc
theorem hk_join {S : Nat → Prop} {w W1 W' : World} {L2 L3 : List (Nat × Blk)} (HP : Aw S w W1 L2) (HA : Aw (inL L2) W1 W' L3) : Aw S w W' L3 := by
  have h := Aw.frame (R := []) (by rw [List.append_nil]; exact HP) HA
  rwa [List.append_nil] at h
theorem hv_info : (Try.prog.info? 34).map (fun i => (i.zero, i.size, i.bytes)) = some (some (.agg #[.int .i64 0, .int .i64 0, .slice none 0 0]), 3, 40) := by kernel_rfl
theorem hk_top {S : Nat → Prop} {w W : World} {y b1 b2 : Nat × Blk} {vk : Value} {Lc Lk : List (Nat × Blk)} {acc : List S34} {inner : List Value} {b : Nat} {f0 f1 : Int} (HA : Aw S w W (b1 :: b2 :: y :: (Lc ++ Lk))) (hown : Own 34 3 vk acc.length inner Lk) (hfr : ∀ y ∈ Lk, b ≤ y.1)
    (htr : Reps (k34.M W b (offL (b1 :: b2 :: y :: (Lc ++ Lk)))) 3 acc inner) : k34.M W b (offL (y :: Lc)) (⟨f0, f1, acc⟩ : S34) [.int .i64 f0, .int .i64 f1, vk] := by
  refine k34_mkM W b _ ⟨f0, f1, acc⟩ ⟨fun k hk hi => ?_, inner, hown.rowAt HA (fun y hy => by simp [hy]) hfr, reps_imp htr (fun p c hp => k34.M_mono (fun k hk => ⟨fun hi => hk ?_, fun he => hk ?_⟩) hp)⟩
  · obtain ⟨_, ⟨rfl, _, _⟩ | ⟨g, cap, rfl, _, rfl⟩⟩ := hown
    · cases hk
    · have e : g = k := by simpa [Value.ownBlock] using hk
      subst e
      have hd := (HA.perm hk_split).2.2
      rw [List.map_append, List.nodup_append] at hd
      exact hd.2.2 g hi g (by simp) rfl
  · exact (hk_inL hk_split k).2 (by
      obtain ⟨y, hy, he⟩ := List.mem_map.1 hi
      exact List.mem_map.2 ⟨y, List.mem_append_left _ hy, he⟩)
  · obtain ⟨_, ⟨rfl, _, _⟩ | ⟨g, cap, rfl, _, rfl⟩⟩ := hown
    · cases he
    · have e : k = g := by simpa [Value.ownBlock] using he
      subst e
      simp
theorem hk_form {W : World} {b : Nat} {ok : Nat → Prop} {x : S34} {a c vq : Value} (h : k34.M W b ok x [a, c, vq]) : ∃ A n, vq = .slice A x.f2.length n ∧ True := by
  obtain ⟨v2, e, hR⟩ := k34_openM h
  obtain ⟨A, n, e2⟩ := Kd.R_slice hR
  have e3 : vq = v2 := by
    have := congrArg (fun l => l[2]?) e
    simpa using this
  exact ⟨A, n, e3.trans e2, trivial⟩
theorem kidsOf_lenH (m : List Int) (a : Int) (h0 : 0 ≤ a) (h1 : a + (splV (rd m a)).2.2.1 < (m.length : Int)) (h2 : 1 ≤ (splV (rd m a)).2.2.1) : ((kidsOf m a).length : Int) = a + (splV (rd m a)).2.2.1 + 1 - kidsFrom m a := by
  unfold kidsOf
  rw [List.length_take, List.length_drop]
  unfold kidsFrom
  split <;> omega
theorem kidsOf_atH (m : List Int) (a : Int) (h0 : 0 ≤ a) (h1 : a + (splV (rd m a)).2.2.1 < (m.length : Int)) (h2 : 1 ≤ (splV (rd m a)).2.2.1) (k : Nat) (hk : k < (kidsOf m a).length) : (kidsOf m a).drop k = rd m (kidsFrom m a + k) :: (kidsOf m a).drop (k + 1) := by
  rw [List.drop_eq_getElem_cons hk]
  congr 1
  have hl := kidsOf_lenH m a h0 h1 h2
  have hf : a + 1 ≤ kidsFrom m a := by unfold kidsFrom; split <;> omega
  have hi : (kidsFrom m a + k).toNat < m.length := by omega
  have e : (kidsOf m a)[k]? = m[(kidsFrom m a + k).toNat]? := by
    have hk2 := hk
    unfold kidsOf at hk2 ⊢
    rw [List.length_take, List.length_drop] at hk2
    rw [List.getElem?_take_of_lt (by omega), List.getElem?_drop]
    congr 1
    omega
  rw [List.getElem?_eq_getElem hk, List.getElem?_eq_getElem hi] at e
  unfold rd
  rw [List.getD_eq_getElem?_getD, List.getElem?_eq_getElem hi, Option.getD_some]
  exact Option.some.inj e
theorem hk_sub {W : World} {b1 b2 : Nat × Blk} {gt gm : Nat} {x1 x2 y1 y2 : Blk} {Lk : List (Nat × Blk)} : ∀ g, inL [(gt, x1), (gm, x2)] g → inL (b1 :: b2 :: (gt, y1) :: (gm, y2) :: Lk) g := fun g h => by
  obtain ⟨y, hy, he⟩ := List.mem_map.1 h
  rcases List.mem_cons.1 hy with rfl | hy
  · exact List.mem_map.2 ⟨(gt, y1), by simp, he⟩
  · obtain rfl := List.mem_singleton.1 hy
    exact List.mem_map.2 ⟨(gm, y2), by simp, he⟩
set_option maxHeartbeats 8000000 in
set_option maxRecDepth 100000 in
theorem H_take.kids0 (m : List Int) (hm : m.length ≤ 1000000 ∧ ∀ x ∈ m, 0 ≤ x ∧ x < 4294967296) (A0 : Option Addr) (c0 : Nat) (hc0 : m.length ≤ c0) (n : Nat) (hIH : ∀ (left : Int) (cs : List Int) (x : Int) (W : World) (gt gm : Nat), left ≤ n → 0 ≤ left → (cs.length : Int) + left ≤ 100000 → 0 ≤ x → x < 4294967296 → (∀ W', Kp (inL [(gt, Blk.c 63 []), (gm, Blk.c 63 [])]) W W' → Kd.C (Kd.int .u32) W' A0 m.length m) → Aw (inL [(gt, Blk.c 63 []), (gm, Blk.c 63 [])]) W W [hkT gt gm A0 m.length c0 left, hkM gm cs.length (cellsF cs)] → Calls Try.prog 35 #[.pointer (some ⟨gt, 0, none⟩), .int .u32 x] W (HkPost A0 m.length c0 gt gm W (takeV m n (left, cs) x)))
    (left : Int) (cs : List Int) (x : Int) (W : World) (gt gm : Nat) (hl1 : 1 ≤ left) (hcb : (cs.length : Int) + left ≤ 100000) (hx0 : 0 ≤ x) (hx1 : x < 4294967296) (hr : (∀ W', Kp (inL [(gt, Blk.c 63 []), (gm, Blk.c 63 [])]) W W' → Kd.C (Kd.int .u32) W' A0 m.length m)) (HA : Aw (inL [(gt, Blk.c 63 []), (gm, Blk.c 63 [])]) W W [hkT gt gm A0 m.length c0 left, hkM gm cs.length (cellsF cs)]) (hln : left ≤ n + 1) (h2 : ¬ x % 2 = 1) (h4 : x % 4 = 0) (hb : blkB m (x / 4) = true) (hk2 : (splV (rd m (x / 4))).1 = 0) (res : (List S34 × Int) × (Int × List Int)) (hres : kidsV (takeV m n) (left - 1, cs) (kidsOf m (x / 4)) [] = res) :
    Calls Try.prog 35 #[.pointer (some ⟨gt, 0, none⟩), .int .u32 x] W (HkPost A0 m.length c0 gt gm W (if res.1.2 = 0 then ((⟨(topV m (x / 4)).1, (topV m (x / 4)).2, res.1.1⟩, 0), res.2) else ((zV, res.1.2), res.2))) := by
  unfold hkT at HA
  have HR := Aside0.mk hr
  have c1 : decide (left - 1 < 0) = false := decide_eq_false (by omega)
  have s0 : IntKind.i64.wrap (left - 1) = left - 1 := IntWalk.i64_in _ (by omega)
  have HII := Aside0.mk (isInt_eq x hx0 hx1)
  rw [show (x % 2 == 1) = false from beq_eq_false_iff_ne.mpr h2] at HII
  have ha := blkB_in' hb
  have hxw := hm.2 _ (rd_memT (l := m) (i := x / 4) ha.1 ha.2.1)
  have hsz := splV_size hxw.1 hxw.2
  obtain ⟨ad, had, _⟩ := Kd.at_int (HR.out _ (Kp.refl _ _)) (x / 4) ha.1 ha.2.1
  subst had
  have HST : Aside0 (∀ W', Kp (inL [(gt, Blk.c 63 []), (gm, Blk.c 63 [])]) W W' → Calls Try.prog 37 #[.slice (some ad) m.length c0, .int .u32 x] W' fun e W2 => e = .returned (.tuple #[.int .i64 (splV (rd m (x / 4))).1, .int .i64 (splV (rd m (x / 4))).2.1, .slice (some (ad.add (x / 4 + 1).toNat)) (splV (rd m (x / 4))).2.2.1.toNat (c0 - (x / 4 + 1).toNat), .bool true]) ∧ Below W'.heap.size W' W2) := ⟨fun W' hk => (stands.yea m hm (some ad) c0 hc0 x hx0 hx1 W' (HR.out W' hk) h4 hb).mono (by rintro e W2 ⟨⟨ad_, had_, he_⟩, hb_⟩; cases had_; exact ⟨he_, hb_⟩)⟩
  have HIH := Lib.hid hIH
  clear hIH
  have ha1 := ha.1
  have hsz1 := hsz.2.2.2.2.2.2 ha.2.2.1
  have hsz2 := hsz.2.2.2.2.2.1
  have hKl := kidsOf_lenH m (x / 4) ha1 ha.2.2.2.1 hsz1
  have hKa := kidsOf_atH m (x / 4) ha1 ha.2.2.2.1 hsz1
  have hlast := ha.2.2.2.1
  have hFv : kidsFrom m (x / 4) = (x / 4 + 1) := by unfold kidsFrom; rw [if_neg (by rw [hk2]; decide)]
  have htkv : (topV m (x / 4)).1 = 2 := by unfold topV; rw [if_neg (by rw [hk2]; decide)]
  have htnv : (topV m (x / 4)).2 = (splV (rd m (x / 4))).2.1 := by unfold topV; rw [if_neg (by rw [hk2]; decide)]
  rw [hFv] at hKl hKa
  obtain ⟨s1, hs1⟩ : ∃ y, (splV (rd m (x / 4))).1 = y := ⟨_, rfl⟩
  obtain ⟨s2, hs2⟩ : ∃ y, (splV (rd m (x / 4))).2.1 = y := ⟨_, rfl⟩
  obtain ⟨s3, hs3⟩ : ∃ y, (splV (rd m (x / 4))).2.2.1 = y := ⟨_, rfl⟩
  rw [hs1, hs2, hs3] at HST
  rw [hs2] at htnv
  rw [htkv, htnv]
  rw [hs1] at hk2
  rw [hs3] at hsz1 hsz2 hKl hlast
  obtain ⟨K, hK⟩ : ∃ K, kidsOf m (x / 4) = K := ⟨_, rfl⟩
  rw [hK] at hres hKl hKa
  obtain ⟨N0, hN0⟩ : ∃ N0, s3.toNat = N0 := ⟨_, rfl⟩
  obtain ⟨c9, hc9⟩ : ∃ y, c0 - (x / 4 + 1).toNat = y := ⟨_, rfl⟩
  obtain ⟨AD, hAD⟩ : ∃ y, ad.add (x / 4 + 1).toNat = y := ⟨_, rfl⟩
  rw [hN0, hc9, hAD, hk2] at HST
  have hcell : ∀ W', Kp (inL [(gt, Blk.c 63 []), (gm, Blk.c 63 [])]) W W' → ∀ j : Nat, j < N0 → W'.cell? (AD.add j) = some (.int .u32 (rd m (x / 4 + 1 + j))) := fun W' hk j hj => by
    obtain ⟨ad2, e2, h⟩ := Kd.at_int (HR.out W' hk) (x / 4 + 1 + j) (by omega) (by omega)
    cases e2
    rw [← hAD, add_add, show (x / 4 + 1).toNat + j = (x / 4 + 1 + j).toNat by omega]
    exact h
  have HCE := Lib.hid hcell
  have hNc : N0 ≤ c9 := by omega
  have k1 : ((0 : Int) == 1) = false := by decide
  obtain ⟨N, hN⟩ : ∃ N, K.length = N := ⟨_, rfl⟩
  rw [hN] at hKl hKa
  have hNN : N = N0 := by omega
  have hm1 := hm.1
  have hm2 := hm.2
  have HKA := Lib.hid hKa
  have HM2 := Lib.hid hm2
  have HKN := Lib.hid hN
  obtain ⟨P, HP⟩ : ∃ P : Ending → World → Prop, Aside0 (P = HkPost (some ad) m.length c0 gt gm W (if res.1.2 = 0 then ((⟨2, s2, res.1.1⟩, 0), res.2) else ((zV, res.1.2), res.2))) := ⟨_, ⟨rfl⟩⟩
  rw [← HP.out]
  have HRES := Aside0.mk hres
  clear hres hKa hm hN hm2 hK ha hxw hsz hb h2 h4 hs1 hs2 hs3 hcell htkv htnv hFv hk2 hAD 
  go_enter Try.func35, Try.ntmps35
  go_wp2_with (first | ((with_reducible refine gate_dst (N := 4) rfl ?_); refine aw_alloc rfl rfl hv_zero HA ?_; clear HA; intro g4 W_ HA; simp only [Act.put, List.setIfInBounds_toArray, List.set_cons_succ, List.set_cons_zero]) | ((with_reducible refine gate_dst (N := 10) rfl ?_); refine aw_alloc rfl rfl hv_zero HA ?_; clear HA; intro gv W_ HA; simp only [Act.put, List.setIfInBounds_toArray, List.set_cons_succ, List.set_cons_zero]) | (go_at_call 50; refine (num_IsInt.calls x _ _ HII.out).mono ?_; rintro e W_ ⟨rfl, hd_⟩; replace HA := HA.drewN0 hd_; clear hd_) | (go_at_call 37; refine (HST.out _ HA.1).mono ?_; rintro e W_ ⟨rfl, hb_⟩; replace HA := HA.call hb_; clear hb_) | ((with_reducible refine gate_ld rfl ?_); (first | refine aw_load 0 rfl rfl HA rfl rfl rfl ?_ ?_ | refine aw_load 1 rfl rfl HA rfl rfl rfl ?_ ?_ | refine aw_load 2 rfl rfl HA rfl rfl rfl ?_ ?_ | refine aw_load 3 rfl rfl HA rfl rfl rfl ?_ ?_); kernel_rfl; simp only [Act.put, List.setIfInBounds_toArray, List.set_cons_succ, List.set_cons_zero]) | ((with_reducible refine gate_st rfl ?_); (first | refine aw_storeW 0 (t := 34) rfl rfl rfl rfl HA rfl rfl rfl ?_ rfl ?_ | refine aw_storeW 1 (t := 34) rfl rfl rfl rfl HA rfl rfl rfl ?_ rfl ?_ | refine aw_storeW 2 (t := 34) rfl rfl rfl rfl HA rfl rfl rfl ?_ rfl ?_ | refine aw_storeW 3 (t := 34) rfl rfl rfl rfl HA rfl rfl rfl ?_ rfl ?_ | refine aw_store 0 (v := .int _ _) rfl rfl rfl rfl rfl HA rfl rfl rfl ?_ ?_ | refine aw_store 1 (v := .int _ _) rfl rfl rfl rfl rfl HA rfl rfl rfl ?_ ?_ | refine aw_store 2 (v := .int _ _) rfl rfl rfl rfl rfl HA rfl rfl rfl ?_ ?_ | refine aw_store 3 (v := .int _ _) rfl rfl rfl rfl rfl HA rfl rfl rfl ?_ ?_); kernel_rfl; clear HA; intro W_ HA; dsimp only [List.set, List.take, List.cons_append, List.nil_append] at HA))
  go_loopg [94] N (fun g i wx => ∃ (k : Nat) (lf : Int) (cs1 : List Int) (acc : List S34) (inner : List Value) (vk : Value) (Lk : List (Nat × Blk)), k + g = N ∧ i = .int .i64 k ∧ 0 ≤ lf ∧ lf ≤ n ∧ (cs1.length : Int) + lf ≤ 100000 ∧ acc.length = k ∧ Aside0 (kidsV (takeV m n) (lf, cs1) (K.drop k) acc = res) ∧ Own 34 3 vk k inner Lk ∧ Reps (k34.M wx W.heap.size (offL ((gv, .c 34 [.int .i64 2, .int .i64 s2, vk]) :: (g4, .c 34 [.int .i64 0, .int .i64 0, .slice none 0 0]) :: hkT gt gm (some ad) m.length c0 lf :: hkM gm cs1.length (cellsF cs1) :: Lk))) 3 acc inner ∧ (∀ y ∈ Lk, W.heap.size ≤ y.1) ∧ Aw (inL [(gt, Blk.c 63 []), (gm, Blk.c 63 [])]) W wx ((gv, .c 34 [.int .i64 2, .int .i64 s2, vk]) :: (g4, .c 34 [.int .i64 0, .int .i64 0, .slice none 0 0]) :: hkT gt gm (some ad) m.length c0 lf :: hkM gm cs1.length (cellsF cs1) :: Lk))
  case atStart => exact ⟨0, left - 1, cs, [], [], .slice none 0 0, [], by omega, by simp, by omega, by omega, by omega, rfl, ⟨by rw [List.drop_zero]; exact HRES.out⟩, Own.nil _ _, Reps.none _ _, by simp, HA⟩
  case round =>
    clear HA
    obtain ⟨k, lf, cs1, acc, inner, vk, Lk, hkg, rfl, hlf0, hlf, hcb1, hacc, HKV, hownk, htrees, hfr, HA⟩ := hrel
    have HT0 := Aside0.mk htrees
    have HFR := Aside0.mk hfr
    clear htrees hfr
    by_cases hlt : k < N
    · have ck : decide ((k : Int) < ((N0 : Nat) : Int)) = true := decide_eq_true (by omega)
      have ck2 : decide (k < N0) = true := decide_eq_true (by omega)
      have w4 : IntKind.i64.wrap ((k : Int) + 1) = ((k + 1 : Nat) : Int) := by rw [IntWalk.i64_in _ (by omega)]; omega
      have hxk := HM2.out _ (rd_memT (l := m) (i := (x / 4 + 1) + (k : Int)) (by omega) (by omega))
      have hck := HCE.out _ HA.1 (k) (by omega)
      rw [show x / 4 + 1 + ((k : Nat) : Int) = (x / 4 + 1) + (k : Int) by omega] at hck
      have hkv := HKV.out
      rw [HKA.out k hlt, kidsV] at hkv
      obtain ⟨xk, hxe⟩ : ∃ xk, rd m ((x / 4 + 1) + (k : Int)) = xk := ⟨_, rfl⟩
      rw [hxe] at hxk hck hkv
      have hcall := HIH.out lf cs1 xk wr gt gm hlf hlf0 hcb1 hxk.1 hxk.2 (fun W' hk => HR.out W' (HA.1.trans hk (fun k hk2 => HA.newL k (hk_sub (W := W') k hk2)))) (HA.perm (hk_split (Lc := [_]))).left.givens
      have hok := takeV_ok m n (lf, cs1) xk
      obtain ⟨qq, hqq⟩ : ∃ qq, takeV m n (lf, cs1) xk = qq := ⟨_, rfl⟩
      rw [hqq] at hcall hkv hok
      obtain ⟨⟨⟨kf0, kf1, kfl⟩, ke⟩, lf2, cs2⟩ := qq
      dsimp only at hkv
      unfold stOk at hok
      dsimp only at hok
      have HCALL := Aside0.mk hcall
      have HKV2 := Aside0.mk hkv
      have HOK := Aside0.mk hok
      have HLF := Aside0.mk (And.intro hlf0 (And.intro hlf hcb1))
      clear hcall hkv hok hxe hqq hxk HKV
      by_cases hke : ke = 0
      · have ce : (ke != 0) = false := bne_eq_false_iff_eq.mpr hke
        have hap1 : k + 1 ≤ maxLen := by unfold maxLen; omega
        have hap2 : (k + 1) * 40 ≤ 140737488355328 := by omega
        have HKE := Aside0.mk hke
        clear hke hlf0 hlf hcb1
        go_wp2_with (first | (go_at_call 35; refine HCALL.out.mono ?_; rintro e W1_ ⟨vq, lf3, mn3, mf3, rfl, hst_, hk_, htr⟩; have hq_ := hst_ HKE.out; dsimp only at hq_; rw [hq_.1, hq_.2.1, hq_.2.2] at hk_ htr; clear hst_ hq_; obtain ⟨A9, c9_, e9, _⟩ := hk_form htr; subst e9; have HT1 := Aside0.mk (trees_keep HT0.out hk_.1 (hk_sub (W := W1_)) (fun g h => .inl h)); have HTK := Aside0.mk (k34.M_lower HA.1.size (hk_off (tree_beside (S := fun _ => True) (w := W1_) htr (HA.perm (hk_split (Lc := [_]))).right.lt) (hk_split (Lc := [_])).symm)); have HWS := Aside0.mk (Nat.le_trans HA.1.size hk_.1.size); replace HA := (Aw.frame (HA.perm (hk_split (Lc := [_]))) hk_).perm (hk_split (Lc := [_])).symm; clear hk_ htr; dsimp only [List.cons_append, List.nil_append] at HA; have HP1 := Aside0.mk HA; replace HA := HA.givens; simp only [Act.put, List.setIfInBounds_toArray, List.set_cons_succ, List.set_cons_zero]) | ((with_reducible refine gate_dst (N := 15) rfl ?_); refine aw_alloc rfl rfl hv_zero HA ?_; clear HA; intro gx W_ HA; simp only [Act.put, List.setIfInBounds_toArray, List.set_cons_succ, List.set_cons_zero]) | ((with_reducible refine gate_dst (N := 111) rfl ?_); refine aw_newv (fun g => .slice (some ⟨g, 0, none⟩) 1 1) 34 [.int .i64 kf0, .int .i64 kf1, .slice A9 kfl.length c9_] rfl (fun W => by first | (go_simp; done) | (go_simp; rfl) | kernel_rfl) HA ?_; clear HA; intro gl W_ HA; simp only [Act.put, List.setIfInBounds_toArray, List.set_cons_succ, List.set_cons_zero]) | ((with_reducible refine gate_dst (N := 112) rfl ?_); refine aw_append 6 0 rfl Try.underlying32 hv_info rfl (by decide) rfl hownk rfl rfl HA rfl rfl rfl rfl hap1 hap2 ?_; clear HA; intro v_ W_ Lv_ hownk_ HA; obtain ⟨A2_, c2_, rfl⟩ := own_form hownk_; dsimp only [List.set, List.take, List.cons_append, List.nil_append] at HA; simp only [Act.put, List.setIfInBounds_toArray, List.set_cons_succ, List.set_cons_zero]) | ((with_reducible refine gate_ld rfl ?_); (first | refine aw_loadc rfl rfl rfl hck ?_ ?_ | refine aw_loadW 0 (t := 34) rfl rfl HA rfl rfl ?_ ?_ | refine aw_loadW 1 (t := 34) rfl rfl HA rfl rfl ?_ ?_ | refine aw_loadW 2 (t := 34) rfl rfl HA rfl rfl ?_ ?_ | refine aw_load 0 rfl rfl HA rfl rfl rfl ?_ ?_ | refine aw_load 1 rfl rfl HA rfl rfl rfl ?_ ?_ | refine aw_load 2 rfl rfl HA rfl rfl rfl ?_ ?_ | refine aw_load 3 rfl rfl HA rfl rfl rfl ?_ ?_ | refine aw_load 4 rfl rfl HA rfl rfl rfl ?_ ?_ | refine aw_load 5 rfl rfl HA rfl rfl rfl ?_ ?_); kernel_rfl; simp only [Act.put, List.setIfInBounds_toArray, List.set_cons_succ, List.set_cons_zero]) | ((with_reducible refine gate_st rfl ?_); (first | refine aw_storeW 0 (t := 34) rfl rfl rfl rfl HA rfl rfl rfl ?_ rfl ?_ | refine aw_storeW 1 (t := 34) rfl rfl rfl rfl HA rfl rfl rfl ?_ rfl ?_ | refine aw_store 0 (v := .slice _ _ _) rfl rfl rfl rfl rfl HA rfl rfl rfl ?_ ?_ | refine aw_store 1 (v := .slice _ _ _) rfl rfl rfl rfl rfl HA rfl rfl rfl ?_ ?_ | refine aw_store 2 (v := .slice _ _ _) rfl rfl rfl rfl rfl HA rfl rfl rfl ?_ ?_ | refine aw_store 3 (v := .slice _ _ _) rfl rfl rfl rfl rfl HA rfl rfl rfl ?_ ?_ | refine aw_store 4 (v := .slice _ _ _) rfl rfl rfl rfl rfl HA rfl rfl rfl ?_ ?_); kernel_rfl; clear HA; intro W_ HA; dsimp only [List.set, List.take, List.cons_append, List.nil_append] at HA))
        go_roundg (N - (k + 1))
        case measure => omega
        case rel =>
          have hkv := HKV2.out
          rw [if_pos HKE.out] at hkv
          have hok := HOK.out
          have hlf_ := HLF.out
          have HA9 := hk_join HP1.out HA
          have hin : ∀ g, inL ((gv, .c 34 [.int .i64 2, .int .i64 s2, .slice A2_ (k + 1) c2_]) :: (g4, .c 34 [.int .i64 0, .int .i64 0, .slice none 0 0]) :: hkT gt gm (some ad) m.length c0 lf2 :: hkM gm cs2.length (cellsF cs2) :: Lv_) g → inL ((gv, .c 34 [.int .i64 2, .int .i64 s2, vk]) :: (g4, .c 34 [.int .i64 0, .int .i64 0, .slice none 0 0]) :: hkT gt gm (some ad) m.length c0 lf2 :: hkM gm cs2.length (cellsF cs2) :: Lk) g ∨ W1_.heap.size ≤ g := fun g hg => HA.newL g (by
            obtain ⟨y, hy, he⟩ := List.mem_map.1 hg
            exact List.mem_map.2 ⟨y, List.mem_cons_of_mem _ (List.mem_cons_of_mem _ hy), he⟩)
          refine ⟨k + 1, lf2, cs2, acc ++ [⟨kf0, kf1, kfl⟩], inner ++ [.int .i64 kf0, .int .i64 kf1, .slice A9 kfl.length c9_], .slice A2_ (k + 1) c2_, Lv_, by omega, rfl, by omega, by omega, by omega, by simp [hacc], ⟨hkv⟩, hownk_, ?_, ?_, HA9.sub (.cons _ (.cons _ (List.Sublist.refl _)))⟩
          · exact hk_snoc (trees_keep HT1.out HA.1 (fun g h => h) hin) (tree_keep HTK.out HA.1 (fun g h => h) hin) rfl
          · intro y hy
            rcases Aw.fresh_tail (K2 := [(gv, Blk.c 34 [.int .i64 2, .int .i64 s2, vk]), (g4, Blk.c 34 [.int .i64 0, .int .i64 0, .slice none 0 0]), hkT gt gm (some ad) m.length c0 lf2, hkM gm cs2.length (cellsF cs2)]) (K3 := [_, _, (gv, Blk.c 34 [.int .i64 2, .int .i64 s2, .slice A2_ (k + 1) c2_]), (g4, Blk.c 34 [.int .i64 0, .int .i64 0, .slice none 0 0]), hkT gt gm (some ad) m.length c0 lf2, hkM gm cs2.length (cellsF cs2)]) HA (fun g hg => by
              obtain ⟨y, hy, he⟩ := List.mem_map.1 hg
              rcases List.mem_cons.1 hy with rfl | hy
              · exact List.mem_map.2 ⟨(gv, Blk.c 34 [.int .i64 2, .int .i64 s2, .slice A2_ (k + 1) c2_]), by simp, he⟩
              · exact List.mem_map.2 ⟨y, List.mem_cons_of_mem _ (List.mem_cons_of_mem _ (List.mem_cons_of_mem _ hy)), he⟩) y hy with h | h
            · obtain ⟨u, hu, he⟩ := List.mem_map.1 h
              rw [← he]
              exact HFR.out u hu
            · exact Nat.le_trans HWS.out h
      · have ce : (ke != 0) = true := bne_iff_ne.mpr hke
        have HKE := Aside0.mk hke
        clear hke hlf0 hlf hcb1
        go_wp2_with (first | (go_at_call 35; refine HCALL.out.mono ?_; rintro e W1_ ⟨vq, lf3, mn3, mf3, rfl, hst_, hk_, htr⟩; clear hst_; obtain ⟨A9, c9_, e9, _⟩ := hk_form htr; subst e9; have HT1 := Aside0.mk (trees_keep HT0.out hk_.1 (hk_sub (W := W1_)) (fun g h => .inl h)); have HTK := Aside0.mk (k34.M_lower HA.1.size (hk_off (tree_beside (S := fun _ => True) (w := W1_) htr (HA.perm (hk_split (Lc := [_]))).right.lt) (hk_split (Lc := [_])).symm)); have HWS := Aside0.mk (Nat.le_trans HA.1.size hk_.1.size); replace HA := (Aw.frame (HA.perm (hk_split (Lc := [_]))) hk_).perm (hk_split (Lc := [_])).symm; clear hk_ htr; dsimp only [List.cons_append, List.nil_append] at HA; have HP1 := Aside0.mk HA; replace HA := HA.givens; simp only [Act.put, List.setIfInBounds_toArray, List.set_cons_succ, List.set_cons_zero]) | ((with_reducible refine gate_dst (N := 15) rfl ?_); refine aw_alloc rfl rfl hv_zero HA ?_; clear HA; intro gx W_ HA; simp only [Act.put, List.setIfInBounds_toArray, List.set_cons_succ, List.set_cons_zero]) | ((with_reducible refine gate_ld rfl ?_); (first | refine aw_loadc rfl rfl rfl hck ?_ ?_ | refine aw_load 0 rfl rfl HA rfl rfl rfl ?_ ?_ | refine aw_load 1 rfl rfl HA rfl rfl rfl ?_ ?_ | refine aw_load 2 rfl rfl HA rfl rfl rfl ?_ ?_ | refine aw_load 3 rfl rfl HA rfl rfl rfl ?_ ?_ | refine aw_load 4 rfl rfl HA rfl rfl rfl ?_ ?_ | refine aw_load 5 rfl rfl HA rfl rfl rfl ?_ ?_); kernel_rfl; simp only [Act.put, List.setIfInBounds_toArray, List.set_cons_succ, List.set_cons_zero]) | ((with_reducible refine gate_st rfl ?_); (first | refine aw_storeW 0 (t := 34) rfl rfl rfl rfl HA rfl rfl rfl ?_ rfl ?_ | refine aw_storeW 1 (t := 34) rfl rfl rfl rfl HA rfl rfl rfl ?_ rfl ?_ | refine aw_storeW 2 (t := 34) rfl rfl rfl rfl HA rfl rfl rfl ?_ rfl ?_ | refine aw_storeW 3 (t := 34) rfl rfl rfl rfl HA rfl rfl rfl ?_ rfl ?_ | refine aw_storeW 4 (t := 34) rfl rfl rfl rfl HA rfl rfl rfl ?_ rfl ?_); kernel_rfl; clear HA; intro W_ HA; dsimp only [List.set, List.take, List.cons_append, List.nil_append] at HA))
        (try rw [Exit.noGoto_ret])
        refine bodyPost_ret (results_ct rfl _ _ g4 34 #[.int .i64 0, .int .i64 0, .slice none 0 0] (0, 0) _ rfl (HA.at (i := 2) rfl) Try.underlying34 rfl (by kernel_rfl)) rfl ?_
        have hkv := HKV2.out
        rw [if_neg HKE.out] at hkv
        rw [HP.out, ← hkv]
        dsimp only
        rw [if_neg HKE.out]
        exact ⟨_, lf3, mn3, mf3, rfl, (fun h => absurd h HKE.out), (hk_join HP1.out HA).sub (.cons _ (.cons _ (.cons _ (.cons_cons _ (.cons_cons _ (List.nil_sublist _)))))), hk_leaf _ _ _ _ _⟩
    · have ck : decide ((k : Int) < ((N0 : Nat) : Int)) = false := decide_eq_false (by omega)
      have ck2 : decide (k < N0) = false := decide_eq_false (by omega)
      have hkn : k = N := by omega
      have hkv := HKV.out
      rw [List.drop_eq_nil_of_le (by rw [HKN.out]; omega), kidsV] at hkv
      have HKV2 := Aside0.mk hkv
      have HACC := Aside0.mk hacc
      clear hkv hacc hkn hkg hlt hlf0 hlf hcb1
      have HP1 := Aside0.mk HA
      replace HA := HA.givens
      obtain ⟨Ak_, cK_, rfl⟩ := own_form hownk
      go_wp2_with (first | ((with_reducible refine gate_ld rfl ?_); (first | refine aw_loadW 0 (t := 34) rfl rfl HA rfl rfl ?_ ?_ | refine aw_loadW 1 (t := 34) rfl rfl HA rfl rfl ?_ ?_ | refine aw_loadW 2 (t := 34) rfl rfl HA rfl rfl ?_ ?_); kernel_rfl; simp only [Act.put, List.setIfInBounds_toArray, List.set_cons_succ, List.set_cons_zero]) | ((with_reducible refine gate_st rfl ?_); (first | refine aw_storeW 0 (t := 34) rfl rfl rfl rfl HA rfl rfl rfl ?_ rfl ?_ | refine aw_storeW 1 (t := 34) rfl rfl rfl rfl HA rfl rfl rfl ?_ rfl ?_ | refine aw_storeW 2 (t := 34) rfl rfl rfl rfl HA rfl rfl rfl ?_ rfl ?_); kernel_rfl; clear HA; intro W_ HA; dsimp only [List.set, List.take, List.cons_append, List.nil_append] at HA))
      refine bodyPost_ret (results_ct rfl _ _ g4 34 #[.int .i64 2, .int .i64 s2, .slice Ak_ k cK_] (0, 0) _ rfl (HA.at (i := 1) rfl) Try.underlying34 rfl (by kernel_rfl)) rfl ?_
      rw [HP.out, ← HKV2.out]
      dsimp only
      rw [if_pos rfl]
      have HA9 := hk_join HP1.out HA
      have htr := trees_keep HT0.out HA.1 (fun g h => h) (fun g h => HA.newL g h)
      exact ⟨.slice Ak_ k cK_, lf, cs1.length, cellsF cs1, rfl, (fun _ => ⟨rfl, rfl, rfl⟩), HA9.sub (.cons _ (.cons _ (.cons_cons _ (.cons_cons _ (List.nil_sublist _))))), hk_top (Lc := [_]) HA9 (HACC.out ▸ hownk) HFR.out htr⟩
set_option maxHeartbeats 8000000 in
set_option maxRecDepth 100000 in
theorem H_take.kids1 (m : List Int) (hm : m.length ≤ 1000000 ∧ ∀ x ∈ m, 0 ≤ x ∧ x < 4294967296) (A0 : Option Addr) (c0 : Nat) (hc0 : m.length ≤ c0) (n : Nat) (hIH : ∀ (left : Int) (cs : List Int) (x : Int) (W : World) (gt gm : Nat), left ≤ n → 0 ≤ left → (cs.length : Int) + left ≤ 100000 → 0 ≤ x → x < 4294967296 → (∀ W', Kp (inL [(gt, Blk.c 63 []), (gm, Blk.c 63 [])]) W W' → Kd.C (Kd.int .u32) W' A0 m.length m) → Aw (inL [(gt, Blk.c 63 []), (gm, Blk.c 63 [])]) W W [hkT gt gm A0 m.length c0 left, hkM gm cs.length (cellsF cs)] → Calls Try.prog 35 #[.pointer (some ⟨gt, 0, none⟩), .int .u32 x] W (HkPost A0 m.length c0 gt gm W (takeV m n (left, cs) x)))
    (left : Int) (cs : List Int) (x : Int) (W : World) (gt gm : Nat) (hl1 : 1 ≤ left) (hcb : (cs.length : Int) + left ≤ 100000) (hx0 : 0 ≤ x) (hx1 : x < 4294967296) (hr : (∀ W', Kp (inL [(gt, Blk.c 63 []), (gm, Blk.c 63 [])]) W W' → Kd.C (Kd.int .u32) W' A0 m.length m)) (HA : Aw (inL [(gt, Blk.c 63 []), (gm, Blk.c 63 [])]) W W [hkT gt gm A0 m.length c0 left, hkM gm cs.length (cellsF cs)]) (hln : left ≤ n + 1) (h2 : ¬ x % 2 = 1) (h4 : x % 4 = 0) (hb : blkB m (x / 4) = true) (hk2 : (splV (rd m (x / 4))).1 = 1) (res : (List S34 × Int) × (Int × List Int)) (hres : kidsV (takeV m n) (left - 1, cs) (kidsOf m (x / 4)) [] = res) :
    Calls Try.prog 35 #[.pointer (some ⟨gt, 0, none⟩), .int .u32 x] W (HkPost A0 m.length c0 gt gm W (if res.1.2 = 0 then ((⟨(topV m (x / 4)).1, (topV m (x / 4)).2, res.1.1⟩, 0), res.2) else ((zV, res.1.2), res.2))) := by
  unfold hkT at HA
  have HR := Aside0.mk hr
  have c1 : decide (left - 1 < 0) = false := decide_eq_false (by omega)
  have s0 : IntKind.i64.wrap (left - 1) = left - 1 := IntWalk.i64_in _ (by omega)
  have HII := Aside0.mk (isInt_eq x hx0 hx1)
  rw [show (x % 2 == 1) = false from beq_eq_false_iff_ne.mpr h2] at HII
  have ha := blkB_in' hb
  have hxw := hm.2 _ (rd_memT (l := m) (i := x / 4) ha.1 ha.2.1)
  have hsz := splV_size hxw.1 hxw.2
  obtain ⟨ad, had, _⟩ := Kd.at_int (HR.out _ (Kp.refl _ _)) (x / 4) ha.1 ha.2.1
  subst had
  have HST : Aside0 (∀ W', Kp (inL [(gt, Blk.c 63 []), (gm, Blk.c 63 [])]) W W' → Calls Try.prog 37 #[.slice (some ad) m.length c0, .int .u32 x] W' fun e W2 => e = .returned (.tuple #[.int .i64 (splV (rd m (x / 4))).1, .int .i64 (splV (rd m (x / 4))).2.1, .slice (some (ad.add (x / 4 + 1).toNat)) (splV (rd m (x / 4))).2.2.1.toNat (c0 - (x / 4 + 1).toNat), .bool true]) ∧ Below W'.heap.size W' W2) := ⟨fun W' hk => (stands.yea m hm (some ad) c0 hc0 x hx0 hx1 W' (HR.out W' hk) h4 hb).mono (by rintro e W2 ⟨⟨ad_, had_, he_⟩, hb_⟩; cases had_; exact ⟨he_, hb_⟩)⟩
  have HIH := Lib.hid hIH
  clear hIH
  have ha1 := ha.1
  have hsz1 := hsz.2.2.2.2.2.2 ha.2.2.1
  have hsz2 := hsz.2.2.2.2.2.1
  have hKl := kidsOf_lenH m (x / 4) ha1 ha.2.2.2.1 hsz1
  have hKa := kidsOf_atH m (x / 4) ha1 ha.2.2.2.1 hsz1
  have hlast := ha.2.2.2.1
  have hFv : kidsFrom m (x / 4) = (x / 4 + 2) := by unfold kidsFrom; rw [if_pos hk2] <;> (first | rfl | omega)
  have htkv : (topV m (x / 4)).1 = 3 := by unfold topV; rw [if_pos hk2] <;> (first | rfl | omega)
  have hxv := hm.2 _ (rd_memT (l := m) (i := x / 4 + 1) (by omega) (by omega))
  obtain ⟨xv, hxve⟩ : ∃ xv, rd m (x / 4 + 1) = xv := ⟨_, rfl⟩
  rw [hxve] at hxv
  have htnv : (topV m (x / 4)).2 = xv / 2 := by unfold topV; rw [if_pos hk2, hxve]
  rw [htkv, htnv]
  rw [hFv] at hKl hKa
  obtain ⟨s1, hs1⟩ : ∃ y, (splV (rd m (x / 4))).1 = y := ⟨_, rfl⟩
  obtain ⟨s2, hs2⟩ : ∃ y, (splV (rd m (x / 4))).2.1 = y := ⟨_, rfl⟩
  obtain ⟨s3, hs3⟩ : ∃ y, (splV (rd m (x / 4))).2.2.1 = y := ⟨_, rfl⟩
  rw [hs1, hs2, hs3] at HST
  rw [hs1] at hk2
  rw [hs3] at hsz1 hsz2 hKl hlast
  obtain ⟨K, hK⟩ : ∃ K, kidsOf m (x / 4) = K := ⟨_, rfl⟩
  rw [hK] at hres hKl hKa
  obtain ⟨N0, hN0⟩ : ∃ N0, s3.toNat = N0 := ⟨_, rfl⟩
  obtain ⟨c9, hc9⟩ : ∃ y, c0 - (x / 4 + 1).toNat = y := ⟨_, rfl⟩
  obtain ⟨AD, hAD⟩ : ∃ y, ad.add (x / 4 + 1).toNat = y := ⟨_, rfl⟩
  rw [hN0, hc9, hAD, hk2] at HST
  have hcell : ∀ W', Kp (inL [(gt, Blk.c 63 []), (gm, Blk.c 63 [])]) W W' → ∀ j : Nat, j < N0 → W'.cell? (AD.add j) = some (.int .u32 (rd m (x / 4 + 1 + j))) := fun W' hk j hj => by
    obtain ⟨ad2, e2, h⟩ := Kd.at_int (HR.out W' hk) (x / 4 + 1 + j) (by omega) (by omega)
    cases e2
    rw [← hAD, add_add, show (x / 4 + 1).toNat + j = (x / 4 + 1 + j).toNat by omega]
    exact h
  have HCE := Lib.hid hcell
  have hNc : N0 ≤ c9 := by omega
  have k1 : ((1 : Int) == 1) = true := by decide
  obtain ⟨N, hN⟩ : ∃ N, K.length = N := ⟨_, rfl⟩
  rw [hN] at hKl hKa
  have hNN : N = N0 - 1 := by omega
  have hm1 := hm.1
  have hm2 := hm.2
  have HKA := Lib.hid hKa
  have HM2 := Lib.hid hm2
  have HKN := Lib.hid hN
  have hxv0 := hxv.1
  have hxv1 := hxv.2
  have HC0 : RowKit.Hid (∀ W', Kp (inL [(gt, Blk.c 63 []), (gm, Blk.c 63 [])]) W W' → W'.cell? (AD.add 0) = some (.int .u32 xv)) := Lib.hid (fun W' hk => by have := hcell W' hk 0 (by omega); rw [← hxve]; simpa using this)
  have hN1 : 1 ≤ N0 := by omega
  have i5 : decide ((0 : Int) < (N0 : Int)) = true := decide_eq_true (by omega)
  have i6 : decide ((1 : Int) ≤ (N0 : Int)) = true := decide_eq_true (by omega)
  obtain ⟨P, HP⟩ : ∃ P : Ending → World → Prop, Aside0 (P = HkPost (some ad) m.length c0 gt gm W (if res.1.2 = 0 then ((⟨3, (xv / 2), res.1.1⟩, 0), res.2) else ((zV, res.1.2), res.2))) := ⟨_, ⟨rfl⟩⟩
  rw [← HP.out]
  have HRES := Aside0.mk hres
  clear hres hKa hm hN hm2 hK ha hxw hsz hb h2 h4 hs1 hs2 hs3 hcell htkv htnv hFv hk2 hAD hxv hxve
  by_cases hE : N0 = 1
  · have hres0 := HRES.out
    rw [List.eq_nil_of_length_eq_zero (show K.length = 0 by rw [HKN.out]; omega), kidsV] at hres0
    subst hres0
    subst hE
    clear HRES HKA HCE HIH
    by_cases hc91 : c9 = 1
    · subst hc91
      go_enter Try.func35, Try.ntmps35
      go_wp2_with (first | ((with_reducible refine gate_dst (N := 4) rfl ?_); refine aw_alloc rfl rfl hv_zero HA ?_; clear HA; intro g4 W_ HA; simp only [Act.put, List.setIfInBounds_toArray, List.set_cons_succ, List.set_cons_zero]) | ((with_reducible refine gate_dst (N := 10) rfl ?_); refine aw_alloc rfl rfl hv_zero HA ?_; clear HA; intro gv W_ HA; simp only [Act.put, List.setIfInBounds_toArray, List.set_cons_succ, List.set_cons_zero]) | (go_at_call 50; refine (num_IsInt.calls x _ _ HII.out).mono ?_; rintro e W_ ⟨rfl, hd_⟩; replace HA := HA.drewN0 hd_; clear hd_) | (go_at_call 37; refine (HST.out _ HA.1).mono ?_; rintro e W_ ⟨rfl, hb_⟩; replace HA := HA.call hb_; clear hb_) | ((with_reducible refine gate_ld rfl ?_); (first | refine aw_loadc rfl rfl rfl (HC0.out _ HA.1) ?_ ?_ | refine aw_load 0 rfl rfl HA rfl rfl rfl ?_ ?_ | refine aw_load 1 rfl rfl HA rfl rfl rfl ?_ ?_ | refine aw_load 2 rfl rfl HA rfl rfl rfl ?_ ?_ | refine aw_load 3 rfl rfl HA rfl rfl rfl ?_ ?_); kernel_rfl; simp only [Act.put, List.setIfInBounds_toArray, List.set_cons_succ, List.set_cons_zero]) | ((with_reducible refine gate_st rfl ?_); (first | refine aw_storeW 0 (t := 34) rfl rfl rfl rfl HA rfl rfl rfl ?_ rfl ?_ | refine aw_storeW 1 (t := 34) rfl rfl rfl rfl HA rfl rfl rfl ?_ rfl ?_ | refine aw_storeW 2 (t := 34) rfl rfl rfl rfl HA rfl rfl rfl ?_ rfl ?_ | refine aw_storeW 3 (t := 34) rfl rfl rfl rfl HA rfl rfl rfl ?_ rfl ?_ | refine aw_store 0 (v := .int _ _) rfl rfl rfl rfl rfl HA rfl rfl rfl ?_ ?_ | refine aw_store 1 (v := .int _ _) rfl rfl rfl rfl rfl HA rfl rfl rfl ?_ ?_ | refine aw_store 2 (v := .int _ _) rfl rfl rfl rfl rfl HA rfl rfl rfl ?_ ?_ | refine aw_store 3 (v := .int _ _) rfl rfl rfl rfl rfl HA rfl rfl rfl ?_ ?_); kernel_rfl; clear HA; intro W_ HA; dsimp only [List.set, List.take, List.cons_append, List.nil_append] at HA))
      go_loopg [94] 0 (fun g i wx => i = .int .i64 0 ∧ Aw (inL [(gt, Blk.c 63 []), (gm, Blk.c 63 [])]) W wx ((gv, .c 34 [.int .i64 3, .int .i64 (xv / 2), .slice none 0 0]) :: (g4, .c 34 [.int .i64 0, .int .i64 0, .slice none 0 0]) :: hkT gt gm (some ad) m.length c0 (left - 1) :: hkM gm cs.length (cellsF cs) :: []))
      case atStart => exact ⟨rfl, HA⟩
      case round =>
        clear HA
        obtain ⟨rfl, HA⟩ := hrel
        go_wp2_with (first | ((with_reducible refine gate_ld rfl ?_); (first | refine aw_loadW 0 (t := 34) rfl rfl HA rfl rfl ?_ ?_ | refine aw_loadW 1 (t := 34) rfl rfl HA rfl rfl ?_ ?_ | refine aw_loadW 2 (t := 34) rfl rfl HA rfl rfl ?_ ?_); kernel_rfl; simp only [Act.put, List.setIfInBounds_toArray, List.set_cons_succ, List.set_cons_zero]) | ((with_reducible refine gate_st rfl ?_); (first | refine aw_storeW 0 (t := 34) rfl rfl rfl rfl HA rfl rfl rfl ?_ rfl ?_ | refine aw_storeW 1 (t := 34) rfl rfl rfl rfl HA rfl rfl rfl ?_ rfl ?_ | refine aw_storeW 2 (t := 34) rfl rfl rfl rfl HA rfl rfl rfl ?_ rfl ?_); kernel_rfl; clear HA; intro W_ HA; dsimp only [List.set, List.take, List.cons_append, List.nil_append] at HA))
        refine bodyPost_ret (results_ct rfl _ _ g4 34 #[.int .i64 3, .int .i64 (xv / 2), .slice none 0 0] (0, 0) _ rfl (HA.at (i := 1) rfl) Try.underlying34 rfl (by kernel_rfl)) rfl ?_
        rw [HP.out]
        dsimp only
        rw [if_pos trivial]
        exact ⟨_, left - 1, cs.length, cellsF cs, rfl, (fun _ => ⟨rfl, rfl, rfl⟩), HA.sub (.cons _ (.cons _ (.cons_cons _ (.cons_cons _ (List.nil_sublist _))))), hk_leaf _ _ _ _ _⟩
    · have c91 : (c9 = 1) = False := eq_false hc91
      go_enter Try.func35, Try.ntmps35
      go_wp2_with (first | ((with_reducible refine gate_dst (N := 4) rfl ?_); refine aw_alloc rfl rfl hv_zero HA ?_; clear HA; intro g4 W_ HA; simp only [Act.put, List.setIfInBounds_toArray, List.set_cons_succ, List.set_cons_zero]) | ((with_reducible refine gate_dst (N := 10) rfl ?_); refine aw_alloc rfl rfl hv_zero HA ?_; clear HA; intro gv W_ HA; simp only [Act.put, List.setIfInBounds_toArray, List.set_cons_succ, List.set_cons_zero]) | (go_at_call 50; refine (num_IsInt.calls x _ _ HII.out).mono ?_; rintro e W_ ⟨rfl, hd_⟩; replace HA := HA.drewN0 hd_; clear hd_) | (go_at_call 37; refine (HST.out _ HA.1).mono ?_; rintro e W_ ⟨rfl, hb_⟩; replace HA := HA.call hb_; clear hb_) | ((with_reducible refine gate_ld rfl ?_); (first | refine aw_loadc rfl rfl rfl (HC0.out _ HA.1) ?_ ?_ | refine aw_load 0 rfl rfl HA rfl rfl rfl ?_ ?_ | refine aw_load 1 rfl rfl HA rfl rfl rfl ?_ ?_ | refine aw_load 2 rfl rfl HA rfl rfl rfl ?_ ?_ | refine aw_load 3 rfl rfl HA rfl rfl rfl ?_ ?_); kernel_rfl; simp only [Act.put, List.setIfInBounds_toArray, List.set_cons_succ, List.set_cons_zero]) | ((with_reducible refine gate_st rfl ?_); (first | refine aw_storeW 0 (t := 34) rfl rfl rfl rfl HA rfl rfl rfl ?_ rfl ?_ | refine aw_storeW 1 (t := 34) rfl rfl rfl rfl HA rfl rfl rfl ?_ rfl ?_ | refine aw_storeW 2 (t := 34) rfl rfl rfl rfl HA rfl rfl rfl ?_ rfl ?_ | refine aw_storeW 3 (t := 34) rfl rfl rfl rfl HA rfl rfl rfl ?_ rfl ?_ | refine aw_store 0 (v := .int _ _) rfl rfl rfl rfl rfl HA rfl rfl rfl ?_ ?_ | refine aw_store 1 (v := .int _ _) rfl rfl rfl rfl rfl HA rfl rfl rfl ?_ ?_ | refine aw_store 2 (v := .int _ _) rfl rfl rfl rfl rfl HA rfl rfl rfl ?_ ?_ | refine aw_store 3 (v := .int _ _) rfl rfl rfl rfl rfl HA rfl rfl rfl ?_ ?_); kernel_rfl; clear HA; intro W_ HA; dsimp only [List.set, List.take, List.cons_append, List.nil_append] at HA))
      go_loopg [94] 0 (fun g i wx => i = .int .i64 0 ∧ Aw (inL [(gt, Blk.c 63 []), (gm, Blk.c 63 [])]) W wx ((gv, .c 34 [.int .i64 3, .int .i64 (xv / 2), .slice none 0 0]) :: (g4, .c 34 [.int .i64 0, .int .i64 0, .slice none 0 0]) :: hkT gt gm (some ad) m.length c0 (left - 1) :: hkM gm cs.length (cellsF cs) :: []))
      case atStart => exact ⟨rfl, HA⟩
      case round =>
        clear HA
        obtain ⟨rfl, HA⟩ := hrel
        go_wp2_with (first | ((with_reducible refine gate_ld rfl ?_); (first | refine aw_loadW 0 (t := 34) rfl rfl HA rfl rfl ?_ ?_ | refine aw_loadW 1 (t := 34) rfl rfl HA rfl rfl ?_ ?_ | refine aw_loadW 2 (t := 34) rfl rfl HA rfl rfl ?_ ?_); kernel_rfl; simp only [Act.put, List.setIfInBounds_toArray, List.set_cons_succ, List.set_cons_zero]) | ((with_reducible refine gate_st rfl ?_); (first | refine aw_storeW 0 (t := 34) rfl rfl rfl rfl HA rfl rfl rfl ?_ rfl ?_ | refine aw_storeW 1 (t := 34) rfl rfl rfl rfl HA rfl rfl rfl ?_ rfl ?_ | refine aw_storeW 2 (t := 34) rfl rfl rfl rfl HA rfl rfl rfl ?_ rfl ?_); kernel_rfl; clear HA; intro W_ HA; dsimp only [List.set, List.take, List.cons_append, List.nil_append] at HA))
        refine bodyPost_ret (results_ct rfl _ _ g4 34 #[.int .i64 3, .int .i64 (xv / 2), .slice none 0 0] (0, 0) _ rfl (HA.at (i := 1) rfl) Try.underlying34 rfl (by kernel_rfl)) rfl ?_
        rw [HP.out]
        dsimp only
        rw [if_pos trivial]
        exact ⟨_, left - 1, cs.length, cellsF cs, rfl, (fun _ => ⟨rfl, rfl, rfl⟩), HA.sub (.cons _ (.cons _ (.cons_cons _ (.cons_cons _ (List.nil_sublist _))))), hk_leaf _ _ _ _ _⟩
  · have c91 : (c9 = 1) = False := eq_false (by omega)
    clear hE
    go_enter Try.func35, Try.ntmps35
    go_wp2_with (first | ((with_reducible refine gate_dst (N := 4) rfl ?_); refine aw_alloc rfl rfl hv_zero HA ?_; clear HA; intro g4 W_ HA; simp only [Act.put, List.setIfInBounds_toArray, List.set_cons_succ, List.set_cons_zero]) | ((with_reducible refine gate_dst (N := 10) rfl ?_); refine aw_alloc rfl rfl hv_zero HA ?_; clear HA; intro gv W_ HA; simp only [Act.put, List.setIfInBounds_toArray, List.set_cons_succ, List.set_cons_zero]) | (go_at_call 50; refine (num_IsInt.calls x _ _ HII.out).mono ?_; rintro e W_ ⟨rfl, hd_⟩; replace HA := HA.drewN0 hd_; clear hd_) | (go_at_call 37; refine (HST.out _ HA.1).mono ?_; rintro e W_ ⟨rfl, hb_⟩; replace HA := HA.call hb_; clear hb_) | ((with_reducible refine gate_ld rfl ?_); (first | refine aw_loadc rfl rfl rfl (HC0.out _ HA.1) ?_ ?_ | refine aw_load 0 rfl rfl HA rfl rfl rfl ?_ ?_ | refine aw_load 1 rfl rfl HA rfl rfl rfl ?_ ?_ | refine aw_load 2 rfl rfl HA rfl rfl rfl ?_ ?_ | refine aw_load 3 rfl rfl HA rfl rfl rfl ?_ ?_); kernel_rfl; simp only [Act.put, List.setIfInBounds_toArray, List.set_cons_succ, List.set_cons_zero]) | ((with_reducible refine gate_st rfl ?_); (first | refine aw_storeW 0 (t := 34) rfl rfl rfl rfl HA rfl rfl rfl ?_ rfl ?_ | refine aw_storeW 1 (t := 34) rfl rfl rfl rfl HA rfl rfl rfl ?_ rfl ?_ | refine aw_storeW 2 (t := 34) rfl rfl rfl rfl HA rfl rfl rfl ?_ rfl ?_ | refine aw_storeW 3 (t := 34) rfl rfl rfl rfl HA rfl rfl rfl ?_ rfl ?_ | refine aw_store 0 (v := .int _ _) rfl rfl rfl rfl rfl HA rfl rfl rfl ?_ ?_ | refine aw_store 1 (v := .int _ _) rfl rfl rfl rfl rfl HA rfl rfl rfl ?_ ?_ | refine aw_store 2 (v := .int _ _) rfl rfl rfl rfl rfl HA rfl rfl rfl ?_ ?_ | refine aw_store 3 (v := .int _ _) rfl rfl rfl rfl rfl HA rfl rfl rfl ?_ ?_); kernel_rfl; clear HA; intro W_ HA; dsimp only [List.set, List.take, List.cons_append, List.nil_append] at HA))
    go_loopg [94] N (fun g i wx => ∃ (k : Nat) (lf : Int) (cs1 : List Int) (acc : List S34) (inner : List Value) (vk : Value) (Lk : List (Nat × Blk)), k + g = N ∧ i = .int .i64 k ∧ 0 ≤ lf ∧ lf ≤ n ∧ (cs1.length : Int) + lf ≤ 100000 ∧ acc.length = k ∧ Aside0 (kidsV (takeV m n) (lf, cs1) (K.drop k) acc = res) ∧ Own 34 3 vk k inner Lk ∧ Reps (k34.M wx W.heap.size (offL ((gv, .c 34 [.int .i64 3, .int .i64 (xv / 2), vk]) :: (g4, .c 34 [.int .i64 0, .int .i64 0, .slice none 0 0]) :: hkT gt gm (some ad) m.length c0 lf :: hkM gm cs1.length (cellsF cs1) :: Lk))) 3 acc inner ∧ (∀ y ∈ Lk, W.heap.size ≤ y.1) ∧ Aw (inL [(gt, Blk.c 63 []), (gm, Blk.c 63 [])]) W wx ((gv, .c 34 [.int .i64 3, .int .i64 (xv / 2), vk]) :: (g4, .c 34 [.int .i64 0, .int .i64 0, .slice none 0 0]) :: hkT gt gm (some ad) m.length c0 lf :: hkM gm cs1.length (cellsF cs1) :: Lk))
    case atStart => exact ⟨0, left - 1, cs, [], [], .slice none 0 0, [], by omega, by simp, by omega, by omega, by omega, rfl, ⟨by rw [List.drop_zero]; exact HRES.out⟩, Own.nil _ _, Reps.none _ _, by simp, HA⟩
    case round =>
      clear HA
      obtain ⟨k, lf, cs1, acc, inner, vk, Lk, hkg, rfl, hlf0, hlf, hcb1, hacc, HKV, hownk, htrees, hfr, HA⟩ := hrel
      have HT0 := Aside0.mk htrees
      have HFR := Aside0.mk hfr
      clear htrees hfr
      by_cases hlt : k < N
      · have ck : decide ((k : Int) < (((N0 - 1) : Nat) : Int)) = true := decide_eq_true (by omega)
        have ck2 : decide (k < (N0 - 1)) = true := decide_eq_true (by omega)
        have w4 : IntKind.i64.wrap ((k : Int) + 1) = ((k + 1 : Nat) : Int) := by rw [IntWalk.i64_in _ (by omega)]; omega
        have hxk := HM2.out _ (rd_memT (l := m) (i := (x / 4 + 2) + (k : Int)) (by omega) (by omega))
        have hck := HCE.out _ HA.1 (1 + k) (by omega)
        rw [show x / 4 + 1 + ((1 + k : Nat) : Int) = (x / 4 + 2) + (k : Int) by omega] at hck
        have hck' : wr.cell? (⟨AD.block, AD.off + 1 + k, none⟩ : Addr) = some (.int .u32 (rd m ((x / 4 + 2) + (k : Int)))) := by
          have e1 : (⟨AD.block, AD.off + 1 + k, none⟩ : Addr) = AD.add (1 + k) := by unfold Addr.add; rw [if_neg (by omega), Nat.add_assoc]
          rw [e1]
          exact hck
        replace hck := hck'
        clear hck'
        have hkv := HKV.out
        rw [HKA.out k hlt, kidsV] at hkv
        obtain ⟨xk, hxe⟩ : ∃ xk, rd m ((x / 4 + 2) + (k : Int)) = xk := ⟨_, rfl⟩
        rw [hxe] at hxk hck hkv
        have hcall := HIH.out lf cs1 xk wr gt gm hlf hlf0 hcb1 hxk.1 hxk.2 (fun W' hk => HR.out W' (HA.1.trans hk (fun k hk2 => HA.newL k (hk_sub (W := W') k hk2)))) (HA.perm (hk_split (Lc := [_]))).left.givens
        have hok := takeV_ok m n (lf, cs1) xk
        obtain ⟨qq, hqq⟩ : ∃ qq, takeV m n (lf, cs1) xk = qq := ⟨_, rfl⟩
        rw [hqq] at hcall hkv hok
        obtain ⟨⟨⟨kf0, kf1, kfl⟩, ke⟩, lf2, cs2⟩ := qq
        dsimp only at hkv
        unfold stOk at hok
        dsimp only at hok
        have HCALL := Aside0.mk hcall
        have HKV2 := Aside0.mk hkv
        have HOK := Aside0.mk hok
        have HLF := Aside0.mk (And.intro hlf0 (And.intro hlf hcb1))
        clear hcall hkv hok hxe hqq hxk HKV
        by_cases hke : ke = 0
        · have ce : (ke != 0) = false := bne_eq_false_iff_eq.mpr hke
          have hap1 : k + 1 ≤ maxLen := by unfold maxLen; omega
          have hap2 : (k + 1) * 40 ≤ 140737488355328 := by omega
          have HKE := Aside0.mk hke
          clear hke hlf0 hlf hcb1
          go_wp2_with (first | (go_at_call 35; refine HCALL.out.mono ?_; rintro e W1_ ⟨vq, lf3, mn3, mf3, rfl, hst_, hk_, htr⟩; have hq_ := hst_ HKE.out; dsimp only at hq_; rw [hq_.1, hq_.2.1, hq_.2.2] at hk_ htr; clear hst_ hq_; obtain ⟨A9, c9_, e9, _⟩ := hk_form htr; subst e9; have HT1 := Aside0.mk (trees_keep HT0.out hk_.1 (hk_sub (W := W1_)) (fun g h => .inl h)); have HTK := Aside0.mk (k34.M_lower HA.1.size (hk_off (tree_beside (S := fun _ => True) (w := W1_) htr (HA.perm (hk_split (Lc := [_]))).right.lt) (hk_split (Lc := [_])).symm)); have HWS := Aside0.mk (Nat.le_trans HA.1.size hk_.1.size); replace HA := (Aw.frame (HA.perm (hk_split (Lc := [_]))) hk_).perm (hk_split (Lc := [_])).symm; clear hk_ htr; dsimp only [List.cons_append, List.nil_append] at HA; have HP1 := Aside0.mk HA; replace HA := HA.givens; simp only [Act.put, List.setIfInBounds_toArray, List.set_cons_succ, List.set_cons_zero]) | ((with_reducible refine gate_dst (N := 15) rfl ?_); refine aw_alloc rfl rfl hv_zero HA ?_; clear HA; intro gx W_ HA; simp only [Act.put, List.setIfInBounds_toArray, List.set_cons_succ, List.set_cons_zero]) | ((with_reducible refine gate_dst (N := 111) rfl ?_); refine aw_newv (fun g => .slice (some ⟨g, 0, none⟩) 1 1) 34 [.int .i64 kf0, .int .i64 kf1, .slice A9 kfl.length c9_] rfl (fun W => by first | (go_simp; done) | (go_simp; rfl) | kernel_rfl) HA ?_; clear HA; intro gl W_ HA; simp only [Act.put, List.setIfInBounds_toArray, List.set_cons_succ, List.set_cons_zero]) | ((with_reducible refine gate_dst (N := 112) rfl ?_); refine aw_append 6 0 rfl Try.underlying32 hv_info rfl (by decide) rfl hownk rfl rfl HA rfl rfl rfl rfl hap1 hap2 ?_; clear HA; intro v_ W_ Lv_ hownk_ HA; obtain ⟨A2_, c2_, rfl⟩ := own_form hownk_; dsimp only [List.set, List.take, List.cons_append, List.nil_append] at HA; simp only [Act.put, List.setIfInBounds_toArray, List.set_cons_succ, List.set_cons_zero]) | ((with_reducible refine gate_ld rfl ?_); (first | refine aw_loadc rfl rfl rfl hck ?_ ?_ | refine aw_loadW 0 (t := 34) rfl rfl HA rfl rfl ?_ ?_ | refine aw_loadW 1 (t := 34) rfl rfl HA rfl rfl ?_ ?_ | refine aw_loadW 2 (t := 34) rfl rfl HA rfl rfl ?_ ?_ | refine aw_load 0 rfl rfl HA rfl rfl rfl ?_ ?_ | refine aw_load 1 rfl rfl HA rfl rfl rfl ?_ ?_ | refine aw_load 2 rfl rfl HA rfl rfl rfl ?_ ?_ | refine aw_load 3 rfl rfl HA rfl rfl rfl ?_ ?_ | refine aw_load 4 rfl rfl HA rfl rfl rfl ?_ ?_ | refine aw_load 5 rfl rfl HA rfl rfl rfl ?_ ?_); kernel_rfl; simp only [Act.put, List.setIfInBounds_toArray, List.set_cons_succ, List.set_cons_zero]) | ((with_reducible refine gate_st rfl ?_); (first | refine aw_storeW 0 (t := 34) rfl rfl rfl rfl HA rfl rfl rfl ?_ rfl ?_ | refine aw_storeW 1 (t := 34) rfl rfl rfl rfl HA rfl rfl rfl ?_ rfl ?_ | refine aw_store 0 (v := .slice _ _ _) rfl rfl rfl rfl rfl HA rfl rfl rfl ?_ ?_ | refine aw_store 1 (v := .slice _ _ _) rfl rfl rfl rfl rfl HA rfl rfl rfl ?_ ?_ | refine aw_store 2 (v := .slice _ _ _) rfl rfl rfl rfl rfl HA rfl rfl rfl ?_ ?_ | refine aw_store 3 (v := .slice _ _ _) rfl rfl rfl rfl rfl HA rfl rfl rfl ?_ ?_ | refine aw_store 4 (v := .slice _ _ _) rfl rfl rfl rfl rfl HA rfl rfl rfl ?_ ?_); kernel_rfl; clear HA; intro W_ HA; dsimp only [List.set, List.take, List.cons_append, List.nil_append] at HA))
          go_roundg (N - (k + 1))
          case measure => omega
          case rel =>
            have hkv := HKV2.out
            rw [if_pos HKE.out] at hkv
            have hok := HOK.out
            have hlf_ := HLF.out
            have HA9 := hk_join HP1.out HA
            have hin : ∀ g, inL ((gv, .c 34 [.int .i64 3, .int .i64 (xv / 2), .slice A2_ (k + 1) c2_]) :: (g4, .c 34 [.int .i64 0, .int .i64 0, .slice none 0 0]) :: hkT gt gm (some ad) m.length c0 lf2 :: hkM gm cs2.length (cellsF cs2) :: Lv_) g → inL ((gv, .c 34 [.int .i64 3, .int .i64 (xv / 2), vk]) :: (g4, .c 34 [.int .i64 0, .int .i64 0, .slice none 0 0]) :: hkT gt gm (some ad) m.length c0 lf2 :: hkM gm cs2.length (cellsF cs2) :: Lk) g ∨ W1_.heap.size ≤ g := fun g hg => HA.newL g (by
              obtain ⟨y, hy, he⟩ := List.mem_map.1 hg
              exact List.mem_map.2 ⟨y, List.mem_cons_of_mem _ (List.mem_cons_of_mem _ hy), he⟩)
            refine ⟨k + 1, lf2, cs2, acc ++ [⟨kf0, kf1, kfl⟩], inner ++ [.int .i64 kf0, .int .i64 kf1, .slice A9 kfl.length c9_], .slice A2_ (k + 1) c2_, Lv_, by omega, rfl, by omega, by omega, by omega, by simp [hacc], ⟨hkv⟩, hownk_, ?_, ?_, HA9.sub (.cons _ (.cons _ (List.Sublist.refl _)))⟩
            · exact hk_snoc (trees_keep HT1.out HA.1 (fun g h => h) hin) (tree_keep HTK.out HA.1 (fun g h => h) hin) rfl
            · intro y hy
              rcases Aw.fresh_tail (K2 := [(gv, Blk.c 34 [.int .i64 3, .int .i64 (xv / 2), vk]), (g4, Blk.c 34 [.int .i64 0, .int .i64 0, .slice none 0 0]), hkT gt gm (some ad) m.length c0 lf2, hkM gm cs2.length (cellsF cs2)]) (K3 := [_, _, (gv, Blk.c 34 [.int .i64 3, .int .i64 (xv / 2), .slice A2_ (k + 1) c2_]), (g4, Blk.c 34 [.int .i64 0, .int .i64 0, .slice none 0 0]), hkT gt gm (some ad) m.length c0 lf2, hkM gm cs2.length (cellsF cs2)]) HA (fun g hg => by
                obtain ⟨y, hy, he⟩ := List.mem_map.1 hg
                rcases List.mem_cons.1 hy with rfl | hy
                · exact List.mem_map.2 ⟨(gv, Blk.c 34 [.int .i64 3, .int .i64 (xv / 2), .slice A2_ (k + 1) c2_]), by simp, he⟩
                · exact List.mem_map.2 ⟨y, List.mem_cons_of_mem _ (List.mem_cons_of_mem _ (List.mem_cons_of_mem _ hy)), he⟩) y hy with h | h
              · obtain ⟨u, hu, he⟩ := List.mem_map.1 h
                rw [← he]
                exact HFR.out u hu
              · exact Nat.le_trans HWS.out h
        · have ce : (ke != 0) = true := bne_iff_ne.mpr hke
          have HKE := Aside0.mk hke
          clear hke hlf0 hlf hcb1
          go_wp2_with (first | (go_at_call 35; refine HCALL.out.mono ?_; rintro e W1_ ⟨vq, lf3, mn3, mf3, rfl, hst_, hk_, htr⟩; clear hst_; obtain ⟨A9, c9_, e9, _⟩ := hk_form htr; subst e9; have HT1 := Aside0.mk (trees_keep HT0.out hk_.1 (hk_sub (W := W1_)) (fun g h => .inl h)); have HTK := Aside0.mk (k34.M_lower HA.1.size (hk_off (tree_beside (S := fun _ => True) (w := W1_) htr (HA.perm (hk_split (Lc := [_]))).right.lt) (hk_split (Lc := [_])).symm)); have HWS := Aside0.mk (Nat.le_trans HA.1.size hk_.1.size); replace HA := (Aw.frame (HA.perm (hk_split (Lc := [_]))) hk_).perm (hk_split (Lc := [_])).symm; clear hk_ htr; dsimp only [List.cons_append, List.nil_append] at HA; have HP1 := Aside0.mk HA; replace HA := HA.givens; simp only [Act.put, List.setIfInBounds_toArray, List.set_cons_succ, List.set_cons_zero]) | ((with_reducible refine gate_dst (N := 15) rfl ?_); refine aw_alloc rfl rfl hv_zero HA ?_; clear HA; intro gx W_ HA; simp only [Act.put, List.setIfInBounds_toArray, List.set_cons_succ, List.set_cons_zero]) | ((with_reducible refine gate_ld rfl ?_); (first | refine aw_loadc rfl rfl rfl hck ?_ ?_ | refine aw_load 0 rfl rfl HA rfl rfl rfl ?_ ?_ | refine aw_load 1 rfl rfl HA rfl rfl rfl ?_ ?_ | refine aw_load 2 rfl rfl HA rfl rfl rfl ?_ ?_ | refine aw_load 3 rfl rfl HA rfl rfl rfl ?_ ?_ | refine aw_load 4 rfl rfl HA rfl rfl rfl ?_ ?_ | refine aw_load 5 rfl rfl HA rfl rfl rfl ?_ ?_); kernel_rfl; simp only [Act.put, List.setIfInBounds_toArray, List.set_cons_succ, List.set_cons_zero]) | ((with_reducible refine gate_st rfl ?_); (first | refine aw_storeW 0 (t := 34) rfl rfl rfl rfl HA rfl rfl rfl ?_ rfl ?_ | refine aw_storeW 1 (t := 34) rfl rfl rfl rfl HA rfl rfl rfl ?_ rfl ?_ | refine aw_storeW 2 (t := 34) rfl rfl rfl rfl HA rfl rfl rfl ?_ rfl ?_ | refine aw_storeW 3 (t := 34) rfl rfl rfl rfl HA rfl rfl rfl ?_ rfl ?_ | refine aw_storeW 4 (t := 34) rfl rfl rfl rfl HA rfl rfl rfl ?_ rfl ?_); kernel_rfl; clear HA; intro W_ HA; dsimp only [List.set, List.take, List.cons_append, List.nil_append] at HA))
          (try rw [Exit.noGoto_ret])
          refine bodyPost_ret (results_ct rfl _ _ g4 34 #[.int .i64 0, .int .i64 0, .slice none 0 0] (0, 0) _ rfl (HA.at (i := 2) rfl) Try.underlying34 rfl (by kernel_rfl)) rfl ?_
          have hkv := HKV2.out
          rw [if_neg HKE.out] at hkv
          rw [HP.out, ← hkv]
          dsimp only
          rw [if_neg HKE.out]
          exact ⟨_, lf3, mn3, mf3, rfl, (fun h => absurd h HKE.out), (hk_join HP1.out HA).sub (.cons _ (.cons _ (.cons _ (.cons_cons _ (.cons_cons _ (List.nil_sublist _)))))), hk_leaf _ _ _ _ _⟩
      · have ck : decide ((k : Int) < (((N0 - 1) : Nat) : Int)) = false := decide_eq_false (by omega)
        have ck2 : decide (k < (N0 - 1)) = false := decide_eq_false (by omega)
        have hkn : k = N := by omega
        have hkv := HKV.out
        rw [List.drop_eq_nil_of_le (by rw [HKN.out]; omega), kidsV] at hkv
        have HKV2 := Aside0.mk hkv
        have HACC := Aside0.mk hacc
        clear hkv hacc hkn hkg hlt hlf0 hlf hcb1
        have HP1 := Aside0.mk HA
        replace HA := HA.givens
        obtain ⟨Ak_, cK_, rfl⟩ := own_form hownk
        go_wp2_with (first | ((with_reducible refine gate_ld rfl ?_); (first | refine aw_loadW 0 (t := 34) rfl rfl HA rfl rfl ?_ ?_ | refine aw_loadW 1 (t := 34) rfl rfl HA rfl rfl ?_ ?_ | refine aw_loadW 2 (t := 34) rfl rfl HA rfl rfl ?_ ?_); kernel_rfl; simp only [Act.put, List.setIfInBounds_toArray, List.set_cons_succ, List.set_cons_zero]) | ((with_reducible refine gate_st rfl ?_); (first | refine aw_storeW 0 (t := 34) rfl rfl rfl rfl HA rfl rfl rfl ?_ rfl ?_ | refine aw_storeW 1 (t := 34) rfl rfl rfl rfl HA rfl rfl rfl ?_ rfl ?_ | refine aw_storeW 2 (t := 34) rfl rfl rfl rfl HA rfl rfl rfl ?_ rfl ?_); kernel_rfl; clear HA; intro W_ HA; dsimp only [List.set, List.take, List.cons_append, List.nil_append] at HA))
        refine bodyPost_ret (results_ct rfl _ _ g4 34 #[.int .i64 3, .int .i64 (xv / 2), .slice Ak_ k cK_] (0, 0) _ rfl (HA.at (i := 1) rfl) Try.underlying34 rfl (by kernel_rfl)) rfl ?_
        rw [HP.out, ← HKV2.out]
        dsimp only
        rw [if_pos rfl]
        have HA9 := hk_join HP1.out HA
        have htr := trees_keep HT0.out HA.1 (fun g h => h) (fun g h => HA.newL g h)
        exact ⟨.slice Ak_ k cK_, lf, cs1.length, cellsF cs1, rfl, (fun _ => ⟨rfl, rfl, rfl⟩), HA9.sub (.cons _ (.cons _ (.cons_cons _ (.cons_cons _ (List.nil_sublist _))))), hk_top (Lc := [_]) HA9 (HACC.out ▸ hownk) HFR.out htr⟩
theorem takeV_kidsH (m : List Int) (n : Nat) (left : Int) (cs : List Int) (x : Int) (h1 : ¬ left < 1) (h2 : ¬ x % 2 = 1) (h4 : ¬ x % 4 ≠ 0) (hb : blkB m (x / 4) = true) (hk : ¬ (splV (rd m (x / 4))).1 = 2) :
    takeV m (n + 1) (left, cs) x = (if (kidsV (takeV m n) (left - 1, cs) (kidsOf m (x / 4)) []).1.2 = 0 then ((⟨(topV m (x / 4)).1, (topV m (x / 4)).2, (kidsV (takeV m n) (left - 1, cs) (kidsOf m (x / 4)) []).1.1⟩, 0), (kidsV (takeV m n) (left - 1, cs) (kidsOf m (x / 4)) []).2) else ((zV, (kidsV (takeV m n) (left - 1, cs) (kidsOf m (x / 4)) []).1.2), (kidsV (takeV m n) (left - 1, cs) (kidsOf m (x / 4)) []).2)) := by
  rw [takeV, if_neg h1, if_neg h2, if_neg h4, if_neg (by rw [hb]; decide), if_neg hk]
theorem takeV_lowH (m : List Int) (n : Nat) (left : Int) (cs : List Int) (x : Int) (h : left < 1) : takeV m n (left, cs) x = ((zV, 4), (left, cs)) := by
  cases n with
  | zero => rfl
  | succ n => rw [takeV, if_pos h]
set_option maxHeartbeats 8000000 in
set_option maxRecDepth 100000 in
theorem H_take.calls (m : List Int) (hm : m.length ≤ 1000000 ∧ ∀ x ∈ m, 0 ≤ x ∧ x < 4294967296) (A0 : Option Addr) (c0 : Nat) (hc0 : m.length ≤ c0) : ∀ (n : Nat) (left : Int) (cs : List Int) (x : Int) (W : World) (gt gm : Nat), left ≤ n → 0 ≤ left → (cs.length : Int) + left ≤ 100000 → 0 ≤ x → x < 4294967296 → (∀ W', Kp (inL [(gt, Blk.c 63 []), (gm, Blk.c 63 [])]) W W' → Kd.C (Kd.int .u32) W' A0 m.length m) → Aw (inL [(gt, Blk.c 63 []), (gm, Blk.c 63 [])]) W W [hkT gt gm A0 m.length c0 left, hkM gm cs.length (cellsF cs)] → Calls Try.prog 35 #[.pointer (some ⟨gt, 0, none⟩), .int .u32 x] W (HkPost A0 m.length c0 gt gm W (takeV m n (left, cs) x)) := by
  intro n
  induction n with
  | zero =>
    intro left cs x W gt gm hln hl0 hcb hx0 hx1 hr HA
    rw [takeV_lowH m 0 left cs x (by omega)]
    exact H_take.low m hm A0 c0 hc0 left cs x W gt gm ⟨hl0, by omega⟩ hcb hx0 hx1 hr HA
  | succ n ih =>
    intro left cs x W gt gm hln hl0 hcb hx0 hx1 hr HA
    by_cases hl : left < 1
    · rw [takeV_lowH m (n + 1) left cs x hl]
      exact H_take.low m hm A0 c0 hc0 left cs x W gt gm ⟨hl0, hl⟩ hcb hx0 hx1 hr HA
    have hl1 : 1 ≤ left := by omega
    by_cases h2 : x % 2 = 1
    · have e : takeV m (n + 1) (left, cs) x = ((⟨1, unb x, []⟩, 0), (left - 1, cs)) := by rw [takeV, if_neg hl, if_pos h2]
      rw [e]
      exact H_take.odd m hm A0 c0 hc0 left cs x W gt gm hl1 hcb hx0 hx1 hr HA h2
    by_cases h4 : x % 4 ≠ 0
    · have e : takeV m (n + 1) (left, cs) x = ((zV, 22), (left - 1, cs)) := by rw [takeV, if_neg hl, if_neg h2, if_pos h4]
      rw [e]
      exact H_take.no m hm A0 c0 hc0 left cs x W gt gm hl1 hcb hx0 hx1 hr HA h2 (.inl h4)
    cases hb : blkB m (x / 4) with
    | false =>
      have e : takeV m (n + 1) (left, cs) x = ((zV, 22), (left - 1, cs)) := by rw [takeV, if_neg hl, if_neg h2, if_neg h4, if_pos hb]
      rw [e]
      exact H_take.no m hm A0 c0 hc0 left cs x W gt gm hl1 hcb hx0 hx1 hr HA h2 (.inr hb)
    | true =>
      by_cases hk : (splV (rd m (x / 4))).1 = 2
      · have e : takeV m (n + 1) (left, cs) x = ((⟨4, (cellV cs (x / 4)).1, []⟩, 0), (left - 1, (cellV cs (x / 4)).2)) := by rw [takeV, if_neg hl, if_neg h2, if_neg h4, if_neg (by rw [hb]; decide), if_pos hk]
        rw [e]
        cases hj : cs.findIdx? (fun a => a == x / 4) with
        | none => exact H_take.new m hm A0 c0 hc0 left cs x W gt gm hl1 hcb hx0 hx1 hr HA h2 (by omega) hb hk hj
        | some j => exact H_take.old m hm A0 c0 hc0 left cs x W gt gm hl1 hcb hx0 hx1 hr HA h2 (by omega) hb hk j hj
      · rw [takeV_kidsH m n left cs x hl h2 h4 hb hk]
        have hbi := blkB_in' hb
        have hw := hm.2 _ (rd_memT (l := m) (i := x / 4) hbi.1 hbi.2.1)
        have hs := splV_size hw.1 hw.2
        by_cases hk1 : (splV (rd m (x / 4))).1 = 1
        · exact H_take.kids1 m hm A0 c0 hc0 n ih left cs x W gt gm hl1 hcb hx0 hx1 hr HA (by omega) h2 (by omega) hb hk1 _ rfl
        · exact H_take.kids0 m hm A0 c0 hc0 n ih left cs x W gt gm hl1 hcb hx0 hx1 hr HA (by omega) h2 (by omega) hb (by omega) _ rfl
end Go.Proofs.Ytaddjeegplfjiaa.Q
