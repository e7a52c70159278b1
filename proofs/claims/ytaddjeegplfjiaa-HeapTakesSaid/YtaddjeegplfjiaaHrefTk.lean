/- The reference's taking of a value. By wip/gen/ref_take.py. -/
import Derived.Test.YtaddjeegplfjiaaQx0
import Derived.Test.YtaddjeegplfjiaaQx1
import Derived.Test.YtaddjeegplfjiaaQx3
import Derived.Test.YtaddjeegplfjiaaAw
import Derived.Test.YtaddjeegplfjiaaAwAny
import Derived.Test.YtaddjeegplfjiaaAwFrame
import Derived.Test.YtaddjeegplfjiaaAwReg
import Derived.Test.YtaddjeegplfjiaaAwRs
import Derived.Test.YtaddjeegplfjiaaAwSl
import Derived.Test.YtaddjeegplfjiaaAwTree
import Derived.Test.YtaddjeegplfjiaaHeapPlain
import Derived.Test.YtaddjeegplfjiaaHeapRef
import Derived.Test.YtaddjeegplfjiaaHrefCell
import Derived.Test.YtaddjeegplfjiaaTakeM
--@needs XAwTree
--@needs XTakeM
--@needs XAwRs
--@needs XAwReg
--@needs XHrefCell
--@uses camlet/camletref41.Split
import Derived.LoopTactic
import Derived.Deep.LoopGhost
import Derived.Lib.Hide
import Derived.IntWalk
import Derived.Outline
namespace Go.Proofs.Ytaddjeegplfjiaa.Q
open Go.RowKit Go.Proofs.YtaddjeegplfjiaaW.PrintWords Go.Proofs.YtaddjeegplfjiaaW.PrintLast Go.Proofs.YtaddjeegplfjiaaW.PrintMore
attribute [local go_sem] max2_int min2_int max_two min_two max_three min_three max_four min_four   -- for this text's walks alone
set_option linter.unusedVariables false
set_option linter.unusedSimpArgs false

abbrev tkT (gt : Nat) (A0 : Option Addr) (n c0 : Nat) (left : Int) (vc : Value) : Nat × Blk := (gt, .c 67 [.slice A0 n c0, .int .i64 left, vc])
def TkPost (A0 : Option Addr) (n c0 gt : Nat) (Lc : List (Nat × Blk)) (W : World) (res : (S34 × Int) × (Int × List Int)) (e : Ending) (W' : World) : Prop :=
  ∃ (vk vc' : Value) (Lc' : List (Nat × Blk)), e = .returned (.tuple #[.agg #[.int .i64 res.1.1.f0, .int .i64 res.1.1.f1, vk], .int .i64 res.1.2]) ∧ Own 3 1 vc' res.2.2.length (res.2.2.map (Value.int .i64)) Lc' ∧
    Aw (inL ((gt, Blk.c 67 []) :: Lc)) W W' (tkT gt A0 n c0 res.2.1 vc' :: Lc') ∧ k34.M W' W.heap.size (offL (tkT gt A0 n c0 res.2.1 vc' :: Lc')) res.1.1 [.int .i64 res.1.1.f0, .int .i64 res.1.1.f1, vk]
theorem tv_zero (W : World) : (Instr.alloc 34 true (.tuple #[])).run Try.prog W = .ok (.pointer (some ⟨W.heap.size, 0, none⟩)) (W.alloc (.cells ([.int .i64 0, .int .i64 0, .slice none 0 0] : List Value).toArray 34 (0, 0))) := by kernel_rfl
theorem tk_leaf (W : World) (b : Nat) (ok : Nat → Prop) (k N : Int) : k34.M W b ok (⟨k, N, []⟩ : S34) [.int .i64 k, .int .i64 N, .slice none 0 0] := k34_mkM W b ok ⟨k, N, []⟩ (Kd.R_nil _ _ _ _ _)
theorem takeV_low (m : List Int) (n : Nat) (left : Int) (cs : List Int) (x : Int) (h : left < 1) : takeV m n (left, cs) x = ((zV, 4), (left, cs)) := by
  cases n with
  | zero => rfl
  | succ n => rw [takeV, if_pos h]
set_option maxHeartbeats 8000000 in
set_option maxRecDepth 100000 in
theorem T_take.low (m : List Int) (A0 : Option Addr) (c0 : Nat) : ∀ (n : Nat) (left : Int) (cs : List Int) (x : Int) (W : World) (gt : Nat) (vc : Value) (Lc : List (Nat × Blk)), left < 1 → Own 3 1 vc cs.length (cs.map (Value.int .i64)) Lc → Aw (inL ((gt, Blk.c 67 []) :: Lc)) W W (tkT gt A0 m.length c0 left vc :: Lc) →
    Calls Try.prog 36 #[.pointer (some ⟨gt, 0, none⟩), .int .u32 x] W (TkPost A0 m.length c0 gt Lc W (takeV m n (left, cs) x)) := by
  intro n left cs x W gt vc Lc hl hown HA
  rw [takeV_low m n left cs x hl]
  unfold tkT at HA
  have c1 : decide (left < 1) = true := decide_eq_true hl
  clear hl
  go_enter Try.func36, Try.ntmps36
  go_wp2_with (first | ((with_reducible refine gate_dst (N := 4) rfl ?_); refine aw_alloc rfl rfl tv_zero HA ?_; clear HA; intro g4 W_ HA; simp only [Act.put, List.setIfInBounds_toArray, List.set_cons_succ, List.set_cons_zero]) | ((with_reducible refine gate_ld rfl ?_); (first | refine aw_load 0 rfl rfl HA rfl rfl rfl ?_ ?_ | refine aw_load 1 rfl rfl HA rfl rfl rfl ?_ ?_); kernel_rfl; simp only [Act.put, List.setIfInBounds_toArray, List.set_cons_succ, List.set_cons_zero]) | ((with_reducible refine gate_st rfl ?_); (first | refine aw_storeW 0 (t := 34) rfl rfl rfl rfl HA rfl rfl rfl ?_ rfl ?_ | refine aw_storeW 1 (t := 34) rfl rfl rfl rfl HA rfl rfl rfl ?_ rfl ?_); kernel_rfl; clear HA; intro W_ HA; dsimp only [List.set, List.take, List.cons_append, List.nil_append] at HA))
  refine bodyPost_ret (results_ct rfl _ _ g4 34 #[.int .i64 0, .int .i64 0, .slice none 0 0] (0, 0) _ rfl (HA.at (i := 0) rfl) Try.underlying34 rfl (by kernel_rfl)) rfl ?_
  exact ⟨_, vc, Lc, rfl, hown, HA.sub (List.sublist_cons_self _ _), tk_leaf _ _ _ _ _⟩
set_option maxHeartbeats 8000000 in
set_option maxRecDepth 100000 in
theorem T_take.odd (m : List Int) (hm : m.length ≤ 1000000 ∧ ∀ x ∈ m, 0 ≤ x ∧ x < 4294967296) (A0 : Option Addr) (c0 : Nat) (hc0 : m.length ≤ c0) (left : Int) (cs : List Int) (x : Int) (W : World) (gt : Nat) (vc : Value) (Lc : List (Nat × Blk)) (hl1 : 1 ≤ left) (hcb : (cs.length : Int) + left ≤ 100000) (hx0 : 0 ≤ x) (hx1 : x < 4294967296) (hr : ∀ W', Kp (inL ((gt, Blk.c 67 []) :: Lc)) W W' → Kd.C (Kd.int .u32) W' A0 m.length m) (hown : Own 3 1 vc cs.length (cs.map (Value.int .i64)) Lc) (HA : Aw (inL ((gt, Blk.c 67 []) :: Lc)) W W (tkT gt A0 m.length c0 left vc :: Lc)) (h2 : x % 2 = 1) :
    Calls Try.prog 36 #[.pointer (some ⟨gt, 0, none⟩), .int .u32 x] W (TkPost A0 m.length c0 gt Lc W ((⟨1, unb x, []⟩, 0), (left - 1, cs))) := by
  unfold tkT at HA
  have HR := Aside0.mk hr
  have c1 : decide (left < 1) = false := decide_eq_false (by omega)
  have s0 : IntKind.i64.wrap (left - 1) = left - 1 := IntWalk.i64_in _ (by omega)
  clear hr
  have c2 : (x % 2 == 1) = true := beq_iff_eq.mpr h2
  clear h2
  go_enter Try.func36, Try.ntmps36
  go_wp2_with (first | ((with_reducible refine gate_dst (N := 4) rfl ?_); refine aw_alloc rfl rfl tv_zero HA ?_; clear HA; intro g4 W_ HA; simp only [Act.put, List.setIfInBounds_toArray, List.set_cons_succ, List.set_cons_zero]) | (go_at_call 52; refine (camletref01_Unbox.calls x _ _ (unb_eq x)).mono ?_; rintro e W_ ⟨rfl, hd_⟩; replace HA := HA.drewN0 hd_; clear hd_) | ((with_reducible refine gate_ld rfl ?_); (first | refine aw_load 0 rfl rfl HA rfl rfl rfl ?_ ?_ | refine aw_load 1 rfl rfl HA rfl rfl rfl ?_ ?_ | refine aw_load 2 rfl rfl HA rfl rfl rfl ?_ ?_); kernel_rfl; simp only [Act.put, List.setIfInBounds_toArray, List.set_cons_succ, List.set_cons_zero]) | ((with_reducible refine gate_st rfl ?_); (first | refine aw_storeW 0 (t := 34) rfl rfl rfl rfl HA rfl rfl rfl ?_ rfl ?_ | refine aw_storeW 1 (t := 34) rfl rfl rfl rfl HA rfl rfl rfl ?_ rfl ?_ | refine aw_storeW 2 (t := 34) rfl rfl rfl rfl HA rfl rfl rfl ?_ rfl ?_ | refine aw_store 0 (v := .int _ _) rfl rfl rfl rfl rfl HA rfl rfl rfl ?_ ?_ | refine aw_store 1 (v := .int _ _) rfl rfl rfl rfl rfl HA rfl rfl rfl ?_ ?_ | refine aw_store 2 (v := .int _ _) rfl rfl rfl rfl rfl HA rfl rfl rfl ?_ ?_); kernel_rfl; clear HA; intro W_ HA; dsimp only [List.set, List.take, List.cons_append, List.nil_append] at HA))
  refine bodyPost_ret (results_ct rfl _ _ g4 34 #[.int .i64 1, .int .i64 (unb x), .slice none 0 0] (0, 0) _ rfl (HA.at (i := 0) rfl) Try.underlying34 rfl (by kernel_rfl)) rfl ?_
  exact ⟨_, vc, Lc, rfl, hown, HA.sub (List.sublist_cons_self _ _), tk_leaf _ _ _ _ _⟩
set_option maxHeartbeats 8000000 in
set_option maxRecDepth 100000 in
theorem T_take.bad4 (m : List Int) (hm : m.length ≤ 1000000 ∧ ∀ x ∈ m, 0 ≤ x ∧ x < 4294967296) (A0 : Option Addr) (c0 : Nat) (hc0 : m.length ≤ c0) (left : Int) (cs : List Int) (x : Int) (W : World) (gt : Nat) (vc : Value) (Lc : List (Nat × Blk)) (hl1 : 1 ≤ left) (hcb : (cs.length : Int) + left ≤ 100000) (hx0 : 0 ≤ x) (hx1 : x < 4294967296) (hr : ∀ W', Kp (inL ((gt, Blk.c 67 []) :: Lc)) W W' → Kd.C (Kd.int .u32) W' A0 m.length m) (hown : Own 3 1 vc cs.length (cs.map (Value.int .i64)) Lc) (HA : Aw (inL ((gt, Blk.c 67 []) :: Lc)) W W (tkT gt A0 m.length c0 left vc :: Lc)) (h2 : ¬ x % 2 = 1) (h4 : x % 4 ≠ 0) :
    Calls Try.prog 36 #[.pointer (some ⟨gt, 0, none⟩), .int .u32 x] W (TkPost A0 m.length c0 gt Lc W ((zV, 22), (left - 1, cs))) := by
  unfold tkT at HA
  have HR := Aside0.mk hr
  have c1 : decide (left < 1) = false := decide_eq_false (by omega)
  have s0 : IntKind.i64.wrap (left - 1) = left - 1 := IntWalk.i64_in _ (by omega)
  clear hr
  have c2 : (x % 2 == 1) = false := beq_eq_false_iff_ne.mpr h2
  have c4 : (x % 4 != 0) = true := bne_iff_ne.mpr h4
  clear h2 h4
  go_enter Try.func36, Try.ntmps36
  go_wp2_with (first | ((with_reducible refine gate_dst (N := 4) rfl ?_); refine aw_alloc rfl rfl tv_zero HA ?_; clear HA; intro g4 W_ HA; simp only [Act.put, List.setIfInBounds_toArray, List.set_cons_succ, List.set_cons_zero]) | ((with_reducible refine gate_ld rfl ?_); (first | refine aw_load 0 rfl rfl HA rfl rfl rfl ?_ ?_ | refine aw_load 1 rfl rfl HA rfl rfl rfl ?_ ?_ | refine aw_load 2 rfl rfl HA rfl rfl rfl ?_ ?_); kernel_rfl; simp only [Act.put, List.setIfInBounds_toArray, List.set_cons_succ, List.set_cons_zero]) | ((with_reducible refine gate_st rfl ?_); (first | refine aw_storeW 0 (t := 34) rfl rfl rfl rfl HA rfl rfl rfl ?_ rfl ?_ | refine aw_storeW 1 (t := 34) rfl rfl rfl rfl HA rfl rfl rfl ?_ rfl ?_ | refine aw_storeW 2 (t := 34) rfl rfl rfl rfl HA rfl rfl rfl ?_ rfl ?_ | refine aw_store 0 (v := .int _ _) rfl rfl rfl rfl rfl HA rfl rfl rfl ?_ ?_ | refine aw_store 1 (v := .int _ _) rfl rfl rfl rfl rfl HA rfl rfl rfl ?_ ?_ | refine aw_store 2 (v := .int _ _) rfl rfl rfl rfl rfl HA rfl rfl rfl ?_ ?_); kernel_rfl; clear HA; intro W_ HA; dsimp only [List.set, List.take, List.cons_append, List.nil_append] at HA))
  refine bodyPost_ret (results_ct rfl _ _ g4 34 #[.int .i64 0, .int .i64 0, .slice none 0 0] (0, 0) _ rfl (HA.at (i := 0) rfl) Try.underlying34 rfl (by kernel_rfl)) rfl ?_
  exact ⟨_, vc, Lc, rfl, hown, HA.sub (List.sublist_cons_self _ _), tk_leaf _ _ _ _ _⟩
set_option maxHeartbeats 8000000 in
set_option maxRecDepth 100000 in
theorem T_take.nob (m : List Int) (hm : m.length ≤ 1000000 ∧ ∀ x ∈ m, 0 ≤ x ∧ x < 4294967296) (A0 : Option Addr) (c0 : Nat) (hc0 : m.length ≤ c0) (left : Int) (cs : List Int) (x : Int) (W : World) (gt : Nat) (vc : Value) (Lc : List (Nat × Blk)) (hl1 : 1 ≤ left) (hcb : (cs.length : Int) + left ≤ 100000) (hx0 : 0 ≤ x) (hx1 : x < 4294967296) (hr : ∀ W', Kp (inL ((gt, Blk.c 67 []) :: Lc)) W W' → Kd.C (Kd.int .u32) W' A0 m.length m) (hown : Own 3 1 vc cs.length (cs.map (Value.int .i64)) Lc) (HA : Aw (inL ((gt, Blk.c 67 []) :: Lc)) W W (tkT gt A0 m.length c0 left vc :: Lc)) (h2 : ¬ x % 2 = 1) (h4 : x % 4 = 0) (hb : blkB m (x / 4) = false) :
    Calls Try.prog 36 #[.pointer (some ⟨gt, 0, none⟩), .int .u32 x] W (TkPost A0 m.length c0 gt Lc W ((zV, 22), (left - 1, cs))) := by
  unfold tkT at HA
  have HR := Aside0.mk hr
  have c1 : decide (left < 1) = false := decide_eq_false (by omega)
  have s0 : IntKind.i64.wrap (left - 1) = left - 1 := IntWalk.i64_in _ (by omega)
  clear hr
  have c2 : (x % 2 == 1) = false := beq_eq_false_iff_ne.mpr h2
  have c4 : (x % 4 != 0) = false := bne_eq_false_iff_eq.mpr h4
  have HBL := Aside0.mk (blkB_eq 0 m hm (x / 4))
  rw [hb] at HBL
  clear h2 h4 hb
  go_enter Try.func36, Try.ntmps36
  go_wp2_with (first | ((with_reducible refine gate_dst (N := 4) rfl ?_); refine aw_alloc rfl rfl tv_zero HA ?_; clear HA; intro g4 W_ HA; simp only [Act.put, List.setIfInBounds_toArray, List.set_cons_succ, List.set_cons_zero]) | (go_at_call 53; refine (camletref41_block.calls 1 A0 c0 m (x / 4) _ _ (HR.out _ HA.1) hc0 HBL.out).mono ?_; rintro e W_ ⟨rfl, hd_⟩; replace HA := HA.drewN0 hd_; clear hd_) | ((with_reducible refine gate_ld rfl ?_); (first | refine aw_load 0 rfl rfl HA rfl rfl rfl ?_ ?_ | refine aw_load 1 rfl rfl HA rfl rfl rfl ?_ ?_ | refine aw_load 2 rfl rfl HA rfl rfl rfl ?_ ?_); kernel_rfl; simp only [Act.put, List.setIfInBounds_toArray, List.set_cons_succ, List.set_cons_zero]) | ((with_reducible refine gate_st rfl ?_); (first | refine aw_storeW 0 (t := 34) rfl rfl rfl rfl HA rfl rfl rfl ?_ rfl ?_ | refine aw_storeW 1 (t := 34) rfl rfl rfl rfl HA rfl rfl rfl ?_ rfl ?_ | refine aw_storeW 2 (t := 34) rfl rfl rfl rfl HA rfl rfl rfl ?_ rfl ?_ | refine aw_store 0 (v := .int _ _) rfl rfl rfl rfl rfl HA rfl rfl rfl ?_ ?_ | refine aw_store 1 (v := .int _ _) rfl rfl rfl rfl rfl HA rfl rfl rfl ?_ ?_ | refine aw_store 2 (v := .int _ _) rfl rfl rfl rfl rfl HA rfl rfl rfl ?_ ?_); kernel_rfl; clear HA; intro W_ HA; dsimp only [List.set, List.take, List.cons_append, List.nil_append] at HA))
  refine bodyPost_ret (results_ct rfl _ _ g4 34 #[.int .i64 0, .int .i64 0, .slice none 0 0] (0, 0) _ rfl (HA.at (i := 0) rfl) Try.underlying34 rfl (by kernel_rfl)) rfl ?_
  exact ⟨_, vc, Lc, rfl, hown, HA.sub (List.sublist_cons_self _ _), tk_leaf _ _ _ _ _⟩
theorem blkB_in {m : List Int} {a : Int} (h : blkB m a = true) : 0 ≤ a ∧ a < (m.length : Int) ∧ (splV (rd m a)).2.2.2 = true ∧ a + (splV (rd m a)).2.2.1 < (m.length : Int) ∧ ((splV (rd m a)).1 = 1 → Int.tmod (rd m (a + 1)) 2 = 1) := by
  unfold blkB at h
  simp only [Bool.and_eq_true, decide_eq_true_eq, Bool.or_eq_true, Bool.not_eq_true', decide_eq_false_iff_not, beq_iff_eq] at h
  exact ⟨h.1, h.2.1, h.2.2.1, h.2.2.2.1, fun h1 => h.2.2.2.2.resolve_left (fun h2 => h2 h1)⟩
theorem tk_side {S : Nat → Prop} {w W W' : World} {y : Nat × Blk} {L L' : List (Nat × Blk)} (HA : Aw S w W (y :: L)) (hk : Aw (inL L) W W' L') : Aw S w W' (y :: L') := by
  have h := Aw.frame (R := [y]) (HA.perm (List.perm_append_comm (l₁ := [y]) (l₂ := L))) hk
  exact h.perm (List.perm_append_comm (l₁ := L') (l₂ := [y]))
set_option maxHeartbeats 8000000 in
set_option maxRecDepth 100000 in
theorem T_take.cel (m : List Int) (hm : m.length ≤ 1000000 ∧ ∀ x ∈ m, 0 ≤ x ∧ x < 4294967296) (A0 : Option Addr) (c0 : Nat) (hc0 : m.length ≤ c0) (left : Int) (cs : List Int) (x : Int) (W : World) (gt : Nat) (vc : Value) (Lc : List (Nat × Blk)) (hl1 : 1 ≤ left) (hcb : (cs.length : Int) + left ≤ 100000) (hx0 : 0 ≤ x) (hx1 : x < 4294967296) (hr : ∀ W', Kp (inL ((gt, Blk.c 67 []) :: Lc)) W W' → Kd.C (Kd.int .u32) W' A0 m.length m) (hown : Own 3 1 vc cs.length (cs.map (Value.int .i64)) Lc) (HA : Aw (inL ((gt, Blk.c 67 []) :: Lc)) W W (tkT gt A0 m.length c0 left vc :: Lc)) (h2 : ¬ x % 2 = 1) (h4 : x % 4 = 0) (hb : blkB m (x / 4) = true) (hk2 : (splV (rd m (x / 4))).1 = 2) :
    Calls Try.prog 36 #[.pointer (some ⟨gt, 0, none⟩), .int .u32 x] W (TkPost A0 m.length c0 gt Lc W ((⟨4, (cellV cs (x / 4)).1, []⟩, 0), (left - 1, (cellV cs (x / 4)).2))) := by
  unfold tkT at HA
  have HR := Aside0.mk hr
  have c1 : decide (left < 1) = false := decide_eq_false (by omega)
  have s0 : IntKind.i64.wrap (left - 1) = left - 1 := IntWalk.i64_in _ (by omega)
  clear hr
  have c2 : (x % 2 == 1) = false := beq_eq_false_iff_ne.mpr h2
  have c4 : (x % 4 != 0) = false := bne_eq_false_iff_eq.mpr h4
  have HBL := Aside0.mk (blkB_eq 0 m hm (x / 4))
  rw [hb] at HBL
  have ha := blkB_in hb
  have hxw := hm.2 _ (rd_memT (l := m) (i := x / 4) ha.1 ha.2.1)
  have HSP := Aside0.mk (ref41_Split_eq 0 _ hxw.1 hxw.2)
  have hsz := splV_size hxw.1 hxw.2
  have ha1 := ha.1
  have ha2 := ha.2.1
  have i1 : decide (0 ≤ x / 4) = true := decide_eq_true ha1
  have i2 : decide (x / 4 < (m.length : Int)) = true := decide_eq_true ha2
  obtain ⟨ad, had, _⟩ := Kd.at_int (HR.out _ (Kp.refl _ _)) (x / 4) ha1 ha2
  subst had
  have hcell : ∀ W', Kp (inL ((gt, Blk.c 67 []) :: Lc)) W W' → W'.cell? (ad.add (x / 4).toNat) = some (.int .u32 (rd m (x / 4))) := fun W' hk => by
    obtain ⟨ad2, e2, h⟩ := Kd.at_int (HR.out _ hk) (x / 4) ha1 ha2
    cases e2
    exact h
  have HCL := Aside0.mk hcell
  obtain ⟨xw, hxe⟩ : ∃ xw, rd m (x / 4) = xw := ⟨_, rfl⟩
  rw [hxe] at HSP HCL hsz
  rw [hxe] at hk2
  obtain ⟨q, hq⟩ : ∃ q, splV xw = q := ⟨_, rfl⟩
  obtain ⟨s1, s2, s3, s4⟩ := q
  rw [hq] at HSP hk2
  dsimp only at hk2
  have k2 : (s1 == 2) = true := beq_iff_eq.mpr hk2
  clear hk2
  clear h2 h4 hb ha hxw hsz hxe hq
  go_enter Try.func36, Try.ntmps36
  go_wp2_with (first | ((with_reducible refine gate_dst (N := 4) rfl ?_); refine aw_alloc rfl rfl tv_zero HA ?_; clear HA; intro g4 W_ HA; simp only [Act.put, List.setIfInBounds_toArray, List.set_cons_succ, List.set_cons_zero]) | (go_at_call 53; refine (camletref41_block.calls 1 (some ad) c0 m (x / 4) _ _ (HR.out _ HA.1) hc0 HBL.out).mono ?_; rintro e W_ ⟨rfl, hd_⟩; replace HA := HA.drewN0 hd_; clear hd_) | (go_at_call 11; refine (camletref41_Split.calls 1 xw s1 s2 s3 s4 _ HSP.out).mono ?_; rintro e W_ ⟨rfl, hd_⟩; replace HA := HA.drewN0 hd_; clear hd_) | (go_at_call 54; refine (T_cell.calls (x / 4) hown (HA.sub (List.sublist_cons_self _ _)).givens (by omega)).mono ?_; rintro e W_ ⟨rfl, vc2, Lc2, hown2, hk_⟩; replace HA := tk_side HA hk_; clear hk_) | ((with_reducible refine gate_ld rfl ?_); (first | refine aw_loadc rfl rfl rfl (HCL.out _ HA.1) ?_ ?_ | refine aw_load 0 rfl rfl HA rfl rfl rfl ?_ ?_ | refine aw_load 1 rfl rfl HA rfl rfl rfl ?_ ?_ | refine aw_load 2 rfl rfl HA rfl rfl rfl ?_ ?_); kernel_rfl; simp only [Act.put, List.setIfInBounds_toArray, List.set_cons_succ, List.set_cons_zero]) | ((with_reducible refine gate_st rfl ?_); (first | refine aw_storeW 0 (t := 34) rfl rfl rfl rfl HA rfl rfl rfl ?_ rfl ?_ | refine aw_storeW 1 (t := 34) rfl rfl rfl rfl HA rfl rfl rfl ?_ rfl ?_ | refine aw_storeW 2 (t := 34) rfl rfl rfl rfl HA rfl rfl rfl ?_ rfl ?_ | refine aw_store 0 (v := .int _ _) rfl rfl rfl rfl rfl HA rfl rfl rfl ?_ ?_ | refine aw_store 1 (v := .int _ _) rfl rfl rfl rfl rfl HA rfl rfl rfl ?_ ?_ | refine aw_store 2 (v := .int _ _) rfl rfl rfl rfl rfl HA rfl rfl rfl ?_ ?_); kernel_rfl; clear HA; intro W_ HA; dsimp only [List.set, List.take, List.cons_append, List.nil_append] at HA))
  refine bodyPost_ret (results_ct rfl _ _ g4 34 #[.int .i64 4, .int .i64 (cellV cs (x / 4)).1, .slice none 0 0] (0, 0) _ rfl (HA.at (i := 0) rfl) Try.underlying34 rfl (by kernel_rfl)) rfl ?_
  exact ⟨_, vc2, Lc2, rfl, hown2, HA.sub (List.sublist_cons_self _ _), tk_leaf _ _ _ _ _⟩
theorem tk_split {A0 : Option Addr} {m c0 gt gv g4 : Nat} {lf : Int} {vc : Value} {b1 b2 : Blk} {Lc Lk : List (Nat × Blk)} : ((gv, b1) :: (g4, b2) :: tkT gt A0 m c0 lf vc :: (Lc ++ Lk)).Perm ((tkT gt A0 m c0 lf vc :: Lc) ++ ((gv, b1) :: (g4, b2) :: Lk)) := by
  have h1 : ((gv, b1) :: (g4, b2) :: tkT gt A0 m c0 lf vc :: (Lc ++ Lk)).Perm (((tkT gt A0 m c0 lf vc :: Lc) ++ Lk) ++ [(gv, b1), (g4, b2)]) := List.perm_append_comm (l₁ := [(gv, b1), (g4, b2)]) (l₂ := (tkT gt A0 m c0 lf vc :: Lc) ++ Lk)
  refine h1.trans ?_
  rw [List.append_assoc]
  exact List.Perm.append_left _ (List.perm_append_comm (l₁ := Lk) (l₂ := [(gv, b1), (g4, b2)]))
theorem inL_perm {L L' : List (Nat × Blk)} (h : L.Perm L') (g : Nat) : inL L g ↔ inL L' g := (h.map (·.1)).mem_iff
theorem offL_perm {α : Type} {d : Kd α} {W : World} {b : Nat} {L L' : List (Nat × Blk)} {x : α} {cs : List Value} (h : d.M W b (offL L) x cs) (hp : L.Perm L') : d.M W b (offL L') x cs := d.M_mono (fun k hk hi => hk ((inL_perm hp k).2 hi)) h
theorem tk_reps_snoc {R : S34 → List Value → Prop} {acc : List S34} {inner c : List Value} {x : S34} (h : Reps R 3 acc inner) (hx : R x c) (hc : c.length = 3) : Reps R 3 (acc ++ [x]) (inner ++ c) := h.snoc hx hc
/-- what the call of itself has made stands beside what is known -/
theorem tk_call {S : Nat → Prop} {w wx W1 : World} {A0 : Option Addr} {m c0 gt gv g4 : Nat} {lf lf2 : Int} {vc vc2 : Value} {b1 b2 : Blk} {Lc Lc2 Lk : List (Nat × Blk)} (HA : Aw S w wx ((gv, b1) :: (g4, b2) :: tkT gt A0 m c0 lf vc :: (Lc ++ Lk))) (hk : Aw (inL ((gt, Blk.c 67 []) :: Lc)) wx W1 (tkT gt A0 m c0 lf2 vc2 :: Lc2)) :
    Aw S w W1 ((gv, b1) :: (g4, b2) :: tkT gt A0 m c0 lf2 vc2 :: (Lc2 ++ Lk)) := (Aw.frame (HA.perm tk_split) hk).perm tk_split.symm
theorem tk_call_in {S : Nat → Prop} {w wx W1 : World} {A0 : Option Addr} {m c0 gt gv g4 : Nat} {lf lf2 : Int} {vc vc2 : Value} {b1 b2 : Blk} {Lc Lc2 Lk : List (Nat × Blk)} (HA : Aw S w wx ((gv, b1) :: (g4, b2) :: tkT gt A0 m c0 lf vc :: (Lc ++ Lk))) (hk : Aw (inL ((gt, Blk.c 67 []) :: Lc)) wx W1 (tkT gt A0 m c0 lf2 vc2 :: Lc2)) :
    (∀ g, inL ((gt, Blk.c 67 []) :: Lc) g → inL ((gv, b1) :: (g4, b2) :: tkT gt A0 m c0 lf vc :: (Lc ++ Lk)) g) ∧ (∀ g, inL ((gv, b1) :: (g4, b2) :: tkT gt A0 m c0 lf2 vc2 :: (Lc2 ++ Lk)) g → inL ((gv, b1) :: (g4, b2) :: tkT gt A0 m c0 lf vc :: (Lc ++ Lk)) g ∨ wx.heap.size ≤ g) := by
  have h1 : ∀ g, inL ((gt, Blk.c 67 []) :: Lc) g → inL ((gv, b1) :: (g4, b2) :: tkT gt A0 m c0 lf vc :: (Lc ++ Lk)) g := fun g hg => (inL_perm tk_split g).2 (by
    obtain ⟨y, hy, he⟩ := List.mem_map.1 hg
    rcases List.mem_cons.1 hy with rfl | hy
    · exact List.mem_map.2 ⟨tkT gt A0 m c0 lf vc, by simp, he⟩
    · exact List.mem_map.2 ⟨y, by simp [hy], he⟩)
  refine ⟨h1, fun g hg => ?_⟩
  obtain ⟨y, hy, he⟩ := List.mem_map.1 ((inL_perm tk_split g).1 hg)
  rcases List.mem_append.1 hy with hy | hy
  · rcases hk.newL g (List.mem_map.2 ⟨y, hy, he⟩) with h | h
    · exact .inl (h1 g h)
    · exact .inr h
  · refine .inl ((inL_perm tk_split g).2 (List.mem_map.2 ⟨y, List.mem_append_right _ hy, he⟩))
theorem tk_sub {b1 b2 : Nat × Blk} {y : Nat × Blk} {Lc Lk : List (Nat × Blk)} : (y :: Lc).Sublist (b1 :: b2 :: y :: (Lc ++ Lk)) := .cons _ (.cons _ (.cons_cons _ (List.sublist_append_left _ _)))
theorem tk_zeroM (W : World) (b : Nat) (ok : Nat → Prop) : k34.M W b ok zV [.int .i64 0, .int .i64 0, .slice none 0 0] := tk_leaf W b ok 0 0
theorem tk_join {S : Nat → Prop} {w W1 W' : World} {L2 L3 : List (Nat × Blk)} (HP : Aw S w W1 L2) (HA : Aw (inL L2) W1 W' L3) : Aw S w W' L3 := by
  have h := Aw.frame (R := []) (by rw [List.append_nil]; exact HP) HA
  rwa [List.append_nil] at h
theorem tk_drop {α : Type} (a b c d e : α) (l r : List α) : (a :: b :: c :: d :: e :: (l ++ r)).drop (5 + l.length) = r := by
  rw [Nat.add_comm]
  show (l ++ r).drop l.length = r
  exact List.drop_left
theorem tk_take {α : Type} (a b c d e : α) (l r : List α) : (a :: b :: c :: d :: e :: (l ++ r)).take (5 + l.length) = a :: b :: c :: d :: e :: l := by
  rw [Nat.add_comm]
  show a :: b :: c :: d :: e :: (l ++ r).take l.length = _
  rw [List.take_left]
theorem tv_info : (Try.prog.info? 34).map (fun i => (i.zero, i.size, i.bytes)) = some (some (.agg #[.int .i64 0, .int .i64 0, .slice none 0 0]), 3, 40) := by kernel_rfl
theorem tk_top {S : Nat → Prop} {w W : World} {A0 : Option Addr} {m c0 gt gv g4 : Nat} {lf : Int} {vc vk : Value} {b1 b2 : Blk} {Lc Lk : List (Nat × Blk)} {acc : List S34} {inner : List Value} {b : Nat} {f0 f1 : Int} (HA : Aw S w W ((gv, b1) :: (g4, b2) :: tkT gt A0 m c0 lf vc :: (Lc ++ Lk))) (hown : Own 34 3 vk acc.length inner Lk) (hfr : ∀ y ∈ Lk, b ≤ y.1)
    (htr : Reps (k34.M W b (offL ((gv, b1) :: (g4, b2) :: tkT gt A0 m c0 lf vc :: (Lc ++ Lk)))) 3 acc inner) : k34.M W b (offL (tkT gt A0 m c0 lf vc :: Lc)) (⟨f0, f1, acc⟩ : S34) [.int .i64 f0, .int .i64 f1, vk] := by
  refine k34_mkM W b _ ⟨f0, f1, acc⟩ ⟨fun k hk hi => ?_, inner, hown.rowAt HA (fun y hy => by simp [hy]) hfr, reps_imp htr (fun p c hp => k34.M_mono (fun k hk => ⟨fun hi => hk ?_, fun he => hk ?_⟩) hp)⟩
  · obtain ⟨_, ⟨rfl, _, _⟩ | ⟨g, cap, rfl, _, rfl⟩⟩ := hown
    · cases hk
    · have e : g = k := by simpa [Value.ownBlock] using hk
      subst e
      have hd := (HA.perm tk_split).2.2
      rw [List.map_append, List.nodup_append] at hd
      exact hd.2.2 g hi g (by simp) rfl
  · exact (inL_perm tk_split k).2 (by
      obtain ⟨y, hy, he⟩ := List.mem_map.1 hi
      exact List.mem_map.2 ⟨y, List.mem_append_left _ hy, he⟩)
  · obtain ⟨_, ⟨rfl, _, _⟩ | ⟨g, cap, rfl, _, rfl⟩⟩ := hown
    · cases he
    · have e : k = g := by simpa [Value.ownBlock] using he
      subst e
      simp
theorem kidsOf_len (m : List Int) (a : Int) (h0 : 0 ≤ a) (h1 : a + (splV (rd m a)).2.2.1 < (m.length : Int)) (h2 : 1 ≤ (splV (rd m a)).2.2.1) : ((kidsOf m a).length : Int) = a + (splV (rd m a)).2.2.1 + 1 - kidsFrom m a := by
  unfold kidsOf
  rw [List.length_take, List.length_drop]
  unfold kidsFrom
  split <;> omega
theorem kidsOf_at (m : List Int) (a : Int) (h0 : 0 ≤ a) (h1 : a + (splV (rd m a)).2.2.1 < (m.length : Int)) (h2 : 1 ≤ (splV (rd m a)).2.2.1) (k : Nat) (hk : k < (kidsOf m a).length) : (kidsOf m a).drop k = rd m (kidsFrom m a + k) :: (kidsOf m a).drop (k + 1) := by
  rw [List.drop_eq_getElem_cons hk]
  congr 1
  have hl := kidsOf_len m a h0 h1 h2
  have hf : a + 1 ≤ kidsFrom m a := by unfold kidsFrom; split <;> omega
  have hi : (kidsFrom m a + k).toNat < m.length := by omega
  have e : (kidsOf m a)[k]? = m[(kidsFrom m a + k).toNat]? := by
    have hk2 := hk
    unfold kidsOf at hk2 ⊢
    rw [List.length_take, List.length_drop] at hk2
    rw [List.getElem?_take_of_lt (by omega), List.getElem?_drop]
    congr 1
    omega
  rw [List.getElem?_eq_getElem hk, List.getElem?_eq_getElem hi] at e
  unfold rd
  rw [List.getD_eq_getElem?_getD, List.getElem?_eq_getElem hi, Option.getD_some]
  exact Option.some.inj e
theorem tk_form {W : World} {b : Nat} {ok : Nat → Prop} {x : S34} {a c vq : Value} (h : k34.M W b ok x [a, c, vq]) : ∃ A n, vq = .slice A x.f2.length n ∧ True := by
  obtain ⟨v2, e, hR⟩ := k34_openM h
  obtain ⟨A, n, e2⟩ := Kd.R_slice hR
  have e3 : vq = v2 := by
    have := congrArg (fun l => l[2]?) e
    simpa using this
  exact ⟨A, n, e3.trans e2, trivial⟩
set_option maxHeartbeats 8000000 in
set_option maxRecDepth 100000 in
theorem T_take.kids0 (m : List Int) (hm : m.length ≤ 1000000 ∧ ∀ x ∈ m, 0 ≤ x ∧ x < 4294967296) (A0 : Option Addr) (c0 : Nat) (hc0 : m.length ≤ c0) (n : Nat) (hIH : ∀ (left : Int) (cs : List Int) (x : Int) (W : World) (gt : Nat) (vc : Value) (Lc : List (Nat × Blk)), left ≤ n → 0 ≤ left → (cs.length : Int) + left ≤ 100000 → 0 ≤ x → x < 4294967296 → (∀ W', Kp (inL ((gt, Blk.c 67 []) :: Lc)) W W' → Kd.C (Kd.int .u32) W' A0 m.length m) → Own 3 1 vc cs.length (cs.map (Value.int .i64)) Lc → Aw (inL ((gt, Blk.c 67 []) :: Lc)) W W (tkT gt A0 m.length c0 left vc :: Lc) → Calls Try.prog 36 #[.pointer (some ⟨gt, 0, none⟩), .int .u32 x] W (TkPost A0 m.length c0 gt Lc W (takeV m n (left, cs) x)))
    (left : Int) (cs : List Int) (x : Int) (W : World) (gt : Nat) (vc : Value) (Lc : List (Nat × Blk)) (hl1 : 1 ≤ left) (hcb : (cs.length : Int) + left ≤ 100000) (hx0 : 0 ≤ x) (hx1 : x < 4294967296) (hr : ∀ W', Kp (inL ((gt, Blk.c 67 []) :: Lc)) W W' → Kd.C (Kd.int .u32) W' A0 m.length m) (hown : Own 3 1 vc cs.length (cs.map (Value.int .i64)) Lc) (HA : Aw (inL ((gt, Blk.c 67 []) :: Lc)) W W (tkT gt A0 m.length c0 left vc :: Lc)) (hln : left ≤ n + 1) (h2 : ¬ x % 2 = 1) (h4 : x % 4 = 0) (hb : blkB m (x / 4) = true) (hk2 : (splV (rd m (x / 4))).1 = 0) (res : (List S34 × Int) × (Int × List Int)) (hres : kidsV (takeV m n) (left - 1, cs) (kidsOf m (x / 4)) [] = res) :
    Calls Try.prog 36 #[.pointer (some ⟨gt, 0, none⟩), .int .u32 x] W (TkPost A0 m.length c0 gt Lc W (if res.1.2 = 0 then ((⟨(topV m (x / 4)).1, (topV m (x / 4)).2, res.1.1⟩, 0), res.2) else ((zV, res.1.2), res.2))) := by
  unfold tkT at HA
  have HR := Aside0.mk hr
  have c1 : decide (left < 1) = false := decide_eq_false (by omega)
  have s0 : IntKind.i64.wrap (left - 1) = left - 1 := IntWalk.i64_in _ (by omega)
  clear hr
  have c2 : (x % 2 == 1) = false := beq_eq_false_iff_ne.mpr h2
  have c4 : (x % 4 != 0) = false := bne_eq_false_iff_eq.mpr h4
  have HBL := Aside0.mk (blkB_eq 0 m hm (x / 4))
  rw [hb] at HBL
  have ha := blkB_in hb
  have hxw := hm.2 _ (rd_memT (l := m) (i := x / 4) ha.1 ha.2.1)
  have HSP := Aside0.mk (ref41_Split_eq 0 _ hxw.1 hxw.2)
  have hsz := splV_size hxw.1 hxw.2
  have ha1 := ha.1
  have ha2 := ha.2.1
  have i1 : decide (0 ≤ x / 4) = true := decide_eq_true ha1
  have i2 : decide (x / 4 < (m.length : Int)) = true := decide_eq_true ha2
  obtain ⟨ad, had, _⟩ := Kd.at_int (HR.out _ (Kp.refl _ _)) (x / 4) ha1 ha2
  subst had
  have hcell : ∀ W', Kp (inL ((gt, Blk.c 67 []) :: Lc)) W W' → W'.cell? (ad.add (x / 4).toNat) = some (.int .u32 (rd m (x / 4))) := fun W' hk => by
    obtain ⟨ad2, e2, h⟩ := Kd.at_int (HR.out _ hk) (x / 4) ha1 ha2
    cases e2
    exact h
  have HCL := Aside0.mk hcell
  obtain ⟨xw, hxe⟩ : ∃ xw, rd m (x / 4) = xw := ⟨_, rfl⟩
  rw [hxe] at HSP HCL hsz
  have HIH := Lib.hid hIH
  clear hIH
  obtain ⟨F, hF⟩ : ∃ F, kidsFrom m (x / 4) = F := ⟨_, rfl⟩
  obtain ⟨tk, htk⟩ : ∃ y, (topV m (x / 4)).1 = y := ⟨_, rfl⟩
  obtain ⟨tn, htn⟩ : ∃ y, (topV m (x / 4)).2 = y := ⟨_, rfl⟩
  have hFv : F = x / 4 + 1 := by rw [← hF]; unfold kidsFrom; rw [if_neg (by rw [hk2]; decide)]
  have htkv : tk = 2 := by rw [← htk]; unfold topV; rw [if_neg (by rw [hk2]; decide)]
  have htnv : tn = (splV (rd m (x / 4))).2.1 := by rw [← htn]; unfold topV; rw [if_neg (by rw [hk2]; decide)]
  have hsz1 := hsz.2.2.2.2.2.2 (by rw [← hxe]; exact ha.2.2.1)
  have hsz2 := hsz.2.2.2.2.2.1
  have hKl := kidsOf_len m (x / 4) ha1 ha.2.2.2.1 (by rw [hxe]; exact hsz1)
  have hKa := kidsOf_at m (x / 4) ha1 ha.2.2.2.1 (by rw [hxe]; exact hsz1)
  have hlast := ha.2.2.2.1
  rw [hxe] at hk2 hKl hlast
  rw [hF] at hKl hKa
  obtain ⟨K, hK⟩ : ∃ K, kidsOf m (x / 4) = K := ⟨_, rfl⟩
  rw [hK] at hres hKl hKa
  obtain ⟨q, hq⟩ : ∃ q, splV xw = q := ⟨_, rfl⟩
  obtain ⟨s1, s2, s3, s4⟩ := q
  rw [hq] at HSP hk2 hsz1 hsz2 hKl hlast
  dsimp only at hk2 hsz1 hsz2 hKl hlast
  rw [htk, htn]
  rw [hxe, hq] at htnv; dsimp only at htnv; replace htnv := htnv.symm
  have HW2 : Aside0 True := ⟨trivial⟩
  have k2 : (s1 == 2) = false := beq_eq_false_iff_ne.mpr (by omega)
  have k1 : (s1 == 1) = false := beq_eq_false_iff_ne.mpr (by omega)
  have w1 : IntKind.i64.wrap (x / 4 + 1) = x / 4 + 1 := IntWalk.i64_in _ (by omega)
  have w2 : IntKind.i64.wrap (x / 4 + 1 + 1) = x / 4 + 1 + 1 := IntWalk.i64_in _ (by omega)
  have w3 : IntKind.i64.wrap (x / 4 + s3) = x / 4 + s3 := IntWalk.i64_in _ (by omega)
  have hFb : x / 4 + 1 ≤ F ∧ F ≤ x / 4 + 2 := by omega
  obtain ⟨N, hN⟩ : ∃ N, K.length = N := ⟨_, rfl⟩
  rw [hN] at hKl hKa
  subst htkv htnv hFv
  have hm1 := hm.1
  have hm2 := hm.2
  have HKA := Lib.hid hKa
  have HM2 := Lib.hid hm2
  have HKN := Lib.hid hN
  obtain ⟨P, HP⟩ : ∃ P : Ending → World → Prop, Aside0 (P = TkPost (some ad) m.length c0 gt Lc W (if res.1.2 = 0 then ((⟨2, s2, res.1.1⟩, 0), res.2) else ((zV, res.1.2), res.2))) := ⟨_, ⟨rfl⟩⟩
  rw [← HP.out]
  have HRES := Aside0.mk hres
  have HRC : RowKit.Hid (∀ (wx : World) {lf : Int} {vc1 : Value} {b1 b2 : Blk} {gv g4 : Nat} {Lc1 Lk : List (Nat × Blk)}, Aw (inL ((gt, Blk.c 67 []) :: Lc)) W wx ((gv, b1) :: (g4, b2) :: tkT gt (some ad) m.length c0 lf vc1 :: (Lc1 ++ Lk)) → ∀ W', Kp (inL ((gt, Blk.c 67 []) :: Lc1)) wx W' → Kd.C (Kd.int .u32) W' (some ad) m.length m) := Lib.hid (fun wx lf vc1 b1 b2 gv g4 Lc1 Lk hA W' hk => HR.out W' (hA.1.trans hk (fun k hk2 => (hA.newL k ((inL_perm tk_split k).2 (by
    obtain ⟨y, hy, he⟩ := List.mem_map.1 hk2
    rcases List.mem_cons.1 hy with rfl | hy
    · exact List.mem_map.2 ⟨tkT gt (some ad) m.length c0 lf vc1, by simp, he⟩
    · exact List.mem_map.2 ⟨y, by simp [hy], he⟩))))))
  clear hres hKa hm hN hm2 hK hF htk htn ha hxw hsz hxe hq hb h2 h4 
  go_enter Try.func36, Try.ntmps36
  go_wp2_with (first | ((with_reducible refine gate_dst (N := 4) rfl ?_); refine aw_alloc rfl rfl tv_zero HA ?_; clear HA; intro g4 W_ HA; simp only [Act.put, List.setIfInBounds_toArray, List.set_cons_succ, List.set_cons_zero]) | ((with_reducible refine gate_dst (N := 11) rfl ?_); refine aw_alloc rfl rfl tv_zero HA ?_; clear HA; intro gv W_ HA; simp only [Act.put, List.setIfInBounds_toArray, List.set_cons_succ, List.set_cons_zero]) | (go_at_call 53; refine (camletref41_block.calls 1 (some ad) c0 m (x / 4) _ _ (HR.out _ HA.1) hc0 HBL.out).mono ?_; rintro e W_ ⟨rfl, hd_⟩; replace HA := HA.drewN0 hd_; clear hd_) | (go_at_call 11; refine (camletref41_Split.calls 1 xw s1 s2 s3 s4 _ HSP.out).mono ?_; rintro e W_ ⟨rfl, hd_⟩; replace HA := HA.drewN0 hd_; clear hd_) | ((with_reducible refine gate_ld rfl ?_); (first | refine aw_loadc rfl rfl rfl (HCL.out _ HA.1) ?_ ?_ | refine aw_load 0 rfl rfl HA rfl rfl rfl ?_ ?_ | refine aw_load 1 rfl rfl HA rfl rfl rfl ?_ ?_ | refine aw_load 2 rfl rfl HA rfl rfl rfl ?_ ?_); kernel_rfl; simp only [Act.put, List.setIfInBounds_toArray, List.set_cons_succ, List.set_cons_zero]) | ((with_reducible refine gate_st rfl ?_); (first | refine aw_storeW 0 (t := 34) rfl rfl rfl rfl HA rfl rfl rfl ?_ rfl ?_ | refine aw_storeW 1 (t := 34) rfl rfl rfl rfl HA rfl rfl rfl ?_ rfl ?_ | refine aw_storeW 2 (t := 34) rfl rfl rfl rfl HA rfl rfl rfl ?_ rfl ?_ | refine aw_store 0 (v := .int _ _) rfl rfl rfl rfl rfl HA rfl rfl rfl ?_ ?_ | refine aw_store 1 (v := .int _ _) rfl rfl rfl rfl rfl HA rfl rfl rfl ?_ ?_ | refine aw_store 2 (v := .int _ _) rfl rfl rfl rfl rfl HA rfl rfl rfl ?_ ?_); kernel_rfl; clear HA; intro W_ HA; dsimp only [List.set, List.take, List.cons_append, List.nil_append] at HA))
  go_loopg [13] N (fun g i wx => ∃ (k : Nat) (lf : Int) (cs1 : List Int) (acc : List S34) (inner : List Value) (vc1 vk : Value) (Lc1 Lk : List (Nat × Blk)), k + g = N ∧ i = .int .i64 ((x / 4 + 1) + k) ∧ 0 ≤ lf ∧ lf ≤ n ∧ (cs1.length : Int) + lf ≤ 100000 ∧ acc.length = k ∧ Aside0 (kidsV (takeV m n) (lf, cs1) (K.drop k) acc = res) ∧ Own 3 1 vc1 cs1.length (cs1.map (Value.int .i64)) Lc1 ∧ Own 34 3 vk k inner Lk ∧ Reps (k34.M wx W.heap.size (offL ((gv, Blk.c 34 [.int .i64 2, .int .i64 s2, vk]) :: (g4, Blk.c 34 [.int .i64 0, .int .i64 0, .slice none 0 0]) :: tkT gt (some ad) m.length c0 lf vc1 :: (Lc1 ++ Lk)))) 3 acc inner ∧ (∀ y ∈ Lk, W.heap.size ≤ y.1) ∧ Aw (inL ((gt, Blk.c 67 []) :: Lc)) W wx ((gv, .c 34 [.int .i64 2, .int .i64 s2, vk]) :: (g4, .c 34 [.int .i64 0, .int .i64 0, .slice none 0 0]) :: tkT gt (some ad) m.length c0 lf vc1 :: (Lc1 ++ Lk)))
  case atStart => exact ⟨0, left - 1, cs, [], [], vc, .slice none 0 0, Lc, [], by omega, by simp, by omega, by omega, by omega, rfl, ⟨by rw [List.drop_zero]; exact HRES.out⟩, hown, Own.nil _ _, Reps.none _ _, by simp, Aw.congr HA (by simp [tkT, HW2.out])⟩
  case round =>
    clear HA
    obtain ⟨k, lf, cs1, acc, inner, vc1, vk, Lc1, Lk, hkg, rfl, hlf0, hlf, hcb1, hacc, HKV, hown1, hownk, htrees, hfr, HA⟩ := hrel
    have HT0 := Aside0.mk htrees
    have HFR := Aside0.mk hfr
    clear htrees hfr
    by_cases hlt : k < N
    · have ck : decide ((x / 4 + 1) + (k : Int) ≤ x / 4 + s3) = true := decide_eq_true (by omega)
      have j1 : decide (0 ≤ (x / 4 + 1) + (k : Int)) = true := decide_eq_true (by omega)
      have j2 : decide ((x / 4 + 1) + (k : Int) < (m.length : Int)) = true := decide_eq_true (by omega)
      have w4 : IntKind.i64.wrap ((x / 4 + 1) + (k : Int) + 1) = (x / 4 + 1) + ((k + 1 : Nat) : Int) := by rw [IntWalk.i64_in _ (by omega)]; omega
      have hxk := HM2.out _ (rd_memT (l := m) (i := (x / 4 + 1) + (k : Int)) (by omega) (by omega))
      obtain ⟨ad2, e2, hck⟩ := Kd.at_int (HR.out _ HA.1) ((x / 4 + 1) + (k : Int)) (by omega) (by omega)
      cases e2
      have hkv := HKV.out
      rw [HKA.out k hlt, kidsV] at hkv
      obtain ⟨xk, hxe⟩ : ∃ xk, rd m ((x / 4 + 1) + (k : Int)) = xk := ⟨_, rfl⟩
      rw [hxe] at hxk hck hkv
      have hcall := HIH.out lf cs1 xk wr gt vc1 Lc1 hlf hlf0 hcb1 hxk.1 hxk.2 (HRC.out wr HA) hown1 (HA.perm tk_split).left.givens
      have hok := takeV_ok m n (lf, cs1) xk
      obtain ⟨qq, hqq⟩ : ∃ qq, takeV m n (lf, cs1) xk = qq := ⟨_, rfl⟩
      rw [hqq] at hcall hkv hok
      obtain ⟨⟨⟨kf0, kf1, kfl⟩, ke⟩, lf2, cs2⟩ := qq
      dsimp only at hkv
      unfold stOk at hok
      dsimp only at hok
      have HCALL := Aside0.mk hcall
      have HKV2 := Aside0.mk hkv
      have HOK := Aside0.mk hok
      have HLF := Aside0.mk (And.intro hlf0 (And.intro hlf hcb1))
      clear hcall hkv hok hxe hqq hxk HKV
      by_cases hke : ke = 0
      · have ce : (ke != 0) = false := bne_eq_false_iff_eq.mpr hke
        have hap1 : k + 1 ≤ maxLen := by unfold maxLen; omega
        have hap2 : (k + 1) * 40 ≤ 140737488355328 := by omega
        have HKE := Aside0.mk hke
        clear hke hlf0 hlf hcb1
        go_wp2_with (first | (go_at_call 36; refine HCALL.out.mono ?_; rintro e W1_ ⟨vq, vc2, Lc2, rfl, hown2, hk_, htr⟩; obtain ⟨A9, c9, e9, _⟩ := tk_form htr; subst e9; have HT1 := Aside0.mk (trees_keep HT0.out hk_.1 (tk_call_in HA hk_).1 (tk_call_in HA hk_).2); have HTK := Aside0.mk (k34.M_lower HA.1.size (offL_perm (tree_beside (S := fun _ => True) (w := W1_) htr (HA.perm tk_split).right.lt) tk_split.symm)); have HWS := Aside0.mk (Nat.le_trans HA.1.size hk_.1.size); replace HA := tk_call HA hk_; clear hk_ htr; have HP1 := Aside0.mk HA; replace HA := HA.givens; simp only [Act.put, List.setIfInBounds_toArray, List.set_cons_succ, List.set_cons_zero]) | ((with_reducible refine gate_dst (N := 14) rfl ?_); refine aw_alloc rfl rfl tv_zero HA ?_; clear HA; intro gx W_ HA; simp only [Act.put, List.setIfInBounds_toArray, List.set_cons_succ, List.set_cons_zero]) | ((with_reducible refine gate_dst (N := 115) rfl ?_); refine aw_newv (fun g => .slice (some ⟨g, 0, none⟩) 1 1) 34 [.int .i64 kf0, .int .i64 kf1, .slice A9 kfl.length c9] rfl (fun W => by first | (go_simp; done) | (go_simp; rfl) | kernel_rfl) HA ?_; clear HA; intro gl W_ HA; simp only [Act.put, List.setIfInBounds_toArray, List.set_cons_succ, List.set_cons_zero]) | ((with_reducible refine gate_dst (N := 116) rfl ?_); refine aw_append (5 + Lc2.length) 0 (tk_drop _ _ _ _ _ Lc2 Lk) Try.underlying32 tv_info rfl (by decide) rfl hownk rfl rfl HA rfl rfl rfl rfl hap1 hap2 ?_; clear HA; intro v_ W_ Lv_ hownk_ HA; rw [tk_take] at HA; obtain ⟨A2_, c2_, rfl⟩ := own_form hownk_; dsimp only [List.set, List.cons_append, List.nil_append] at HA; simp only [Act.put, List.setIfInBounds_toArray, List.set_cons_succ, List.set_cons_zero]) | ((with_reducible refine gate_ld rfl ?_); (first | refine aw_loadc rfl rfl rfl hck ?_ ?_ | refine aw_loadW 0 (t := 34) rfl rfl HA rfl rfl ?_ ?_ | refine aw_loadW 1 (t := 34) rfl rfl HA rfl rfl ?_ ?_ | refine aw_loadW 2 (t := 34) rfl rfl HA rfl rfl ?_ ?_ | refine aw_load 0 rfl rfl HA rfl rfl rfl ?_ ?_ | refine aw_load 1 rfl rfl HA rfl rfl rfl ?_ ?_ | refine aw_load 2 rfl rfl HA rfl rfl rfl ?_ ?_ | refine aw_load 3 rfl rfl HA rfl rfl rfl ?_ ?_ | refine aw_load 4 rfl rfl HA rfl rfl rfl ?_ ?_); kernel_rfl; simp only [Act.put, List.setIfInBounds_toArray, List.set_cons_succ, List.set_cons_zero]) | ((with_reducible refine gate_st rfl ?_); (first | refine aw_storeW 0 (t := 34) rfl rfl rfl rfl HA rfl rfl rfl ?_ rfl ?_ | refine aw_storeW 1 (t := 34) rfl rfl rfl rfl HA rfl rfl rfl ?_ rfl ?_ | refine aw_store 0 (v := .slice _ _ _) rfl rfl rfl rfl rfl HA rfl rfl rfl ?_ ?_ | refine aw_store 1 (v := .slice _ _ _) rfl rfl rfl rfl rfl HA rfl rfl rfl ?_ ?_ | refine aw_store 2 (v := .slice _ _ _) rfl rfl rfl rfl rfl HA rfl rfl rfl ?_ ?_ | refine aw_store 3 (v := .slice _ _ _) rfl rfl rfl rfl rfl HA rfl rfl rfl ?_ ?_); kernel_rfl; clear HA; intro W_ HA; dsimp only [List.set, List.take, List.cons_append, List.nil_append] at HA))
        go_roundg (N - (k + 1))
        case measure => omega
        case rel =>
          have hkv := HKV2.out
          rw [if_pos HKE.out] at hkv
          have hok := HOK.out
          have hlf_ := HLF.out
          have HA9 := tk_join HP1.out HA
          have hin : ∀ g, inL ((gv, Blk.c 34 [.int .i64 2, .int .i64 s2, .slice A2_ (k + 1) c2_]) :: (g4, Blk.c 34 [.int .i64 0, .int .i64 0, .slice none 0 0]) :: tkT gt (some ad) m.length c0 lf2 vc2 :: (Lc2 ++ Lv_)) g → inL ((gv, Blk.c 34 [.int .i64 2, .int .i64 s2, vk]) :: (g4, Blk.c 34 [.int .i64 0, .int .i64 0, .slice none 0 0]) :: tkT gt (some ad) m.length c0 lf2 vc2 :: (Lc2 ++ Lk)) g ∨ W1_.heap.size ≤ g := fun g hg => HA.newL g (by
            obtain ⟨y, hy, he⟩ := List.mem_map.1 hg
            exact List.mem_map.2 ⟨y, List.mem_cons_of_mem _ (List.mem_cons_of_mem _ hy), he⟩)
          refine ⟨k + 1, lf2, cs2, acc ++ [⟨kf0, kf1, kfl⟩], inner ++ [.int .i64 kf0, .int .i64 kf1, .slice A9 kfl.length c9], vc2, .slice A2_ (k + 1) c2_, Lc2, Lv_, by omega, by go_num, by omega, by omega, by omega, by simp [hacc], ⟨hkv⟩, hown2, hownk_, ?_, ?_, HA9.sub (.cons _ (.cons _ (List.Sublist.refl _)))⟩
          · exact tk_reps_snoc (trees_keep HT1.out HA.1 (fun g h => h) hin) (tree_keep HTK.out HA.1 (fun g h => h) hin) rfl
          · intro y hy
            rcases Aw.fresh_tail (K2 := (gv, Blk.c 34 [.int .i64 2, .int .i64 s2, vk]) :: (g4, Blk.c 34 [.int .i64 0, .int .i64 0, .slice none 0 0]) :: tkT gt (some ad) m.length c0 lf2 vc2 :: Lc2) (K3 := _ :: _ :: (gv, Blk.c 34 [.int .i64 2, .int .i64 s2, .slice A2_ (k + 1) c2_]) :: (g4, Blk.c 34 [.int .i64 0, .int .i64 0, .slice none 0 0]) :: tkT gt (some ad) m.length c0 lf2 vc2 :: Lc2) HA (fun g hg => by
              obtain ⟨y, hy, he⟩ := List.mem_map.1 hg
              rcases List.mem_cons.1 hy with rfl | hy
              · exact List.mem_map.2 ⟨(gv, Blk.c 34 [.int .i64 2, .int .i64 s2, .slice A2_ (k + 1) c2_]), by simp, he⟩
              · exact List.mem_map.2 ⟨y, List.mem_cons_of_mem _ (List.mem_cons_of_mem _ (List.mem_cons_of_mem _ hy)), he⟩) y hy with h | h
            · obtain ⟨u, hu, he⟩ := List.mem_map.1 h
              rw [← he]
              exact HFR.out u hu
            · exact Nat.le_trans HWS.out h
      · have ce : (ke != 0) = true := bne_iff_ne.mpr hke
        have HKE := Aside0.mk hke
        clear hke hlf0 hlf hcb1
        go_wp2_with (first | (go_at_call 36; refine HCALL.out.mono ?_; rintro e W1_ ⟨vq, vc2, Lc2, rfl, hown2, hk_, htr⟩; obtain ⟨A9, c9, e9, _⟩ := tk_form htr; subst e9; have HT1 := Aside0.mk (trees_keep HT0.out hk_.1 (tk_call_in HA hk_).1 (tk_call_in HA hk_).2); have HTK := Aside0.mk (k34.M_lower HA.1.size (offL_perm (tree_beside (S := fun _ => True) (w := W1_) htr (HA.perm tk_split).right.lt) tk_split.symm)); have HWS := Aside0.mk (Nat.le_trans HA.1.size hk_.1.size); replace HA := tk_call HA hk_; clear hk_ htr; have HP1 := Aside0.mk HA; replace HA := HA.givens; simp only [Act.put, List.setIfInBounds_toArray, List.set_cons_succ, List.set_cons_zero]) | ((with_reducible refine gate_dst (N := 14) rfl ?_); refine aw_alloc rfl rfl tv_zero HA ?_; clear HA; intro gx W_ HA; simp only [Act.put, List.setIfInBounds_toArray, List.set_cons_succ, List.set_cons_zero]) | ((with_reducible refine gate_ld rfl ?_); (first | refine aw_loadc rfl rfl rfl hck ?_ ?_ | refine aw_load 0 rfl rfl HA rfl rfl rfl ?_ ?_ | refine aw_load 1 rfl rfl HA rfl rfl rfl ?_ ?_ | refine aw_load 2 rfl rfl HA rfl rfl rfl ?_ ?_ | refine aw_load 3 rfl rfl HA rfl rfl rfl ?_ ?_ | refine aw_load 4 rfl rfl HA rfl rfl rfl ?_ ?_); kernel_rfl; simp only [Act.put, List.setIfInBounds_toArray, List.set_cons_succ, List.set_cons_zero]) | ((with_reducible refine gate_st rfl ?_); (first | refine aw_storeW 0 (t := 34) rfl rfl rfl rfl HA rfl rfl rfl ?_ rfl ?_ | refine aw_storeW 1 (t := 34) rfl rfl rfl rfl HA rfl rfl rfl ?_ rfl ?_ | refine aw_storeW 2 (t := 34) rfl rfl rfl rfl HA rfl rfl rfl ?_ rfl ?_ | refine aw_storeW 3 (t := 34) rfl rfl rfl rfl HA rfl rfl rfl ?_ rfl ?_); kernel_rfl; clear HA; intro W_ HA; dsimp only [List.set, List.take, List.cons_append, List.nil_append] at HA))
        (try rw [Exit.noGoto_ret])
        refine bodyPost_ret (results_ct rfl _ _ g4 34 #[.int .i64 0, .int .i64 0, .slice none 0 0] (0, 0) _ rfl (HA.at (i := 2) rfl) Try.underlying34 rfl (by kernel_rfl)) rfl ?_
        have hkv := HKV2.out
        rw [if_neg HKE.out] at hkv
        rw [HP.out, ← hkv]
        dsimp only
        rw [if_neg HKE.out]
        exact ⟨_, vc2, Lc2, rfl, hown2, (tk_join HP1.out HA).sub (.cons _ tk_sub), tk_zeroM _ _ _⟩
    · have ck : decide ((x / 4 + 1) + (k : Int) ≤ x / 4 + s3) = false := decide_eq_false (by omega)
      have hkn : k = N := by omega
      have hkv := HKV.out
      rw [List.drop_eq_nil_of_le (by rw [HKN.out]; omega), kidsV] at hkv
      have HKV2 := Aside0.mk hkv
      have HACC := Aside0.mk hacc
      clear hkv hacc hkn hkg hlt hlf0 hlf hcb1
      have HP1 := Aside0.mk HA
      replace HA := HA.givens
      obtain ⟨Ak_, cK_, rfl⟩ := own_form hownk
      go_wp2_with (first | ((with_reducible refine gate_ld rfl ?_); (first | refine aw_loadW 0 (t := 34) rfl rfl HA rfl rfl ?_ ?_ | refine aw_loadW 1 (t := 34) rfl rfl HA rfl rfl ?_ ?_ | refine aw_loadW 2 (t := 34) rfl rfl HA rfl rfl ?_ ?_); kernel_rfl; simp only [Act.put, List.setIfInBounds_toArray, List.set_cons_succ, List.set_cons_zero]) | ((with_reducible refine gate_st rfl ?_); (first | refine aw_storeW 0 (t := 34) rfl rfl rfl rfl HA rfl rfl rfl ?_ rfl ?_ | refine aw_storeW 1 (t := 34) rfl rfl rfl rfl HA rfl rfl rfl ?_ rfl ?_ | refine aw_storeW 2 (t := 34) rfl rfl rfl rfl HA rfl rfl rfl ?_ rfl ?_); kernel_rfl; clear HA; intro W_ HA; dsimp only [List.set, List.take, List.cons_append, List.nil_append] at HA))
      refine bodyPost_ret (results_ct rfl _ _ g4 34 #[.int .i64 2, .int .i64 s2, .slice Ak_ k cK_] (0, 0) _ rfl (HA.at (i := 1) rfl) Try.underlying34 rfl (by kernel_rfl)) rfl ?_
      rw [HP.out, ← HKV2.out]
      dsimp only
      rw [if_pos rfl]
      have HA9 := tk_join HP1.out HA
      have htr := trees_keep HT0.out HA.1 (fun g h => h) (fun g h => HA.newL g h)
      exact ⟨.slice Ak_ k cK_, vc1, Lc1, rfl, hown1, HA9.sub tk_sub, tk_top HA9 (HACC.out ▸ hownk) HFR.out htr⟩
set_option maxHeartbeats 8000000 in
set_option maxRecDepth 100000 in
theorem T_take.kids1 (m : List Int) (hm : m.length ≤ 1000000 ∧ ∀ x ∈ m, 0 ≤ x ∧ x < 4294967296) (A0 : Option Addr) (c0 : Nat) (hc0 : m.length ≤ c0) (n : Nat) (hIH : ∀ (left : Int) (cs : List Int) (x : Int) (W : World) (gt : Nat) (vc : Value) (Lc : List (Nat × Blk)), left ≤ n → 0 ≤ left → (cs.length : Int) + left ≤ 100000 → 0 ≤ x → x < 4294967296 → (∀ W', Kp (inL ((gt, Blk.c 67 []) :: Lc)) W W' → Kd.C (Kd.int .u32) W' A0 m.length m) → Own 3 1 vc cs.length (cs.map (Value.int .i64)) Lc → Aw (inL ((gt, Blk.c 67 []) :: Lc)) W W (tkT gt A0 m.length c0 left vc :: Lc) → Calls Try.prog 36 #[.pointer (some ⟨gt, 0, none⟩), .int .u32 x] W (TkPost A0 m.length c0 gt Lc W (takeV m n (left, cs) x)))
    (left : Int) (cs : List Int) (x : Int) (W : World) (gt : Nat) (vc : Value) (Lc : List (Nat × Blk)) (hl1 : 1 ≤ left) (hcb : (cs.length : Int) + left ≤ 100000) (hx0 : 0 ≤ x) (hx1 : x < 4294967296) (hr : ∀ W', Kp (inL ((gt, Blk.c 67 []) :: Lc)) W W' → Kd.C (Kd.int .u32) W' A0 m.length m) (hown : Own 3 1 vc cs.length (cs.map (Value.int .i64)) Lc) (HA : Aw (inL ((gt, Blk.c 67 []) :: Lc)) W W (tkT gt A0 m.length c0 left vc :: Lc)) (hln : left ≤ n + 1) (h2 : ¬ x % 2 = 1) (h4 : x % 4 = 0) (hb : blkB m (x / 4) = true) (hk2 : (splV (rd m (x / 4))).1 = 1) (res : (List S34 × Int) × (Int × List Int)) (hres : kidsV (takeV m n) (left - 1, cs) (kidsOf m (x / 4)) [] = res) :
    Calls Try.prog 36 #[.pointer (some ⟨gt, 0, none⟩), .int .u32 x] W (TkPost A0 m.length c0 gt Lc W (if res.1.2 = 0 then ((⟨(topV m (x / 4)).1, (topV m (x / 4)).2, res.1.1⟩, 0), res.2) else ((zV, res.1.2), res.2))) := by
  unfold tkT at HA
  have HR := Aside0.mk hr
  have c1 : decide (left < 1) = false := decide_eq_false (by omega)
  have s0 : IntKind.i64.wrap (left - 1) = left - 1 := IntWalk.i64_in _ (by omega)
  clear hr
  have c2 : (x % 2 == 1) = false := beq_eq_false_iff_ne.mpr h2
  have c4 : (x % 4 != 0) = false := bne_eq_false_iff_eq.mpr h4
  have HBL := Aside0.mk (blkB_eq 0 m hm (x / 4))
  rw [hb] at HBL
  have ha := blkB_in hb
  have hxw := hm.2 _ (rd_memT (l := m) (i := x / 4) ha.1 ha.2.1)
  have HSP := Aside0.mk (ref41_Split_eq 0 _ hxw.1 hxw.2)
  have hsz := splV_size hxw.1 hxw.2
  have ha1 := ha.1
  have ha2 := ha.2.1
  have i1 : decide (0 ≤ x / 4) = true := decide_eq_true ha1
  have i2 : decide (x / 4 < (m.length : Int)) = true := decide_eq_true ha2
  obtain ⟨ad, had, _⟩ := Kd.at_int (HR.out _ (Kp.refl _ _)) (x / 4) ha1 ha2
  subst had
  have hcell : ∀ W', Kp (inL ((gt, Blk.c 67 []) :: Lc)) W W' → W'.cell? (ad.add (x / 4).toNat) = some (.int .u32 (rd m (x / 4))) := fun W' hk => by
    obtain ⟨ad2, e2, h⟩ := Kd.at_int (HR.out _ hk) (x / 4) ha1 ha2
    cases e2
    exact h
  have HCL := Aside0.mk hcell
  obtain ⟨xw, hxe⟩ : ∃ xw, rd m (x / 4) = xw := ⟨_, rfl⟩
  rw [hxe] at HSP HCL hsz
  have HIH := Lib.hid hIH
  clear hIH
  have ha4 : 0 ≤ x / 4 + 1 := by omega
  have ha5 : x / 4 + 1 < (m.length : Int) := by have := hsz.2.2.2.2.2.2 (by rw [← hxe]; exact ha.2.2.1); have := ha.2.2.2.1; rw [hxe] at this; omega
  have i3 : decide (0 ≤ x / 4 + 1) = true := decide_eq_true ha4
  have i4 : decide (x / 4 + 1 < (m.length : Int)) = true := decide_eq_true ha5
  have hxv := hm.2 _ (rd_memT (l := m) (i := x / 4 + 1) ha4 ha5)
  have hcell2 : ∀ W', Kp (inL ((gt, Blk.c 67 []) :: Lc)) W W' → W'.cell? (ad.add (x / 4 + 1).toNat) = some (.int .u32 (rd m (x / 4 + 1))) := fun W' hk => by
    obtain ⟨ad2, e2, h⟩ := Kd.at_int (HR.out _ hk) (x / 4 + 1) ha4 ha5
    cases e2
    exact h
  have HCL2 := Aside0.mk hcell2
  obtain ⟨xv, hxve⟩ : ∃ xv, rd m (x / 4 + 1) = xv := ⟨_, rfl⟩
  rw [hxve] at HCL2 hxv
  obtain ⟨F, hF⟩ : ∃ F, kidsFrom m (x / 4) = F := ⟨_, rfl⟩
  obtain ⟨tk, htk⟩ : ∃ y, (topV m (x / 4)).1 = y := ⟨_, rfl⟩
  obtain ⟨tn, htn⟩ : ∃ y, (topV m (x / 4)).2 = y := ⟨_, rfl⟩
  have hFv : F = x / 4 + 1 + 1 := by rw [← hF]; unfold kidsFrom; rw [if_pos hk2] <;> (first | rfl | exact congrArg (· / 2) hxve | omega)
  have htkv : tk = 3 := by rw [← htk]; unfold topV; rw [if_pos hk2] <;> (first | rfl | exact congrArg (· / 2) hxve | omega)
  have htnv : tn = xv / 2 := by rw [← htn]; unfold topV; rw [if_pos hk2] <;> (first | rfl | exact congrArg (· / 2) hxve | omega)
  have hsz1 := hsz.2.2.2.2.2.2 (by rw [← hxe]; exact ha.2.2.1)
  have hsz2 := hsz.2.2.2.2.2.1
  have hKl := kidsOf_len m (x / 4) ha1 ha.2.2.2.1 (by rw [hxe]; exact hsz1)
  have hKa := kidsOf_at m (x / 4) ha1 ha.2.2.2.1 (by rw [hxe]; exact hsz1)
  have hlast := ha.2.2.2.1
  rw [hxe] at hk2 hKl hlast
  rw [hF] at hKl hKa
  obtain ⟨K, hK⟩ : ∃ K, kidsOf m (x / 4) = K := ⟨_, rfl⟩
  rw [hK] at hres hKl hKa
  obtain ⟨q, hq⟩ : ∃ q, splV xw = q := ⟨_, rfl⟩
  obtain ⟨s1, s2, s3, s4⟩ := q
  rw [hq] at HSP hk2 hsz1 hsz2 hKl hlast
  dsimp only at hk2 hsz1 hsz2 hKl hlast
  rw [htk, htn]
  have hxv1 := hxv.1
  have HW2 : Aside0 (wrap64 (Int.tdiv (wrap64 xv) 2) = xv / 2) := ⟨by rw [show wrap64 xv = xv by unfold wrap64; omega, Int.tdiv_eq_ediv_of_nonneg hxv1]; unfold wrap64; omega⟩
  have k2 : (s1 == 2) = false := beq_eq_false_iff_ne.mpr (by omega)
  have k1 : (s1 == 1) = true := beq_iff_eq.mpr hk2
  have w1 : IntKind.i64.wrap (x / 4 + 1) = x / 4 + 1 := IntWalk.i64_in _ (by omega)
  have w2 : IntKind.i64.wrap (x / 4 + 1 + 1) = x / 4 + 1 + 1 := IntWalk.i64_in _ (by omega)
  have w3 : IntKind.i64.wrap (x / 4 + s3) = x / 4 + s3 := IntWalk.i64_in _ (by omega)
  have hFb : x / 4 + 1 ≤ F ∧ F ≤ x / 4 + 2 := by omega
  obtain ⟨N, hN⟩ : ∃ N, K.length = N := ⟨_, rfl⟩
  rw [hN] at hKl hKa
  subst htkv htnv hFv
  have hm1 := hm.1
  have hm2 := hm.2
  have HKA := Lib.hid hKa
  have HM2 := Lib.hid hm2
  have HKN := Lib.hid hN
  obtain ⟨P, HP⟩ : ∃ P : Ending → World → Prop, Aside0 (P = TkPost (some ad) m.length c0 gt Lc W (if res.1.2 = 0 then ((⟨3, (xv / 2), res.1.1⟩, 0), res.2) else ((zV, res.1.2), res.2))) := ⟨_, ⟨rfl⟩⟩
  rw [← HP.out]
  have HRES := Aside0.mk hres
  have HRC : RowKit.Hid (∀ (wx : World) {lf : Int} {vc1 : Value} {b1 b2 : Blk} {gv g4 : Nat} {Lc1 Lk : List (Nat × Blk)}, Aw (inL ((gt, Blk.c 67 []) :: Lc)) W wx ((gv, b1) :: (g4, b2) :: tkT gt (some ad) m.length c0 lf vc1 :: (Lc1 ++ Lk)) → ∀ W', Kp (inL ((gt, Blk.c 67 []) :: Lc1)) wx W' → Kd.C (Kd.int .u32) W' (some ad) m.length m) := Lib.hid (fun wx lf vc1 b1 b2 gv g4 Lc1 Lk hA W' hk => HR.out W' (hA.1.trans hk (fun k hk2 => (hA.newL k ((inL_perm tk_split k).2 (by
    obtain ⟨y, hy, he⟩ := List.mem_map.1 hk2
    rcases List.mem_cons.1 hy with rfl | hy
    · exact List.mem_map.2 ⟨tkT gt (some ad) m.length c0 lf vc1, by simp, he⟩
    · exact List.mem_map.2 ⟨y, by simp [hy], he⟩))))))
  clear hres hKa hm hN hm2 hK hF htk htn ha hxw hsz hxe hq hb h2 h4 hxv hcell2 hxve
  go_enter Try.func36, Try.ntmps36
  go_wp2_with (first | ((with_reducible refine gate_dst (N := 4) rfl ?_); refine aw_alloc rfl rfl tv_zero HA ?_; clear HA; intro g4 W_ HA; simp only [Act.put, List.setIfInBounds_toArray, List.set_cons_succ, List.set_cons_zero]) | ((with_reducible refine gate_dst (N := 11) rfl ?_); refine aw_alloc rfl rfl tv_zero HA ?_; clear HA; intro gv W_ HA; simp only [Act.put, List.setIfInBounds_toArray, List.set_cons_succ, List.set_cons_zero]) | (go_at_call 53; refine (camletref41_block.calls 1 (some ad) c0 m (x / 4) _ _ (HR.out _ HA.1) hc0 HBL.out).mono ?_; rintro e W_ ⟨rfl, hd_⟩; replace HA := HA.drewN0 hd_; clear hd_) | (go_at_call 11; refine (camletref41_Split.calls 1 xw s1 s2 s3 s4 _ HSP.out).mono ?_; rintro e W_ ⟨rfl, hd_⟩; replace HA := HA.drewN0 hd_; clear hd_) | ((with_reducible refine gate_ld rfl ?_); (first | refine aw_loadc rfl rfl rfl (HCL.out _ HA.1) ?_ ?_ | refine aw_loadc rfl rfl rfl (HCL2.out _ HA.1) ?_ ?_ | refine aw_load 0 rfl rfl HA rfl rfl rfl ?_ ?_ | refine aw_load 1 rfl rfl HA rfl rfl rfl ?_ ?_ | refine aw_load 2 rfl rfl HA rfl rfl rfl ?_ ?_); kernel_rfl; simp only [Act.put, List.setIfInBounds_toArray, List.set_cons_succ, List.set_cons_zero]) | ((with_reducible refine gate_st rfl ?_); (first | refine aw_storeW 0 (t := 34) rfl rfl rfl rfl HA rfl rfl rfl ?_ rfl ?_ | refine aw_storeW 1 (t := 34) rfl rfl rfl rfl HA rfl rfl rfl ?_ rfl ?_ | refine aw_storeW 2 (t := 34) rfl rfl rfl rfl HA rfl rfl rfl ?_ rfl ?_ | refine aw_store 0 (v := .int _ _) rfl rfl rfl rfl rfl HA rfl rfl rfl ?_ ?_ | refine aw_store 1 (v := .int _ _) rfl rfl rfl rfl rfl HA rfl rfl rfl ?_ ?_ | refine aw_store 2 (v := .int _ _) rfl rfl rfl rfl rfl HA rfl rfl rfl ?_ ?_); kernel_rfl; clear HA; intro W_ HA; dsimp only [List.set, List.take, List.cons_append, List.nil_append] at HA))
  go_loopg [13] N (fun g i wx => ∃ (k : Nat) (lf : Int) (cs1 : List Int) (acc : List S34) (inner : List Value) (vc1 vk : Value) (Lc1 Lk : List (Nat × Blk)), k + g = N ∧ i = .int .i64 ((x / 4 + 1 + 1) + k) ∧ 0 ≤ lf ∧ lf ≤ n ∧ (cs1.length : Int) + lf ≤ 100000 ∧ acc.length = k ∧ Aside0 (kidsV (takeV m n) (lf, cs1) (K.drop k) acc = res) ∧ Own 3 1 vc1 cs1.length (cs1.map (Value.int .i64)) Lc1 ∧ Own 34 3 vk k inner Lk ∧ Reps (k34.M wx W.heap.size (offL ((gv, Blk.c 34 [.int .i64 3, .int .i64 (xv / 2), vk]) :: (g4, Blk.c 34 [.int .i64 0, .int .i64 0, .slice none 0 0]) :: tkT gt (some ad) m.length c0 lf vc1 :: (Lc1 ++ Lk)))) 3 acc inner ∧ (∀ y ∈ Lk, W.heap.size ≤ y.1) ∧ Aw (inL ((gt, Blk.c 67 []) :: Lc)) W wx ((gv, .c 34 [.int .i64 3, .int .i64 (xv / 2), vk]) :: (g4, .c 34 [.int .i64 0, .int .i64 0, .slice none 0 0]) :: tkT gt (some ad) m.length c0 lf vc1 :: (Lc1 ++ Lk)))
  case atStart => exact ⟨0, left - 1, cs, [], [], vc, .slice none 0 0, Lc, [], by omega, by simp, by omega, by omega, by omega, rfl, ⟨by rw [List.drop_zero]; exact HRES.out⟩, hown, Own.nil _ _, Reps.none _ _, by simp, Aw.congr HA (by simp [tkT, HW2.out])⟩
  case round =>
    clear HA
    obtain ⟨k, lf, cs1, acc, inner, vc1, vk, Lc1, Lk, hkg, rfl, hlf0, hlf, hcb1, hacc, HKV, hown1, hownk, htrees, hfr, HA⟩ := hrel
    have HT0 := Aside0.mk htrees
    have HFR := Aside0.mk hfr
    clear htrees hfr
    by_cases hlt : k < N
    · have ck : decide ((x / 4 + 1 + 1) + (k : Int) ≤ x / 4 + s3) = true := decide_eq_true (by omega)
      have j1 : decide (0 ≤ (x / 4 + 1 + 1) + (k : Int)) = true := decide_eq_true (by omega)
      have j2 : decide ((x / 4 + 1 + 1) + (k : Int) < (m.length : Int)) = true := decide_eq_true (by omega)
      have w4 : IntKind.i64.wrap ((x / 4 + 1 + 1) + (k : Int) + 1) = (x / 4 + 1 + 1) + ((k + 1 : Nat) : Int) := by rw [IntWalk.i64_in _ (by omega)]; omega
      have hxk := HM2.out _ (rd_memT (l := m) (i := (x / 4 + 1 + 1) + (k : Int)) (by omega) (by omega))
      obtain ⟨ad2, e2, hck⟩ := Kd.at_int (HR.out _ HA.1) ((x / 4 + 1 + 1) + (k : Int)) (by omega) (by omega)
      cases e2
      have hkv := HKV.out
      rw [HKA.out k hlt, kidsV] at hkv
      obtain ⟨xk, hxe⟩ : ∃ xk, rd m ((x / 4 + 1 + 1) + (k : Int)) = xk := ⟨_, rfl⟩
      rw [hxe] at hxk hck hkv
      have hcall := HIH.out lf cs1 xk wr gt vc1 Lc1 hlf hlf0 hcb1 hxk.1 hxk.2 (HRC.out wr HA) hown1 (HA.perm tk_split).left.givens
      have hok := takeV_ok m n (lf, cs1) xk
      obtain ⟨qq, hqq⟩ : ∃ qq, takeV m n (lf, cs1) xk = qq := ⟨_, rfl⟩
      rw [hqq] at hcall hkv hok
      obtain ⟨⟨⟨kf0, kf1, kfl⟩, ke⟩, lf2, cs2⟩ := qq
      dsimp only at hkv
      unfold stOk at hok
      dsimp only at hok
      have HCALL := Aside0.mk hcall
      have HKV2 := Aside0.mk hkv
      have HOK := Aside0.mk hok
      have HLF := Aside0.mk (And.intro hlf0 (And.intro hlf hcb1))
      clear hcall hkv hok hxe hqq hxk HKV
      by_cases hke : ke = 0
      · have ce : (ke != 0) = false := bne_eq_false_iff_eq.mpr hke
        have hap1 : k + 1 ≤ maxLen := by unfold maxLen; omega
        have hap2 : (k + 1) * 40 ≤ 140737488355328 := by omega
        have HKE := Aside0.mk hke
        clear hke hlf0 hlf hcb1
        go_wp2_with (first | (go_at_call 36; refine HCALL.out.mono ?_; rintro e W1_ ⟨vq, vc2, Lc2, rfl, hown2, hk_, htr⟩; obtain ⟨A9, c9, e9, _⟩ := tk_form htr; subst e9; have HT1 := Aside0.mk (trees_keep HT0.out hk_.1 (tk_call_in HA hk_).1 (tk_call_in HA hk_).2); have HTK := Aside0.mk (k34.M_lower HA.1.size (offL_perm (tree_beside (S := fun _ => True) (w := W1_) htr (HA.perm tk_split).right.lt) tk_split.symm)); have HWS := Aside0.mk (Nat.le_trans HA.1.size hk_.1.size); replace HA := tk_call HA hk_; clear hk_ htr; have HP1 := Aside0.mk HA; replace HA := HA.givens; simp only [Act.put, List.setIfInBounds_toArray, List.set_cons_succ, List.set_cons_zero]) | ((with_reducible refine gate_dst (N := 14) rfl ?_); refine aw_alloc rfl rfl tv_zero HA ?_; clear HA; intro gx W_ HA; simp only [Act.put, List.setIfInBounds_toArray, List.set_cons_succ, List.set_cons_zero]) | ((with_reducible refine gate_dst (N := 115) rfl ?_); refine aw_newv (fun g => .slice (some ⟨g, 0, none⟩) 1 1) 34 [.int .i64 kf0, .int .i64 kf1, .slice A9 kfl.length c9] rfl (fun W => by first | (go_simp; done) | (go_simp; rfl) | kernel_rfl) HA ?_; clear HA; intro gl W_ HA; simp only [Act.put, List.setIfInBounds_toArray, List.set_cons_succ, List.set_cons_zero]) | ((with_reducible refine gate_dst (N := 116) rfl ?_); refine aw_append (5 + Lc2.length) 0 (tk_drop _ _ _ _ _ Lc2 Lk) Try.underlying32 tv_info rfl (by decide) rfl hownk rfl rfl HA rfl rfl rfl rfl hap1 hap2 ?_; clear HA; intro v_ W_ Lv_ hownk_ HA; rw [tk_take] at HA; obtain ⟨A2_, c2_, rfl⟩ := own_form hownk_; dsimp only [List.set, List.cons_append, List.nil_append] at HA; simp only [Act.put, List.setIfInBounds_toArray, List.set_cons_succ, List.set_cons_zero]) | ((with_reducible refine gate_ld rfl ?_); (first | refine aw_loadc rfl rfl rfl hck ?_ ?_ | refine aw_loadW 0 (t := 34) rfl rfl HA rfl rfl ?_ ?_ | refine aw_loadW 1 (t := 34) rfl rfl HA rfl rfl ?_ ?_ | refine aw_loadW 2 (t := 34) rfl rfl HA rfl rfl ?_ ?_ | refine aw_load 0 rfl rfl HA rfl rfl rfl ?_ ?_ | refine aw_load 1 rfl rfl HA rfl rfl rfl ?_ ?_ | refine aw_load 2 rfl rfl HA rfl rfl rfl ?_ ?_ | refine aw_load 3 rfl rfl HA rfl rfl rfl ?_ ?_ | refine aw_load 4 rfl rfl HA rfl rfl rfl ?_ ?_); kernel_rfl; simp only [Act.put, List.setIfInBounds_toArray, List.set_cons_succ, List.set_cons_zero]) | ((with_reducible refine gate_st rfl ?_); (first | refine aw_storeW 0 (t := 34) rfl rfl rfl rfl HA rfl rfl rfl ?_ rfl ?_ | refine aw_storeW 1 (t := 34) rfl rfl rfl rfl HA rfl rfl rfl ?_ rfl ?_ | refine aw_store 0 (v := .slice _ _ _) rfl rfl rfl rfl rfl HA rfl rfl rfl ?_ ?_ | refine aw_store 1 (v := .slice _ _ _) rfl rfl rfl rfl rfl HA rfl rfl rfl ?_ ?_ | refine aw_store 2 (v := .slice _ _ _) rfl rfl rfl rfl rfl HA rfl rfl rfl ?_ ?_ | refine aw_store 3 (v := .slice _ _ _) rfl rfl rfl rfl rfl HA rfl rfl rfl ?_ ?_); kernel_rfl; clear HA; intro W_ HA; dsimp only [List.set, List.take, List.cons_append, List.nil_append] at HA))
        go_roundg (N - (k + 1))
        case measure => omega
        case rel =>
          have hkv := HKV2.out
          rw [if_pos HKE.out] at hkv
          have hok := HOK.out
          have hlf_ := HLF.out
          have HA9 := tk_join HP1.out HA
          have hin : ∀ g, inL ((gv, Blk.c 34 [.int .i64 3, .int .i64 (xv / 2), .slice A2_ (k + 1) c2_]) :: (g4, Blk.c 34 [.int .i64 0, .int .i64 0, .slice none 0 0]) :: tkT gt (some ad) m.length c0 lf2 vc2 :: (Lc2 ++ Lv_)) g → inL ((gv, Blk.c 34 [.int .i64 3, .int .i64 (xv / 2), vk]) :: (g4, Blk.c 34 [.int .i64 0, .int .i64 0, .slice none 0 0]) :: tkT gt (some ad) m.length c0 lf2 vc2 :: (Lc2 ++ Lk)) g ∨ W1_.heap.size ≤ g := fun g hg => HA.newL g (by
            obtain ⟨y, hy, he⟩ := List.mem_map.1 hg
            exact List.mem_map.2 ⟨y, List.mem_cons_of_mem _ (List.mem_cons_of_mem _ hy), he⟩)
          refine ⟨k + 1, lf2, cs2, acc ++ [⟨kf0, kf1, kfl⟩], inner ++ [.int .i64 kf0, .int .i64 kf1, .slice A9 kfl.length c9], vc2, .slice A2_ (k + 1) c2_, Lc2, Lv_, by omega, by go_num, by omega, by omega, by omega, by simp [hacc], ⟨hkv⟩, hown2, hownk_, ?_, ?_, HA9.sub (.cons _ (.cons _ (List.Sublist.refl _)))⟩
          · exact tk_reps_snoc (trees_keep HT1.out HA.1 (fun g h => h) hin) (tree_keep HTK.out HA.1 (fun g h => h) hin) rfl
          · intro y hy
            rcases Aw.fresh_tail (K2 := (gv, Blk.c 34 [.int .i64 3, .int .i64 (xv / 2), vk]) :: (g4, Blk.c 34 [.int .i64 0, .int .i64 0, .slice none 0 0]) :: tkT gt (some ad) m.length c0 lf2 vc2 :: Lc2) (K3 := _ :: _ :: (gv, Blk.c 34 [.int .i64 3, .int .i64 (xv / 2), .slice A2_ (k + 1) c2_]) :: (g4, Blk.c 34 [.int .i64 0, .int .i64 0, .slice none 0 0]) :: tkT gt (some ad) m.length c0 lf2 vc2 :: Lc2) HA (fun g hg => by
              obtain ⟨y, hy, he⟩ := List.mem_map.1 hg
              rcases List.mem_cons.1 hy with rfl | hy
              · exact List.mem_map.2 ⟨(gv, Blk.c 34 [.int .i64 3, .int .i64 (xv / 2), .slice A2_ (k + 1) c2_]), by simp, he⟩
              · exact List.mem_map.2 ⟨y, List.mem_cons_of_mem _ (List.mem_cons_of_mem _ (List.mem_cons_of_mem _ hy)), he⟩) y hy with h | h
            · obtain ⟨u, hu, he⟩ := List.mem_map.1 h
              rw [← he]
              exact HFR.out u hu
            · exact Nat.le_trans HWS.out h
      · have ce : (ke != 0) = true := bne_iff_ne.mpr hke
        have HKE := Aside0.mk hke
        clear hke hlf0 hlf hcb1
        go_wp2_with (first | (go_at_call 36; refine HCALL.out.mono ?_; rintro e W1_ ⟨vq, vc2, Lc2, rfl, hown2, hk_, htr⟩; obtain ⟨A9, c9, e9, _⟩ := tk_form htr; subst e9; have HT1 := Aside0.mk (trees_keep HT0.out hk_.1 (tk_call_in HA hk_).1 (tk_call_in HA hk_).2); have HTK := Aside0.mk (k34.M_lower HA.1.size (offL_perm (tree_beside (S := fun _ => True) (w := W1_) htr (HA.perm tk_split).right.lt) tk_split.symm)); have HWS := Aside0.mk (Nat.le_trans HA.1.size hk_.1.size); replace HA := tk_call HA hk_; clear hk_ htr; have HP1 := Aside0.mk HA; replace HA := HA.givens; simp only [Act.put, List.setIfInBounds_toArray, List.set_cons_succ, List.set_cons_zero]) | ((with_reducible refine gate_dst (N := 14) rfl ?_); refine aw_alloc rfl rfl tv_zero HA ?_; clear HA; intro gx W_ HA; simp only [Act.put, List.setIfInBounds_toArray, List.set_cons_succ, List.set_cons_zero]) | ((with_reducible refine gate_ld rfl ?_); (first | refine aw_loadc rfl rfl rfl hck ?_ ?_ | refine aw_load 0 rfl rfl HA rfl rfl rfl ?_ ?_ | refine aw_load 1 rfl rfl HA rfl rfl rfl ?_ ?_ | refine aw_load 2 rfl rfl HA rfl rfl rfl ?_ ?_ | refine aw_load 3 rfl rfl HA rfl rfl rfl ?_ ?_ | refine aw_load 4 rfl rfl HA rfl rfl rfl ?_ ?_); kernel_rfl; simp only [Act.put, List.setIfInBounds_toArray, List.set_cons_succ, List.set_cons_zero]) | ((with_reducible refine gate_st rfl ?_); (first | refine aw_storeW 0 (t := 34) rfl rfl rfl rfl HA rfl rfl rfl ?_ rfl ?_ | refine aw_storeW 1 (t := 34) rfl rfl rfl rfl HA rfl rfl rfl ?_ rfl ?_ | refine aw_storeW 2 (t := 34) rfl rfl rfl rfl HA rfl rfl rfl ?_ rfl ?_ | refine aw_storeW 3 (t := 34) rfl rfl rfl rfl HA rfl rfl rfl ?_ rfl ?_); kernel_rfl; clear HA; intro W_ HA; dsimp only [List.set, List.take, List.cons_append, List.nil_append] at HA))
        (try rw [Exit.noGoto_ret])
        refine bodyPost_ret (results_ct rfl _ _ g4 34 #[.int .i64 0, .int .i64 0, .slice none 0 0] (0, 0) _ rfl (HA.at (i := 2) rfl) Try.underlying34 rfl (by kernel_rfl)) rfl ?_
        have hkv := HKV2.out
        rw [if_neg HKE.out] at hkv
        rw [HP.out, ← hkv]
        dsimp only
        rw [if_neg HKE.out]
        exact ⟨_, vc2, Lc2, rfl, hown2, (tk_join HP1.out HA).sub (.cons _ tk_sub), tk_zeroM _ _ _⟩
    · have ck : decide ((x / 4 + 1 + 1) + (k : Int) ≤ x / 4 + s3) = false := decide_eq_false (by omega)
      have hkn : k = N := by omega
      have hkv := HKV.out
      rw [List.drop_eq_nil_of_le (by rw [HKN.out]; omega), kidsV] at hkv
      have HKV2 := Aside0.mk hkv
      have HACC := Aside0.mk hacc
      clear hkv hacc hkn hkg hlt hlf0 hlf hcb1
      have HP1 := Aside0.mk HA
      replace HA := HA.givens
      obtain ⟨Ak_, cK_, rfl⟩ := own_form hownk
      go_wp2_with (first | ((with_reducible refine gate_ld rfl ?_); (first | refine aw_loadW 0 (t := 34) rfl rfl HA rfl rfl ?_ ?_ | refine aw_loadW 1 (t := 34) rfl rfl HA rfl rfl ?_ ?_ | refine aw_loadW 2 (t := 34) rfl rfl HA rfl rfl ?_ ?_); kernel_rfl; simp only [Act.put, List.setIfInBounds_toArray, List.set_cons_succ, List.set_cons_zero]) | ((with_reducible refine gate_st rfl ?_); (first | refine aw_storeW 0 (t := 34) rfl rfl rfl rfl HA rfl rfl rfl ?_ rfl ?_ | refine aw_storeW 1 (t := 34) rfl rfl rfl rfl HA rfl rfl rfl ?_ rfl ?_ | refine aw_storeW 2 (t := 34) rfl rfl rfl rfl HA rfl rfl rfl ?_ rfl ?_); kernel_rfl; clear HA; intro W_ HA; dsimp only [List.set, List.take, List.cons_append, List.nil_append] at HA))
      refine bodyPost_ret (results_ct rfl _ _ g4 34 #[.int .i64 3, .int .i64 (xv / 2), .slice Ak_ k cK_] (0, 0) _ rfl (HA.at (i := 1) rfl) Try.underlying34 rfl (by kernel_rfl)) rfl ?_
      rw [HP.out, ← HKV2.out]
      dsimp only
      rw [if_pos rfl]
      have HA9 := tk_join HP1.out HA
      have htr := trees_keep HT0.out HA.1 (fun g h => h) (fun g h => HA.newL g h)
      exact ⟨.slice Ak_ k cK_, vc1, Lc1, rfl, hown1, HA9.sub tk_sub, tk_top HA9 (HACC.out ▸ hownk) HFR.out htr⟩
theorem takeV_kids (m : List Int) (n : Nat) (left : Int) (cs : List Int) (x : Int) (h1 : ¬ left < 1) (h2 : ¬ x % 2 = 1) (h4 : ¬ x % 4 ≠ 0) (hb : blkB m (x / 4) = true) (hk : ¬ (splV (rd m (x / 4))).1 = 2) :
    takeV m (n + 1) (left, cs) x = (if (kidsV (takeV m n) (left - 1, cs) (kidsOf m (x / 4)) []).1.2 = 0 then ((⟨(topV m (x / 4)).1, (topV m (x / 4)).2, (kidsV (takeV m n) (left - 1, cs) (kidsOf m (x / 4)) []).1.1⟩, 0), (kidsV (takeV m n) (left - 1, cs) (kidsOf m (x / 4)) []).2) else ((zV, (kidsV (takeV m n) (left - 1, cs) (kidsOf m (x / 4)) []).1.2), (kidsV (takeV m n) (left - 1, cs) (kidsOf m (x / 4)) []).2)) := by
  rw [takeV, if_neg h1, if_neg h2, if_neg h4, if_neg (by rw [hb]; decide), if_neg hk]
set_option maxHeartbeats 8000000 in
set_option maxRecDepth 100000 in
theorem T_take.calls (m : List Int) (hm : m.length ≤ 1000000 ∧ ∀ x ∈ m, 0 ≤ x ∧ x < 4294967296) (A0 : Option Addr) (c0 : Nat) (hc0 : m.length ≤ c0) : ∀ (n : Nat) (left : Int) (cs : List Int) (x : Int) (W : World) (gt : Nat) (vc : Value) (Lc : List (Nat × Blk)), left ≤ n → (cs.length : Int) + left ≤ 100000 → 0 ≤ x → x < 4294967296 → (∀ W', Kp (inL ((gt, Blk.c 67 []) :: Lc)) W W' → Kd.C (Kd.int .u32) W' A0 m.length m) → Own 3 1 vc cs.length (cs.map (Value.int .i64)) Lc → Aw (inL ((gt, Blk.c 67 []) :: Lc)) W W (tkT gt A0 m.length c0 left vc :: Lc) → Calls Try.prog 36 #[.pointer (some ⟨gt, 0, none⟩), .int .u32 x] W (TkPost A0 m.length c0 gt Lc W (takeV m n (left, cs) x)) := by
  intro n
  induction n with
  | zero =>
    intro left cs x W gt vc Lc hln hcb hx0 hx1 hr hown HA
    exact T_take.low m A0 c0 0 left cs x W gt vc Lc (by omega) hown HA
  | succ n ih =>
    intro left cs x W gt vc Lc hln hcb hx0 hx1 hr hown HA
    by_cases hl : left < 1
    · exact T_take.low m A0 c0 (n + 1) left cs x W gt vc Lc hl hown HA
    have hl1 : 1 ≤ left := by omega
    by_cases h2 : x % 2 = 1
    · have e : takeV m (n + 1) (left, cs) x = ((⟨1, unb x, []⟩, 0), (left - 1, cs)) := by rw [takeV, if_neg hl, if_pos h2]
      rw [e]
      exact T_take.odd m hm A0 c0 hc0 left cs x W gt vc Lc hl1 hcb hx0 hx1 hr hown HA h2
    by_cases h4 : x % 4 ≠ 0
    · have e : takeV m (n + 1) (left, cs) x = ((zV, 22), (left - 1, cs)) := by rw [takeV, if_neg hl, if_neg h2, if_pos h4]
      rw [e]
      exact T_take.bad4 m hm A0 c0 hc0 left cs x W gt vc Lc hl1 hcb hx0 hx1 hr hown HA h2 h4
    cases hb : blkB m (x / 4) with
    | false =>
      have e : takeV m (n + 1) (left, cs) x = ((zV, 22), (left - 1, cs)) := by rw [takeV, if_neg hl, if_neg h2, if_neg h4, if_pos hb]
      rw [e]
      exact T_take.nob m hm A0 c0 hc0 left cs x W gt vc Lc hl1 hcb hx0 hx1 hr hown HA h2 (by omega) hb
    | true =>
      by_cases hk : (splV (rd m (x / 4))).1 = 2
      · have e : takeV m (n + 1) (left, cs) x = ((⟨4, (cellV cs (x / 4)).1, []⟩, 0), (left - 1, (cellV cs (x / 4)).2)) := by rw [takeV, if_neg hl, if_neg h2, if_neg h4, if_neg (by rw [hb]; decide), if_pos hk]
        rw [e]
        exact T_take.cel m hm A0 c0 hc0 left cs x W gt vc Lc hl1 hcb hx0 hx1 hr hown HA h2 (by omega) hb hk
      · rw [takeV_kids m n left cs x hl h2 h4 hb hk]
        have hbi := blkB_in hb
        have hw := hm.2 _ (rd_memT (l := m) (i := x / 4) hbi.1 hbi.2.1)
        have hs := splV_size hw.1 hw.2
        have ih2 := fun l cs x W gt vc Lc (h1 : l ≤ (n : Int)) (h2 : 0 ≤ l) => ih l cs x W gt vc Lc h1
        by_cases hk1 : (splV (rd m (x / 4))).1 = 1
        · exact T_take.kids1 m hm A0 c0 hc0 n ih2 left cs x W gt vc Lc hl1 hcb hx0 hx1 hr hown HA (by omega) h2 (by omega) hb hk1 _ rfl
        · exact T_take.kids0 m hm A0 c0 hc0 n ih2 left cs x W gt vc Lc hl1 hcb hx0 hx1 hr hown HA (by omega) h2 (by omega) hb (by omega) _ rfl
end Go.Proofs.Ytaddjeegplfjiaa.Q
