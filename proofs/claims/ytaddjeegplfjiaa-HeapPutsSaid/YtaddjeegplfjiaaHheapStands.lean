/- heap.stands: the block at a place. By wip/gen/heap_take.py. -/
import Derived.Test.YtaddjeegplfjiaaQx0
import Derived.Test.YtaddjeegplfjiaaQx1
import Derived.Test.YtaddjeegplfjiaaAwReg
import Derived.Test.YtaddjeegplfjiaaAwRs
import Derived.Test.YtaddjeegplfjiaaAwTree
import Derived.Test.YtaddjeegplfjiaaHeapPlain
import Derived.Test.YtaddjeegplfjiaaTakeM
--@needs XAwTree
--@needs XTakeM
--@needs XHeapPlain
--@needs XAwRs
--@needs XAwReg
--@uses camlet/heap.Split
import Derived.LoopTactic
import Derived.Deep.LoopGhost
import Derived.Lib.Hide
import Derived.IntWalk
import Derived.Outline
namespace Go.Proofs.Ytaddjeegplfjiaa.Q
open Go.RowKit Go.Proofs.YtaddjeegplfjiaaW.PrintWords Go.Proofs.YtaddjeegplfjiaaW.PrintLast Go.Proofs.YtaddjeegplfjiaaW.PrintMore
attribute [local go_sem] max2_int min2_int max_two min_two max_three min_three max_four min_four   -- for this text's walks alone
set_option linter.unusedVariables false
set_option linter.unusedSimpArgs false

theorem blkB_in' {m : List Int} {a : Int} (h : blkB m a = true) : 0 ≤ a ∧ a < (m.length : Int) ∧ (splV (rd m a)).2.2.2 = true ∧ a + (splV (rd m a)).2.2.1 < (m.length : Int) ∧ ((splV (rd m a)).1 = 1 → Int.tmod (rd m (a + 1)) 2 = 1) := by
  unfold blkB at h
  simp only [Bool.and_eq_true, decide_eq_true_eq, Bool.or_eq_true, Bool.not_eq_true', decide_eq_false_iff_not, beq_iff_eq] at h
  exact ⟨h.1, h.2.1, h.2.2.1, h.2.2.2.1, fun h1 => h.2.2.2.2.resolve_left (fun h2 => h2 h1)⟩
set_option maxHeartbeats 8000000 in
set_option maxRecDepth 100000 in
theorem stands.bad4 (m : List Int) (hm : m.length ≤ 1000000 ∧ ∀ x ∈ m, 0 ≤ x ∧ x < 4294967296) (A0 : Option Addr) (c0 : Nat) (hc0 : m.length ≤ c0) (x : Int) (hx0 : 0 ≤ x) (hx1 : x < 4294967296) (W : World) (hr : Kd.C (Kd.int .u32) W A0 m.length m) (h4 : x % 4 ≠ 0) :
    Calls Try.prog 37 #[.slice A0 m.length c0, .int .u32 x] W fun e W' => e = .returned (.tuple #[.int .i64 0, .int .i64 0, .slice none 0 0, .bool false]) ∧ Below W.heap.size W W' := by
  have c4 : (x % 4 != 0) = true := bne_iff_ne.mpr h4
  go_enter Try.func37, Try.ntmps37
  go_wp2
  refine bodyPost_ret (results_list (rs := [.tmp 4, .tmp 5, .tmp 6, .tmp 7]) rfl (by simp) (.tmp (.tmp (.tmp (.tmp .nil))))) rfl ?_
  exact ⟨rfl, Below.refl _ _⟩
set_option maxHeartbeats 8000000 in
set_option maxRecDepth 100000 in
theorem stands.out (m : List Int) (hm : m.length ≤ 1000000 ∧ ∀ x ∈ m, 0 ≤ x ∧ x < 4294967296) (A0 : Option Addr) (c0 : Nat) (hc0 : m.length ≤ c0) (x : Int) (hx0 : 0 ≤ x) (hx1 : x < 4294967296) (W : World) (hr : Kd.C (Kd.int .u32) W A0 m.length m) (h4 : x % 4 = 0) (ho : (m.length : Int) ≤ x / 4) :
    Calls Try.prog 37 #[.slice A0 m.length c0, .int .u32 x] W fun e W' => e = .returned (.tuple #[.int .i64 0, .int .i64 0, .slice none 0 0, .bool false]) ∧ Below W.heap.size W W' := by
  have c4 : (x % 4 != 0) = false := bne_eq_false_iff_eq.mpr h4
  have c5 : decide (x / 4 ≥ (m.length : Int)) = true := decide_eq_true ho
  go_enter Try.func37, Try.ntmps37
  go_wp2
  refine bodyPost_ret (results_list (rs := [.tmp 4, .tmp 5, .tmp 6, .tmp 7]) rfl (by simp) (.tmp (.tmp (.tmp (.tmp .nil))))) rfl ?_
  exact ⟨rfl, Below.refl _ _⟩
set_option maxHeartbeats 8000000 in
set_option maxRecDepth 100000 in
theorem stands.nospl (m : List Int) (hm : m.length ≤ 1000000 ∧ ∀ x ∈ m, 0 ≤ x ∧ x < 4294967296) (A0 : Option Addr) (c0 : Nat) (hc0 : m.length ≤ c0) (x : Int) (hx0 : 0 ≤ x) (hx1 : x < 4294967296) (W : World) (hr : Kd.C (Kd.int .u32) W A0 m.length m) (h4 : x % 4 = 0) (ho : x / 4 < (m.length : Int)) (hs : (splV (rd m (x / 4))).2.2.2 = false) :
    Calls Try.prog 37 #[.slice A0 m.length c0, .int .u32 x] W fun e W' => e = .returned (.tuple #[.int .i64 0, .int .i64 0, .slice none 0 0, .bool false]) ∧ Below W.heap.size W W' := by
  have c4 : (x % 4 != 0) = false := bne_eq_false_iff_eq.mpr h4
  have c5 : decide (x / 4 ≥ (m.length : Int)) = false := decide_eq_false (by omega)
  have hxw := hm.2 _ (rd_memT (l := m) (i := x / 4) (by omega) ho)
  have i1 : decide (0 ≤ x / 4) = true := decide_eq_true (by omega)
  have i2 : decide (x / 4 < (m.length : Int)) = true := decide_eq_true ho
  obtain ⟨ad, had, hcell⟩ := Kd.at_int hr (x / 4) (by omega) ho
  subst had
  obtain ⟨xw, hxe⟩ : ∃ xw, rd m (x / 4) = xw := ⟨_, rfl⟩
  rw [hxe] at hxw hcell
  obtain ⟨s1, s2, s3, s4, HSQ⟩ : ∃ s1 s2 s3 s4, Aside0 (splV xw = (s1, s2, s3, s4)) := ⟨_, _, _, _, ⟨rfl⟩⟩
  have HSP := Aside0.mk (heap_Split_eq xw hxw.1 hxw.2)
  rw [HSQ.out] at HSP
  have hsz := splV_size hxw.1 hxw.2
  rw [HSQ.out] at hsz
  have HCL : ∀ W', Below W.heap.size W W' → W'.cell? (ad.add (x / 4).toNat) = some (.int .u32 xw) := fun W' hb => (hb.cell (World.block_lt_of_cell? _ _ hcell)).trans hcell
  rw [hxe, HSQ.out] at hs
  dsimp only at hs
  subst hs
  clear hxe hxw hsz hm
  go_enter Try.func37, Try.ntmps37
  go_wp2_with (first | (go_at_call 10; refine (heap_Split.calls xw _ _ _ _ _ HSP.out).mono ?_; rintro e W_ ⟨rfl, hb_⟩; have HB := Aside0.mk hb_; clear hb_))
  refine bodyPost_ret (results_list (rs := [.tmp 4, .tmp 5, .tmp 6, .tmp 7]) rfl (by simp) (.tmp (.tmp (.tmp (.tmp .nil))))) rfl ?_
  exact ⟨rfl, HB.out⟩
set_option maxHeartbeats 8000000 in
set_option maxRecDepth 100000 in
theorem stands.long (m : List Int) (hm : m.length ≤ 1000000 ∧ ∀ x ∈ m, 0 ≤ x ∧ x < 4294967296) (A0 : Option Addr) (c0 : Nat) (hc0 : m.length ≤ c0) (x : Int) (hx0 : 0 ≤ x) (hx1 : x < 4294967296) (W : World) (hr : Kd.C (Kd.int .u32) W A0 m.length m) (h4 : x % 4 = 0) (ho : x / 4 < (m.length : Int)) (hs : (splV (rd m (x / 4))).2.2.2 = true) (hl : (m.length : Int) ≤ x / 4 + (splV (rd m (x / 4))).2.2.1) :
    Calls Try.prog 37 #[.slice A0 m.length c0, .int .u32 x] W fun e W' => e = .returned (.tuple #[.int .i64 0, .int .i64 0, .slice none 0 0, .bool false]) ∧ Below W.heap.size W W' := by
  have c4 : (x % 4 != 0) = false := bne_eq_false_iff_eq.mpr h4
  have c5 : decide (x / 4 ≥ (m.length : Int)) = false := decide_eq_false (by omega)
  have hxw := hm.2 _ (rd_memT (l := m) (i := x / 4) (by omega) ho)
  have i1 : decide (0 ≤ x / 4) = true := decide_eq_true (by omega)
  have i2 : decide (x / 4 < (m.length : Int)) = true := decide_eq_true ho
  obtain ⟨ad, had, hcell⟩ := Kd.at_int hr (x / 4) (by omega) ho
  subst had
  obtain ⟨xw, hxe⟩ : ∃ xw, rd m (x / 4) = xw := ⟨_, rfl⟩
  rw [hxe] at hxw hcell
  obtain ⟨s1, s2, s3, s4, HSQ⟩ : ∃ s1 s2 s3 s4, Aside0 (splV xw = (s1, s2, s3, s4)) := ⟨_, _, _, _, ⟨rfl⟩⟩
  have HSP := Aside0.mk (heap_Split_eq xw hxw.1 hxw.2)
  rw [HSQ.out] at HSP
  have hsz := splV_size hxw.1 hxw.2
  rw [HSQ.out] at hsz
  have HCL : ∀ W', Below W.heap.size W W' → W'.cell? (ad.add (x / 4).toNat) = some (.int .u32 xw) := fun W' hb => (hb.cell (World.block_lt_of_cell? _ _ hcell)).trans hcell
  rw [hxe, HSQ.out] at hs hl
  dsimp only at hs hl hsz
  subst hs
  have e1 : IntKind.i64.wrap (x / 4 + s3) = x / 4 + s3 := IntWalk.i64_in _ (by omega)
  have c6 : decide (x / 4 + s3 ≥ (m.length : Int)) = true := decide_eq_true hl
  clear hxe hxw hsz hm
  go_enter Try.func37, Try.ntmps37
  go_wp2_with (first | (go_at_call 10; refine (heap_Split.calls xw _ _ _ _ _ HSP.out).mono ?_; rintro e W_ ⟨rfl, hb_⟩; have HB := Aside0.mk hb_; clear hb_))
  refine bodyPost_ret (results_list (rs := [.tmp 4, .tmp 5, .tmp 6, .tmp 7]) rfl (by simp) (.tmp (.tmp (.tmp (.tmp .nil))))) rfl ?_
  exact ⟨rfl, HB.out⟩
set_option maxHeartbeats 8000000 in
set_option maxRecDepth 100000 in
theorem stands.even (m : List Int) (hm : m.length ≤ 1000000 ∧ ∀ x ∈ m, 0 ≤ x ∧ x < 4294967296) (A0 : Option Addr) (c0 : Nat) (hc0 : m.length ≤ c0) (x : Int) (hx0 : 0 ≤ x) (hx1 : x < 4294967296) (W : World) (hr : Kd.C (Kd.int .u32) W A0 m.length m) (h4 : x % 4 = 0) (ho : x / 4 < (m.length : Int)) (hs : (splV (rd m (x / 4))).2.2.2 = true) (hl : x / 4 + (splV (rd m (x / 4))).2.2.1 < (m.length : Int)) (hk : (splV (rd m (x / 4))).1 = 1) (he : rd m (x / 4 + 1) % 2 = 0) :
    Calls Try.prog 37 #[.slice A0 m.length c0, .int .u32 x] W fun e W' => e = .returned (.tuple #[.int .i64 0, .int .i64 0, .slice none 0 0, .bool false]) ∧ Below W.heap.size W W' := by
  have c4 : (x % 4 != 0) = false := bne_eq_false_iff_eq.mpr h4
  have c5 : decide (x / 4 ≥ (m.length : Int)) = false := decide_eq_false (by omega)
  have hxw := hm.2 _ (rd_memT (l := m) (i := x / 4) (by omega) ho)
  have i1 : decide (0 ≤ x / 4) = true := decide_eq_true (by omega)
  have i2 : decide (x / 4 < (m.length : Int)) = true := decide_eq_true ho
  obtain ⟨ad, had, hcell⟩ := Kd.at_int hr (x / 4) (by omega) ho
  subst had
  obtain ⟨xw, hxe⟩ : ∃ xw, rd m (x / 4) = xw := ⟨_, rfl⟩
  rw [hxe] at hxw hcell
  obtain ⟨s1, s2, s3, s4, HSQ⟩ : ∃ s1 s2 s3 s4, Aside0 (splV xw = (s1, s2, s3, s4)) := ⟨_, _, _, _, ⟨rfl⟩⟩
  have HSP := Aside0.mk (heap_Split_eq xw hxw.1 hxw.2)
  rw [HSQ.out] at HSP
  have hsz := splV_size hxw.1 hxw.2
  rw [HSQ.out] at hsz
  have HCL : ∀ W', Below W.heap.size W W' → W'.cell? (ad.add (x / 4).toNat) = some (.int .u32 xw) := fun W' hb => (hb.cell (World.block_lt_of_cell? _ _ hcell)).trans hcell
  rw [hxe, HSQ.out] at hs hl hk
  dsimp only at hs hl hsz hk
  subst hs
  have h31 := hsz.2.2.2.2.2.2 rfl
  have e1 : IntKind.i64.wrap (x / 4 + s3) = x / 4 + s3 := IntWalk.i64_in _ (by omega)
  have c6 : decide (x / 4 + s3 ≥ (m.length : Int)) = false := decide_eq_false (by omega)
  have c7 : (s1 == 1) = true := beq_iff_eq.mpr hk
  have hr1 : x / 4 + 1 < (m.length : Int) := by omega
  have e2 : IntKind.i64.wrap (x / 4 + 1) = x / 4 + 1 := IntWalk.i64_in _ (by omega)
  have i3 : decide (0 ≤ x / 4 + 1) = true := decide_eq_true (by omega)
  have i4 : decide (x / 4 + 1 < (m.length : Int)) = true := decide_eq_true hr1
  obtain ⟨ad2, had2, hcell1⟩ := Kd.at_int hr (x / 4 + 1) (by omega) hr1
  cases had2
  have hyw := hm.2 _ (rd_memT (l := m) (i := x / 4 + 1) (by omega) hr1)
  have hy0 := hyw.1
  have hy1 := hyw.2
  obtain ⟨y, hye⟩ : ∃ y, rd m (x / 4 + 1) = y := ⟨_, rfl⟩
  rw [hye] at hcell1 hy0 hy1 he
  clear hyw hye
  have HC1 : ∀ W', Below W.heap.size W W' → W'.cell? (ad.add (x / 4 + 1).toNat) = some (.int .u32 y) := fun W' hb => (hb.cell (World.block_lt_of_cell? _ _ hcell1)).trans hcell1
  have c8 : (y % 2 == 0) = true := beq_iff_eq.mpr he
  clear hxe hxw hsz hm hk he
  go_enter Try.func37, Try.ntmps37
  go_wp2_with (first | (go_at_call 10; refine (heap_Split.calls xw _ _ _ _ _ HSP.out).mono ?_; rintro e W_ ⟨rfl, hb_⟩; have HB := Aside0.mk hb_; replace hcell1 := HC1 _ hb_; clear hb_))
  refine bodyPost_ret (results_list (rs := [.tmp 4, .tmp 5, .tmp 6, .tmp 7]) rfl (by simp) (.tmp (.tmp (.tmp (.tmp .nil))))) rfl ?_
  exact ⟨rfl, HB.out⟩
set_option maxHeartbeats 8000000 in
set_option maxRecDepth 100000 in
theorem stands.yes1 (m : List Int) (hm : m.length ≤ 1000000 ∧ ∀ x ∈ m, 0 ≤ x ∧ x < 4294967296) (A0 : Option Addr) (c0 : Nat) (hc0 : m.length ≤ c0) (x : Int) (hx0 : 0 ≤ x) (hx1 : x < 4294967296) (W : World) (hr : Kd.C (Kd.int .u32) W A0 m.length m) (h4 : x % 4 = 0) (ho : x / 4 < (m.length : Int)) (hs : (splV (rd m (x / 4))).2.2.2 = true) (hl : x / 4 + (splV (rd m (x / 4))).2.2.1 < (m.length : Int)) (hk : (splV (rd m (x / 4))).1 = 1) (he : ¬ rd m (x / 4 + 1) % 2 = 0) :
    Calls Try.prog 37 #[.slice A0 m.length c0, .int .u32 x] W fun e W' => (∃ ad, A0 = some ad ∧ e = .returned (.tuple #[.int .i64 (splV (rd m (x / 4))).1, .int .i64 (splV (rd m (x / 4))).2.1, .slice (some (ad.add (x / 4 + 1).toNat)) (splV (rd m (x / 4))).2.2.1.toNat (c0 - (x / 4 + 1).toNat), .bool true])) ∧ Below W.heap.size W W' := by
  have c4 : (x % 4 != 0) = false := bne_eq_false_iff_eq.mpr h4
  have c5 : decide (x / 4 ≥ (m.length : Int)) = false := decide_eq_false (by omega)
  have hxw := hm.2 _ (rd_memT (l := m) (i := x / 4) (by omega) ho)
  have i1 : decide (0 ≤ x / 4) = true := decide_eq_true (by omega)
  have i2 : decide (x / 4 < (m.length : Int)) = true := decide_eq_true ho
  obtain ⟨ad, had, hcell⟩ := Kd.at_int hr (x / 4) (by omega) ho
  subst had
  obtain ⟨xw, hxe⟩ : ∃ xw, rd m (x / 4) = xw := ⟨_, rfl⟩
  rw [hxe] at hxw hcell
  obtain ⟨s1, s2, s3, s4, HSQ⟩ : ∃ s1 s2 s3 s4, Aside0 (splV xw = (s1, s2, s3, s4)) := ⟨_, _, _, _, ⟨rfl⟩⟩
  have HSP := Aside0.mk (heap_Split_eq xw hxw.1 hxw.2)
  rw [HSQ.out] at HSP
  have hsz := splV_size hxw.1 hxw.2
  rw [HSQ.out] at hsz
  have HCL : ∀ W', Below W.heap.size W W' → W'.cell? (ad.add (x / 4).toNat) = some (.int .u32 xw) := fun W' hb => (hb.cell (World.block_lt_of_cell? _ _ hcell)).trans hcell
  rw [hxe, HSQ.out] at hs hl hk
  rw [hxe, HSQ.out]
  dsimp only at hs hl hsz hk
  dsimp only
  subst hs
  have h31 := hsz.2.2.2.2.2.2 rfl
  have e1 : IntKind.i64.wrap (x / 4 + s3) = x / 4 + s3 := IntWalk.i64_in _ (by omega)
  have e2 : IntKind.i64.wrap (x / 4 + 1) = x / 4 + 1 := IntWalk.i64_in _ (by omega)
  have e3 : IntKind.i64.wrap (x / 4 + 1 + s3) = x / 4 + 1 + s3 := IntWalk.i64_in _ (by omega)
  have c6 : decide (x / 4 + s3 ≥ (m.length : Int)) = false := decide_eq_false (by omega)
  have c7 : (s1 == 1) = true := beq_iff_eq.mpr hk
  have hr1 : x / 4 + 1 < (m.length : Int) := by omega
  have e2 : IntKind.i64.wrap (x / 4 + 1) = x / 4 + 1 := IntWalk.i64_in _ (by omega)
  have i3 : decide (0 ≤ x / 4 + 1) = true := decide_eq_true (by omega)
  have i4 : decide (x / 4 + 1 < (m.length : Int)) = true := decide_eq_true hr1
  obtain ⟨ad2, had2, hcell1⟩ := Kd.at_int hr (x / 4 + 1) (by omega) hr1
  cases had2
  have hyw := hm.2 _ (rd_memT (l := m) (i := x / 4 + 1) (by omega) hr1)
  have hy0 := hyw.1
  have hy1 := hyw.2
  obtain ⟨y, hye⟩ : ∃ y, rd m (x / 4 + 1) = y := ⟨_, rfl⟩
  rw [hye] at hcell1 hy0 hy1 he
  clear hyw hye
  have HC1 : ∀ W', Below W.heap.size W W' → W'.cell? (ad.add (x / 4 + 1).toNat) = some (.int .u32 y) := fun W' hb => (hb.cell (World.block_lt_of_cell? _ _ hcell1)).trans hcell1
  have c8 : (y % 2 == 0) = false := beq_eq_false_iff_ne.mpr he
  clear he
  clear hxe hxw hm hk
  go_enter Try.func37, Try.ntmps37
  go_wp2_with (first | (go_at_call 10; refine (heap_Split.calls xw _ _ _ _ _ HSP.out).mono ?_; rintro e W_ ⟨rfl, hb_⟩; have HB := Aside0.mk hb_; replace hcell1 := HC1 _ hb_; clear hb_))
  go_region
  go_wp2
  refine bodyPost_ret (results_list (rs := [.tmp 4, .tmp 5, .tmp 6, .tmp 7]) rfl (by simp) (.tmp (.tmp (.tmp (.tmp .nil))))) rfl ?_
  refine ⟨⟨ad, rfl, ?_⟩, below_drew1 HB.out⟩
  have es : (x / 4 + 1 + s3).toNat - (x / 4 + 1).toNat = s3.toNat := by omega
  rw [← es]
  rfl
set_option maxHeartbeats 8000000 in
set_option maxRecDepth 100000 in
theorem stands.yes (m : List Int) (hm : m.length ≤ 1000000 ∧ ∀ x ∈ m, 0 ≤ x ∧ x < 4294967296) (A0 : Option Addr) (c0 : Nat) (hc0 : m.length ≤ c0) (x : Int) (hx0 : 0 ≤ x) (hx1 : x < 4294967296) (W : World) (hr : Kd.C (Kd.int .u32) W A0 m.length m) (h4 : x % 4 = 0) (ho : x / 4 < (m.length : Int)) (hs : (splV (rd m (x / 4))).2.2.2 = true) (hl : x / 4 + (splV (rd m (x / 4))).2.2.1 < (m.length : Int)) (hk : ¬ (splV (rd m (x / 4))).1 = 1) :
    Calls Try.prog 37 #[.slice A0 m.length c0, .int .u32 x] W fun e W' => (∃ ad, A0 = some ad ∧ e = .returned (.tuple #[.int .i64 (splV (rd m (x / 4))).1, .int .i64 (splV (rd m (x / 4))).2.1, .slice (some (ad.add (x / 4 + 1).toNat)) (splV (rd m (x / 4))).2.2.1.toNat (c0 - (x / 4 + 1).toNat), .bool true])) ∧ Below W.heap.size W W' := by
  have c4 : (x % 4 != 0) = false := bne_eq_false_iff_eq.mpr h4
  have c5 : decide (x / 4 ≥ (m.length : Int)) = false := decide_eq_false (by omega)
  have hxw := hm.2 _ (rd_memT (l := m) (i := x / 4) (by omega) ho)
  have i1 : decide (0 ≤ x / 4) = true := decide_eq_true (by omega)
  have i2 : decide (x / 4 < (m.length : Int)) = true := decide_eq_true ho
  obtain ⟨ad, had, hcell⟩ := Kd.at_int hr (x / 4) (by omega) ho
  subst had
  obtain ⟨xw, hxe⟩ : ∃ xw, rd m (x / 4) = xw := ⟨_, rfl⟩
  rw [hxe] at hxw hcell
  obtain ⟨s1, s2, s3, s4, HSQ⟩ : ∃ s1 s2 s3 s4, Aside0 (splV xw = (s1, s2, s3, s4)) := ⟨_, _, _, _, ⟨rfl⟩⟩
  have HSP := Aside0.mk (heap_Split_eq xw hxw.1 hxw.2)
  rw [HSQ.out] at HSP
  have hsz := splV_size hxw.1 hxw.2
  rw [HSQ.out] at hsz
  have HCL : ∀ W', Below W.heap.size W W' → W'.cell? (ad.add (x / 4).toNat) = some (.int .u32 xw) := fun W' hb => (hb.cell (World.block_lt_of_cell? _ _ hcell)).trans hcell
  rw [hxe, HSQ.out] at hs hl hk
  rw [hxe, HSQ.out]
  dsimp only at hs hl hsz hk
  dsimp only
  subst hs
  have h31 := hsz.2.2.2.2.2.2 rfl
  have e1 : IntKind.i64.wrap (x / 4 + s3) = x / 4 + s3 := IntWalk.i64_in _ (by omega)
  have e2 : IntKind.i64.wrap (x / 4 + 1) = x / 4 + 1 := IntWalk.i64_in _ (by omega)
  have e3 : IntKind.i64.wrap (x / 4 + 1 + s3) = x / 4 + 1 + s3 := IntWalk.i64_in _ (by omega)
  have c6 : decide (x / 4 + s3 ≥ (m.length : Int)) = false := decide_eq_false (by omega)
  have c7 : (s1 == 1) = false := beq_eq_false_iff_ne.mpr hk
  clear hxe hxw hm hk
  go_enter Try.func37, Try.ntmps37
  go_wp2_with (first | (go_at_call 10; refine (heap_Split.calls xw _ _ _ _ _ HSP.out).mono ?_; rintro e W_ ⟨rfl, hb_⟩; have HB := Aside0.mk hb_; clear hb_))
  go_region
  go_wp2
  refine bodyPost_ret (results_list (rs := [.tmp 4, .tmp 5, .tmp 6, .tmp 7]) rfl (by simp) (.tmp (.tmp (.tmp (.tmp .nil))))) rfl ?_
  refine ⟨⟨ad, rfl, ?_⟩, below_drew1 HB.out⟩
  have es : (x / 4 + 1 + s3).toNat - (x / 4 + 1).toNat = s3.toNat := by omega
  rw [← es]
  rfl
theorem stands.no (m : List Int) (hm : m.length ≤ 1000000 ∧ ∀ x ∈ m, 0 ≤ x ∧ x < 4294967296) (A0 : Option Addr) (c0 : Nat) (hc0 : m.length ≤ c0) (x : Int) (hx0 : 0 ≤ x) (hx1 : x < 4294967296) (W : World) (hr : Kd.C (Kd.int .u32) W A0 m.length m) (h : x % 4 ≠ 0 ∨ blkB m (x / 4) = false) :
    Calls Try.prog 37 #[.slice A0 m.length c0, .int .u32 x] W fun e W' => e = .returned (.tuple #[.int .i64 0, .int .i64 0, .slice none 0 0, .bool false]) ∧ Below W.heap.size W W' := by
  by_cases h4 : x % 4 = 0
  · have hb := h.resolve_left (fun e => e h4)
    by_cases ho : x / 4 < (m.length : Int)
    · unfold blkB at hb
      rw [decide_eq_true (show 0 ≤ x / 4 by omega), decide_eq_true ho, Bool.true_and, Bool.true_and] at hb
      cases hs : (splV (rd m (x / 4))).2.2.2 with
      | false => exact stands.nospl m hm A0 c0 hc0 x hx0 hx1 W hr h4 ho hs
      | true =>
        rw [hs, Bool.true_and] at hb
        by_cases hl : x / 4 + (splV (rd m (x / 4))).2.2.1 < (m.length : Int)
        · rw [decide_eq_true hl, Bool.true_and] at hb
          by_cases hk : (splV (rd m (x / 4))).1 = 1
          · rw [decide_eq_true hk] at hb
            have hw := hm.2 _ (rd_memT (l := m) (i := x / 4) (by omega) ho)
            have h31 := (splV_size hw.1 hw.2).2.2.2.2.2.2 hs
            have hy := hm.2 _ (rd_memT (l := m) (i := x / 4 + 1) (by omega) (by omega))
            have hb2 : (Int.tmod (rd m (x / 4 + 1)) 2 == 1) = false := by simpa using hb
            rw [Int.tmod_eq_emod_of_nonneg hy.1, beq_eq_false_iff_ne] at hb2
            exact stands.even m hm A0 c0 hc0 x hx0 hx1 W hr h4 ho hs hl hk (by omega)
          · rw [decide_eq_false hk] at hb
            simp at hb
        · exact stands.long m hm A0 c0 hc0 x hx0 hx1 W hr h4 ho hs (by omega)
    · exact stands.out m hm A0 c0 hc0 x hx0 hx1 W hr h4 (by omega)
  · exact stands.bad4 m hm A0 c0 hc0 x hx0 hx1 W hr h4
theorem stands.yea (m : List Int) (hm : m.length ≤ 1000000 ∧ ∀ x ∈ m, 0 ≤ x ∧ x < 4294967296) (A0 : Option Addr) (c0 : Nat) (hc0 : m.length ≤ c0) (x : Int) (hx0 : 0 ≤ x) (hx1 : x < 4294967296) (W : World) (hr : Kd.C (Kd.int .u32) W A0 m.length m) (h4 : x % 4 = 0) (hb : blkB m (x / 4) = true) :
    Calls Try.prog 37 #[.slice A0 m.length c0, .int .u32 x] W fun e W' => (∃ ad, A0 = some ad ∧ e = .returned (.tuple #[.int .i64 (splV (rd m (x / 4))).1, .int .i64 (splV (rd m (x / 4))).2.1, .slice (some (ad.add (x / 4 + 1).toNat)) (splV (rd m (x / 4))).2.2.1.toNat (c0 - (x / 4 + 1).toNat), .bool true])) ∧ Below W.heap.size W W' := by
  have h := blkB_in' hb
  by_cases hk : (splV (rd m (x / 4))).1 = 1
  · have h2 := h.2.2.2.2 hk
    have hw := hm.2 _ (rd_memT (l := m) (i := x / 4) (by omega) h.2.1)
    have h31 := (splV_size hw.1 hw.2).2.2.2.2.2.2 h.2.2.1
    have h5 := h.2.2.2.1
    have hy := hm.2 _ (rd_memT (l := m) (i := x / 4 + 1) (by omega) (by omega))
    rw [Int.tmod_eq_emod_of_nonneg hy.1] at h2
    exact stands.yes1 m hm A0 c0 hc0 x hx0 hx1 W hr h4 h.2.1 h.2.2.1 h.2.2.2.1 hk (by omega)
  · exact stands.yes m hm A0 c0 hc0 x hx0 hx1 W hr h4 h.2.1 h.2.2.1 h.2.2.2.1 hk
end Go.Proofs.Ytaddjeegplfjiaa.Q
