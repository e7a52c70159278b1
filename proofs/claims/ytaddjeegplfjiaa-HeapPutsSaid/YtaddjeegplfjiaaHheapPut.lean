/- heap.Put. By wip/gen/heap_put.py. -/
import Derived.Test.YtaddjeegplfjiaaQx0
import Derived.Test.YtaddjeegplfjiaaQx3
import Derived.Test.YtaddjeegplfjiaaAw
import Derived.Test.YtaddjeegplfjiaaAwAny
import Derived.Test.YtaddjeegplfjiaaAwFrame
import Derived.Test.YtaddjeegplfjiaaAwReg
import Derived.Test.YtaddjeegplfjiaaAwRowPut
import Derived.Test.YtaddjeegplfjiaaAwSl
import Derived.Test.YtaddjeegplfjiaaAwTree
import Derived.Test.YtaddjeegplfjiaaHeapPlain
import Derived.Test.YtaddjeegplfjiaaHeapWords
import Derived.Test.YtaddjeegplfjiaaHheapClone
import Derived.Test.YtaddjeegplfjiaaHlayAll
import Derived.Test.YtaddjeegplfjiaaHheapMay
import Derived.Test.YtaddjeegplfjiaaHvalR
import Derived.Test.YtaddjeegplfjiaaLayM
--@needs XAwTree
--@needs XAwRowPut
--@needs XAwReg
--@needs XAwAny
--@needs XHheapMay
--@needs XHheapLay2
--@needs XHheapClone
--@needs XHeapWords
--@uses camlet/heap.Head
--@uses camlet/num.Box
--@uses camlet/heap.words
import Derived.LoopTactic
import Derived.Deep.LoopGhost
import Derived.Lib.Hide
import Derived.IntWalk
import Derived.Outline
namespace Go.Proofs.Ytaddjeegplfjiaa.Q
open Go.RowKit Go.Proofs.YtaddjeegplfjiaaW.PrintWords Go.Proofs.YtaddjeegplfjiaaW.PrintLast Go.Proofs.YtaddjeegplfjiaaW.PrintMore
attribute [local go_sem] max2_int min2_int max_two min_two max_three min_three max_four min_four   -- for this text's walks alone
set_option linter.unusedVariables false
set_option linter.unusedSimpArgs false

theorem hpk_heap : Kd.Heap k34 := Kd.heap_fix (fun d hd => Kd.heap_iso _ (Kd.heap_pair (Kd.heap_int _) (Kd.heap_pair (Kd.heap_int _) (Kd.heap_slice _ hd))))
theorem mayM_kid {d : Nat} {x : S34} (h : mayM (d + 1) x = true) : ∀ y ∈ x.f2, mayM d y = true := by
  intro y hy
  simp only [mayM, Bool.and_eq_true] at h
  have h2 := h.2
  rcases hv : mayM d y with _ | _
  · have : x.f2.any (fun y => !mayM d y) = true := List.any_eq_true.mpr ⟨y, hy, by rw [hv]; rfl⟩
    rw [this] at h2
    simp at h2
  · rfl
theorem valR_block {d : Nat} {x : S34} (h : valR d x = true) (hm : mayM d x = true) (h1 : x.f0 ≠ 1) : x.f0 = 3 ∧ headOk 1 0 ((x.f2.length : Int) + 1) ∧ 0 ≤ x.f1 ∧ x.f1 ≤ 16383 ∨ x.f0 ≠ 3 ∧ headOk 0 x.f1 x.f2.length := by
  cases d with
  | zero => simp [valR] at h
  | succ d =>
    simp only [valR, valShape, Bool.and_eq_true] at h
    simp only [mayM, Bool.and_eq_true] at hm
    have a1 := h.1
    have a2 := hm.1
    rw [if_neg h1] at a1
    simp only [Bool.not_eq_true', Bool.or_eq_false_iff, decide_eq_false_iff_not, Bool.and_eq_false_iff] at a2
    by_cases h2 : x.f0 = 2
    · rw [if_pos h2] at a1
      simp only [Bool.and_eq_true, decide_eq_true_eq] at a1
      exact .inr ⟨by omega, by omega, by omega, by omega, by omega, .inl rfl, by omega, by show _ ≤ (8 : Int); omega⟩
    · rw [if_neg h2] at a1
      by_cases h3 : x.f0 = 3
      · rw [if_pos h3] at a1
        simp only [Bool.and_eq_true, decide_eq_true_eq] at a1
        exact .inl ⟨h3, ⟨by omega, by omega, by omega, by omega, .inr rfl, by omega, by show _ ≤ (256 : Int); omega⟩, by omega, by omega⟩
      · rw [if_neg h3] at a1
        by_cases h4 : x.f0 = 4
        · exact absurd h4 a2.1
        · rw [if_neg h4] at a1
          cases a1
theorem hLay.calls : ∀ (d gl mg n cap : Nat) (a : Int) (m : List Int) (x : S34) (A : Option Addr) (c : Nat) (W : World), valR d x = true → mayM d x = true → 0 ≤ a → m.length = n → n ≤ 1000000 → n ≤ cap → a + wordsV d x ≤ n → Kd.F k34 W (fun k => k ≠ gl ∧ k ≠ mg) A x.f2.length x.f2 → Aw (inL [(gl, Blk.c 56 []), (mg, Blk.c 56 [])]) W W [lyT gl mg n cap a, lyM mg cap m] →
    Calls Try.prog 30 #[.pointer (some ⟨gl, 0, none⟩), .agg #[.int .i64 x.f0, .int .i64 x.f1, .slice A x.f2.length c]] W (LayPost gl mg n cap W (layV d x (m, a))) := by
  intro d
  induction d with
  | zero => intro gl mg n cap a m x A c W h; simp [valR] at h
  | succ d ih =>
    intro gl mg n cap a m x A c W hv hm h0 hmn hn hnc hs hF HA
    by_cases h1 : x.f0 = 1
    · exact hLay.int gl mg n cap a m x A c W d h1 HA
    · have hlen := valR_len hv
      have hih : ∀ (y : S34) (A : Option Addr) (c : Nat) (a : Int) (m' : List Int) (W1 : World), y ∈ x.f2 → y.f2.length ≤ c → m'.length = n → 0 ≤ a → a + wordsV d y ≤ n → Kd.F k34 W1 (fun k => k ≠ gl ∧ k ≠ mg) A y.f2.length y.f2 → Aw (inL [(gl, Blk.c 56 []), (mg, Blk.c 56 [])]) W1 W1 [lyT gl mg n cap a, lyM mg cap m'] → Calls Try.prog 30 #[.pointer (some ⟨gl, 0, none⟩), .agg #[.int .i64 y.f0, .int .i64 y.f1, .slice A y.f2.length c]] W1 (LayPost gl mg n cap W1 (layV d y (m', a))) :=
        fun y A c a m' W1 hy hc hm' h0' hs' hF' HA' => ih gl mg n cap a m' y A c W1 (valR_kid hv y hy) (mayM_kid hm y hy) h0' hm' hn hnc hs' hF' HA'
      rcases valR_block hv hm h1 with ⟨h3, hh, hf⟩ | ⟨h3, hh⟩
      · exact hLay.clo gl mg n cap a m x A c W d h3 h0 hh hf hlen hmn hn hnc hs hF hih HA
      · exact hLay.blk gl mg n cap a m x A c W d h1 h3 h0 hh hlen hmn hn hnc hs hF hih HA
set_option maxHeartbeats 8000000 in
set_option maxRecDepth 100000 in
theorem hLay.int0 {S : Nat → Prop} {w W : World} {L : List (Nat × Blk)} (gl : Nat) (x : S34) (A : Option Addr) (c : Nat) (h1 : x.f0 = 1) (HA : Aw S w W L) :
    Calls Try.prog 30 #[.pointer (some ⟨gl, 0, none⟩), .agg #[.int .i64 x.f0, .int .i64 x.f1, .slice A x.f2.length c]] W fun e W' => e = .returned (.int .u32 (boxV x.f1)) ∧ Aw S w W' L := by
  rw [h1]
  obtain ⟨f1, hf⟩ : ∃ y, x.f1 = y := ⟨_, rfl⟩
  obtain ⟨k, hk⟩ : ∃ y, x.f2.length = y := ⟨_, rfl⟩
  rw [hf, hk]
  clear h1 hf hk
  go_enter Try.func30, Try.ntmps30
  go_wp2_with (first | ((with_reducible refine gate_dst (N := 3) rfl ?_); refine aw_box rfl rfl rfl HA ?_; clear HA; intro gx W_ HA; simp only [Act.put, List.setIfInBounds_toArray, List.set_cons_succ, List.set_cons_zero]) | (go_at_call 45; refine (num_Box.calls f1 _ _ (boxV_eq f1)).mono ?_; rintro e W_ ⟨rfl, hd_⟩; replace HA := HA.drewN0 hd_; clear hd_) | ((with_reducible refine gate_ld rfl ?_); (refine aw_load 0 rfl rfl HA rfl rfl rfl ?_ ?_); kernel_rfl; simp only [Act.put, List.setIfInBounds_toArray, List.set_cons_succ, List.set_cons_zero]))
  go_ret
  exact ⟨rfl, HA.sub (List.sublist_cons_self _ _)⟩
theorem hLay.own {w W : World} {gt : Nat} {v9 : Value} {Lv R : List (Nat × Blk)} {a : Int} {m : List Int} {x : S34} {A : Option Addr} {c : Nat} (hv : valR 100 x = true) (hm : mayM 100 x = true) (h0 : 0 ≤ a) (hm9 : m.length ≤ 1000000) (hs : a + wordsV 100 x ≤ m.length)
    (hC : Kd.C k34 w A x.f2.length x.f2) (hown : Own 22 1 v9 m.length (m.map (Value.int .u32)) Lv) (HA : Aw noS w W ((gt, .c 56 [v9, .int .i64 a]) :: (R ++ Lv))) :
    Calls Try.prog 30 #[.pointer (some ⟨gt, 0, none⟩), .agg #[.int .i64 x.f0, .int .i64 x.f1, .slice A x.f2.length c]] W fun e W' => e = .returned (.int .u32 (layV 100 x (m, a)).1) ∧ ∃ Lv', Own 22 1 v9 (layV 100 x (m, a)).2.1.length ((layV 100 x (m, a)).2.1.map (Value.int .u32)) Lv' ∧ Aw noS w W' ((gt, .c 56 [v9, .int .i64 (layV 100 x (m, a)).2.2]) :: Lv') := by
  have hlo := (layV_ok 100 x (m, a)).1
  obtain ⟨h9, ⟨rfl, hn, rfl⟩ | ⟨g, cap, rfl, hc, rfl⟩⟩ := hown
  · have hm0 : m = [] := List.eq_nil_of_length_eq_zero hn
    subst hm0
    have h1 : x.f0 = 1 := by
      rcases valR_block hv hm with h
      by_cases h1 : x.f0 = 1
      · exact h1
      · have w1 := wordsV_sum 99 x.f2
        rw [List.length_nil] at hs
        rcases h h1 with ⟨h3, _⟩ | ⟨h3, _⟩
        · rw [wordsV_clo h3] at hs; omega
        · rw [wordsV_blk h1 h3] at hs; omega
    have e : layV 100 x ([], a) = (boxV x.f1, ([], a)) := by rw [layV, if_pos h1]
    rw [e]
    refine (hLay.int0 gt x A c h1 HA).mono ?_
    rintro e W' ⟨rfl, H⟩
    exact ⟨rfl, [], Own.nil _ _, H.sub (by simp)⟩
  · have hB := HA.sub (L' := [lyT gt g m.length cap a, lyM g cap m]) (List.Sublist.cons_cons _ (List.sublist_append_right R [_]))
    have hgt : w.heap.size ≤ gt := (hB.mine (i := 0) rfl).resolve_left (fun h => h)
    have hg : w.heap.size ≤ g := (hB.mine (i := 1) rfl).resolve_left (fun h => h)
    have hF : Kd.F k34 W (fun k => k ≠ gt ∧ k ≠ g) A x.f2.length x.f2 := Kd.F_mono (Kd.F_step (Kd.C_F hpk_heap hC) (fun k _ hlt => hB.1.block k hlt (fun h => h))) (fun k hk => ⟨by omega, by omega⟩)
    refine (hLay.calls 100 gt g m.length cap a m x A c W hv hm h0 rfl hm9 hc hs hF hB.givens).mono ?_
    rintro e W' ⟨rfl, H⟩
    have H2 := hp_join hB H
    exact ⟨rfl, _, ⟨by simp, .inr ⟨g, cap, by rw [hlo], by rw [hlo]; exact hc, rfl⟩⟩, H2⟩
def heap_Put.f (l0 : List Int) (a1 : Int) (a2_0 : Int) (a2_1 : Int) (l2_2 : List S34) : Option (List Int × Int × Int × Int) :=
  if l0.length ≤ 1000000 then (
    if a1 < 0 ∨ a1 > (l0.length : Int) then some ([], 0, 0, 2)
    else if valR 100 ⟨a2_0, a2_1, l2_2⟩ = false ∨ mayM 100 ⟨a2_0, a2_1, l2_2⟩ = false then some ([], 0, 0, 1)
    else if wordsV 100 ⟨a2_0, a2_1, l2_2⟩ ≤ 1000000000 then (
      if wordsV 100 ⟨a2_0, a2_1, l2_2⟩ > (l0.length : Int) - a1 then some ([], 0, 0, 6)
      else some ((layV 100 ⟨a2_0, a2_1, l2_2⟩ (l0, a1)).2.1, (layV 100 ⟨a2_0, a2_1, l2_2⟩ (l0, a1)).1, (layV 100 ⟨a2_0, a2_1, l2_2⟩ (l0, a1)).2.2, 0))
    else none)
  else none
set_option maxHeartbeats 8000000 in
set_option maxRecDepth 100000 in
theorem hPut.bad1 (A0 : Option Addr) (c0 : Nat) (l0 : List Int) (a1 : Int) (a2_0 : Int) (a2_1 : Int) (A2_2 : Option Addr) (c2_2 : Nat) (l2_2 : List S34) (w : World) (hr0 : Kd.C (Kd.int .u32) w A0 l0.length l0) (hc0 : l0.length ≤ c0) (hr2_2 : Kd.C k34 w A2_2 l2_2.length l2_2) (hc2_2 : l2_2.length ≤ c2_2) (hm : l0.length ≤ 1000000) (hb : a1 < 0) :
    Calls Try.prog 14 #[.slice A0 l0.length c0, .int .i64 a1, .agg #[.int .i64 a2_0, .int .i64 a2_1, .slice A2_2 l2_2.length c2_2]] w fun e w' => ∃ v0_ : Value, e = .returned (.tuple #[v0_, .int .u32 0, .int .i64 0, .int .i64 2]) ∧ Kd.R (Kd.int .u32) 22 w' w.heap.size (fun _ => True) v0_ [] ∧ Below w.heap.size w w' := by
  obtain ⟨P, HP⟩ : ∃ P : Ending → World → Prop, Aside0 (P = fun e w' => ∃ v0_ : Value, e = .returned (.tuple #[v0_, .int .u32 0, .int .i64 0, .int .i64 2]) ∧ Kd.R (Kd.int .u32) 22 w' w.heap.size (fun _ => True) v0_ [] ∧ Below w.heap.size w w') := ⟨_, ⟨rfl⟩⟩
  rw [← HP.out]
  have HA := Aw.start noS w
  have HR0 := Aside0.mk hr0
  have HC := Aside0.mk hr2_2
  have d1 : decide (a1 < 0) = true := decide_eq_true hb
  clear hr0 hr2_2 hc2_2
  go_enter Try.func14, Try.ntmps14
  go_wp2_with (first | ((with_reducible refine gate_dst (N := 5) rfl ?_); refine aw_box rfl rfl rfl HA ?_; clear HA; intro gx W_ HA; simp only [Act.put, List.setIfInBounds_toArray, List.set_cons_succ, List.set_cons_zero]) | ((with_reducible refine gate_ld rfl ?_); (first | refine aw_loadW 0 (t := 34) rfl rfl HA rfl rfl ?_ ?_ | refine aw_loadW 1 (t := 34) rfl rfl HA rfl rfl ?_ ?_ | refine aw_loadW 2 (t := 34) rfl rfl HA rfl rfl ?_ ?_); kernel_rfl; simp only [Act.put, List.setIfInBounds_toArray, List.set_cons_succ, List.set_cons_zero]))
  (try simp only [Exit.inBlock, Exit.then])
  refine bodyPost_ret (results_list (rs := [.tmp 6, .tmp 7, .tmp 8, .tmp 9]) rfl (by simp) (.tmp (.tmp (.tmp (.tmp .nil))))) rfl ?_
  rw [HP.out]
  exact ⟨_, rfl, Kd.R_nil _ _ _ _ _, HA.below⟩
set_option maxHeartbeats 8000000 in
set_option maxRecDepth 100000 in
theorem hPut.bad2 (A0 : Option Addr) (c0 : Nat) (l0 : List Int) (a1 : Int) (a2_0 : Int) (a2_1 : Int) (A2_2 : Option Addr) (c2_2 : Nat) (l2_2 : List S34) (w : World) (hr0 : Kd.C (Kd.int .u32) w A0 l0.length l0) (hc0 : l0.length ≤ c0) (hr2_2 : Kd.C k34 w A2_2 l2_2.length l2_2) (hc2_2 : l2_2.length ≤ c2_2) (hm : l0.length ≤ 1000000) (h0 : 0 ≤ a1) (hb : a1 > (l0.length : Int)) :
    Calls Try.prog 14 #[.slice A0 l0.length c0, .int .i64 a1, .agg #[.int .i64 a2_0, .int .i64 a2_1, .slice A2_2 l2_2.length c2_2]] w fun e w' => ∃ v0_ : Value, e = .returned (.tuple #[v0_, .int .u32 0, .int .i64 0, .int .i64 2]) ∧ Kd.R (Kd.int .u32) 22 w' w.heap.size (fun _ => True) v0_ [] ∧ Below w.heap.size w w' := by
  obtain ⟨P, HP⟩ : ∃ P : Ending → World → Prop, Aside0 (P = fun e w' => ∃ v0_ : Value, e = .returned (.tuple #[v0_, .int .u32 0, .int .i64 0, .int .i64 2]) ∧ Kd.R (Kd.int .u32) 22 w' w.heap.size (fun _ => True) v0_ [] ∧ Below w.heap.size w w') := ⟨_, ⟨rfl⟩⟩
  rw [← HP.out]
  have HA := Aw.start noS w
  have HR0 := Aside0.mk hr0
  have HC := Aside0.mk hr2_2
  have d1 : decide (a1 < 0) = false := decide_eq_false (by omega)
  have d2 : decide (a1 > (l0.length : Int)) = true := decide_eq_true hb
  have d3 : decide ((l0.length : Int) < a1) = true := decide_eq_true hb
  clear hr0 hr2_2 hc2_2
  go_enter Try.func14, Try.ntmps14
  go_wp2_with (first | ((with_reducible refine gate_dst (N := 5) rfl ?_); refine aw_box rfl rfl rfl HA ?_; clear HA; intro gx W_ HA; simp only [Act.put, List.setIfInBounds_toArray, List.set_cons_succ, List.set_cons_zero]) | ((with_reducible refine gate_ld rfl ?_); (first | refine aw_loadW 0 (t := 34) rfl rfl HA rfl rfl ?_ ?_ | refine aw_loadW 1 (t := 34) rfl rfl HA rfl rfl ?_ ?_ | refine aw_loadW 2 (t := 34) rfl rfl HA rfl rfl ?_ ?_); kernel_rfl; simp only [Act.put, List.setIfInBounds_toArray, List.set_cons_succ, List.set_cons_zero]))
  (try simp only [Exit.inBlock, Exit.then])
  refine bodyPost_ret (results_list (rs := [.tmp 6, .tmp 7, .tmp 8, .tmp 9]) rfl (by simp) (.tmp (.tmp (.tmp (.tmp .nil))))) rfl ?_
  rw [HP.out]
  exact ⟨_, rfl, Kd.R_nil _ _ _ _ _, HA.below⟩
set_option maxHeartbeats 8000000 in
set_option maxRecDepth 100000 in
theorem hPut.noval (A0 : Option Addr) (c0 : Nat) (l0 : List Int) (a1 : Int) (a2_0 : Int) (a2_1 : Int) (A2_2 : Option Addr) (c2_2 : Nat) (l2_2 : List S34) (w : World) (hr0 : Kd.C (Kd.int .u32) w A0 l0.length l0) (hc0 : l0.length ≤ c0) (hr2_2 : Kd.C k34 w A2_2 l2_2.length l2_2) (hc2_2 : l2_2.length ≤ c2_2) (hm : l0.length ≤ 1000000) (h0 : 0 ≤ a1) (h1 : a1 ≤ (l0.length : Int)) (hv : valR 100 (⟨a2_0, a2_1, l2_2⟩ : S34) = false) :
    Calls Try.prog 14 #[.slice A0 l0.length c0, .int .i64 a1, .agg #[.int .i64 a2_0, .int .i64 a2_1, .slice A2_2 l2_2.length c2_2]] w fun e w' => ∃ v0_ : Value, e = .returned (.tuple #[v0_, .int .u32 0, .int .i64 0, .int .i64 1]) ∧ Kd.R (Kd.int .u32) 22 w' w.heap.size (fun _ => True) v0_ [] ∧ Below w.heap.size w w' := by
  obtain ⟨P, HP⟩ : ∃ P : Ending → World → Prop, Aside0 (P = fun e w' => ∃ v0_ : Value, e = .returned (.tuple #[v0_, .int .u32 0, .int .i64 0, .int .i64 1]) ∧ Kd.R (Kd.int .u32) 22 w' w.heap.size (fun _ => True) v0_ [] ∧ Below w.heap.size w w') := ⟨_, ⟨rfl⟩⟩
  rw [← HP.out]
  have HA := Aw.start noS w
  have HR0 := Aside0.mk hr0
  have HC := Aside0.mk hr2_2
  have d1 : decide (a1 < 0) = false := decide_eq_false (by omega)
  have d2 : decide (a1 > (l0.length : Int)) = false := decide_eq_false (by omega)
  have d3 : decide ((l0.length : Int) < a1) = false := decide_eq_false (by omega)
  have HR := Aside0.mk (fun (W : World) (h : Kd.C k34 W A2_2 l2_2.length l2_2) => valRight.calls (x := (⟨a2_0, a2_1, l2_2⟩ : S34)) h hc2_2)
  dsimp only at HR
  rw [hv] at HR
  clear hv
  clear hr0 hr2_2 hc2_2
  go_enter Try.func14, Try.ntmps14
  go_wp2_with (first | ((with_reducible refine gate_dst (N := 5) rfl ?_); refine aw_box rfl rfl rfl HA ?_; clear HA; intro gx W_ HA; simp only [Act.put, List.setIfInBounds_toArray, List.set_cons_succ, List.set_cons_zero]) | (go_at_call 26; refine (HR.out _ (HA.1.reads HC.out)).mono ?_; rintro e W_ ⟨rfl, hb_⟩; replace HA := HA.call hb_; clear hb_) | ((with_reducible refine gate_ld rfl ?_); (first | refine aw_loadW 0 (t := 34) rfl rfl HA rfl rfl ?_ ?_ | refine aw_loadW 1 (t := 34) rfl rfl HA rfl rfl ?_ ?_ | refine aw_loadW 2 (t := 34) rfl rfl HA rfl rfl ?_ ?_); kernel_rfl; simp only [Act.put, List.setIfInBounds_toArray, List.set_cons_succ, List.set_cons_zero]))
  (try simp only [Exit.inBlock, Exit.then])
  refine bodyPost_ret (results_list (rs := [.tmp 6, .tmp 7, .tmp 8, .tmp 9]) rfl (by simp) (.tmp (.tmp (.tmp (.tmp .nil))))) rfl ?_
  rw [HP.out]
  exact ⟨_, rfl, Kd.R_nil _ _ _ _ _, HA.below⟩
set_option maxHeartbeats 8000000 in
set_option maxRecDepth 100000 in
theorem hPut.nomay (A0 : Option Addr) (c0 : Nat) (l0 : List Int) (a1 : Int) (a2_0 : Int) (a2_1 : Int) (A2_2 : Option Addr) (c2_2 : Nat) (l2_2 : List S34) (w : World) (hr0 : Kd.C (Kd.int .u32) w A0 l0.length l0) (hc0 : l0.length ≤ c0) (hr2_2 : Kd.C k34 w A2_2 l2_2.length l2_2) (hc2_2 : l2_2.length ≤ c2_2) (hm : l0.length ≤ 1000000) (h0 : 0 ≤ a1) (h1 : a1 ≤ (l0.length : Int)) (hv : valR 100 (⟨a2_0, a2_1, l2_2⟩ : S34) = true) (hy : mayM 100 (⟨a2_0, a2_1, l2_2⟩ : S34) = false) :
    Calls Try.prog 14 #[.slice A0 l0.length c0, .int .i64 a1, .agg #[.int .i64 a2_0, .int .i64 a2_1, .slice A2_2 l2_2.length c2_2]] w fun e w' => ∃ v0_ : Value, e = .returned (.tuple #[v0_, .int .u32 0, .int .i64 0, .int .i64 1]) ∧ Kd.R (Kd.int .u32) 22 w' w.heap.size (fun _ => True) v0_ [] ∧ Below w.heap.size w w' := by
  obtain ⟨P, HP⟩ : ∃ P : Ending → World → Prop, Aside0 (P = fun e w' => ∃ v0_ : Value, e = .returned (.tuple #[v0_, .int .u32 0, .int .i64 0, .int .i64 1]) ∧ Kd.R (Kd.int .u32) 22 w' w.heap.size (fun _ => True) v0_ [] ∧ Below w.heap.size w w') := ⟨_, ⟨rfl⟩⟩
  rw [← HP.out]
  have HA := Aw.start noS w
  have HR0 := Aside0.mk hr0
  have HC := Aside0.mk hr2_2
  have d1 : decide (a1 < 0) = false := decide_eq_false (by omega)
  have d2 : decide (a1 > (l0.length : Int)) = false := decide_eq_false (by omega)
  have d3 : decide ((l0.length : Int) < a1) = false := decide_eq_false (by omega)
  have HR := Aside0.mk (fun (W : World) (h : Kd.C k34 W A2_2 l2_2.length l2_2) => valRight.calls (x := (⟨a2_0, a2_1, l2_2⟩ : S34)) h hc2_2)
  dsimp only at HR
  rw [hv] at HR
  have HM := Aside0.mk (fun (W : World) (h : Kd.C k34 W A2_2 l2_2.length l2_2) => mayM.calls 100 (⟨a2_0, a2_1, l2_2⟩ : S34) A2_2 c2_2 W h hc2_2 hv)
  dsimp only at HM
  rw [hy] at HM
  clear hv hy
  clear hr0 hr2_2 hc2_2
  go_enter Try.func14, Try.ntmps14
  go_wp2_with (first | ((with_reducible refine gate_dst (N := 5) rfl ?_); refine aw_box rfl rfl rfl HA ?_; clear HA; intro gx W_ HA; simp only [Act.put, List.setIfInBounds_toArray, List.set_cons_succ, List.set_cons_zero]) | (go_at_call 26; refine (HR.out _ (HA.1.reads HC.out)).mono ?_; rintro e W_ ⟨rfl, hb_⟩; replace HA := HA.call hb_; clear hb_) | (go_at_call 27; refine (HM.out _ (HA.1.reads HC.out)).mono ?_; rintro e W_ ⟨rfl, hb_⟩; replace HA := HA.call hb_; clear hb_) | ((with_reducible refine gate_ld rfl ?_); (first | refine aw_loadW 0 (t := 34) rfl rfl HA rfl rfl ?_ ?_ | refine aw_loadW 1 (t := 34) rfl rfl HA rfl rfl ?_ ?_ | refine aw_loadW 2 (t := 34) rfl rfl HA rfl rfl ?_ ?_); kernel_rfl; simp only [Act.put, List.setIfInBounds_toArray, List.set_cons_succ, List.set_cons_zero]))
  (try simp only [Exit.inBlock, Exit.then])
  refine bodyPost_ret (results_list (rs := [.tmp 6, .tmp 7, .tmp 8, .tmp 9]) rfl (by simp) (.tmp (.tmp (.tmp (.tmp .nil))))) rfl ?_
  rw [HP.out]
  exact ⟨_, rfl, Kd.R_nil _ _ _ _ _, HA.below⟩
set_option maxHeartbeats 8000000 in
set_option maxRecDepth 100000 in
theorem hPut.full (A0 : Option Addr) (c0 : Nat) (l0 : List Int) (a1 : Int) (a2_0 : Int) (a2_1 : Int) (A2_2 : Option Addr) (c2_2 : Nat) (l2_2 : List S34) (w : World) (hr0 : Kd.C (Kd.int .u32) w A0 l0.length l0) (hc0 : l0.length ≤ c0) (hr2_2 : Kd.C k34 w A2_2 l2_2.length l2_2) (hc2_2 : l2_2.length ≤ c2_2) (hm : l0.length ≤ 1000000) (h0 : 0 ≤ a1) (h1 : a1 ≤ (l0.length : Int)) (hv : valR 100 (⟨a2_0, a2_1, l2_2⟩ : S34) = true) (hy : mayM 100 (⟨a2_0, a2_1, l2_2⟩ : S34) = true) (hwb : wordsV 100 (⟨a2_0, a2_1, l2_2⟩ : S34) ≤ 1000000000) (hgt : wordsV 100 (⟨a2_0, a2_1, l2_2⟩ : S34) > (l0.length : Int) - a1) :
    Calls Try.prog 14 #[.slice A0 l0.length c0, .int .i64 a1, .agg #[.int .i64 a2_0, .int .i64 a2_1, .slice A2_2 l2_2.length c2_2]] w fun e w' => ∃ v0_ : Value, e = .returned (.tuple #[v0_, .int .u32 0, .int .i64 0, .int .i64 6]) ∧ Kd.R (Kd.int .u32) 22 w' w.heap.size (fun _ => True) v0_ [] ∧ Below w.heap.size w w' := by
  obtain ⟨P, HP⟩ : ∃ P : Ending → World → Prop, Aside0 (P = fun e w' => ∃ v0_ : Value, e = .returned (.tuple #[v0_, .int .u32 0, .int .i64 0, .int .i64 6]) ∧ Kd.R (Kd.int .u32) 22 w' w.heap.size (fun _ => True) v0_ [] ∧ Below w.heap.size w w') := ⟨_, ⟨rfl⟩⟩
  rw [← HP.out]
  have HA := Aw.start noS w
  have HR0 := Aside0.mk hr0
  have HC := Aside0.mk hr2_2
  have d1 : decide (a1 < 0) = false := decide_eq_false (by omega)
  have d2 : decide (a1 > (l0.length : Int)) = false := decide_eq_false (by omega)
  have d3 : decide ((l0.length : Int) < a1) = false := decide_eq_false (by omega)
  have HR := Aside0.mk (fun (W : World) (h : Kd.C k34 W A2_2 l2_2.length l2_2) => valRight.calls (x := (⟨a2_0, a2_1, l2_2⟩ : S34)) h hc2_2)
  dsimp only at HR
  rw [hv] at HR
  have HM := Aside0.mk (fun (W : World) (h : Kd.C k34 W A2_2 l2_2.length l2_2) => mayM.calls 100 (⟨a2_0, a2_1, l2_2⟩ : S34) A2_2 c2_2 W h hc2_2 hv)
  dsimp only at HM
  rw [hy] at HM
  obtain ⟨K, hK⟩ := Ev.rounds (words_ev 100 (⟨a2_0, a2_1, l2_2⟩ : S34) hv hwb)
  dsimp only at hK
  obtain ⟨wd, hwd⟩ : ∃ y, wordsV 100 (⟨a2_0, a2_1, l2_2⟩ : S34) = y := ⟨_, rfl⟩
  rw [hwd] at hK hgt hwb
  have w1 : IntKind.i64.wrap ((l0.length : Int) - a1) = (l0.length : Int) - a1 := IntWalk.i64_in _ (by omega)
  have HW := Aside0.mk (fun (W : World) (h : Kd.C k34 W A2_2 l2_2.length l2_2) => heap_words.calls K a2_0 a2_1 A2_2 c2_2 l2_2 wd W h hc2_2 hK)
  have d5 : decide (wd > (l0.length : Int) - a1) = true := decide_eq_true hgt
  have d6 : decide ((l0.length : Int) - a1 < wd) = true := decide_eq_true hgt
  clear hv hy hwd hK
  clear hr0 hr2_2 hc2_2
  go_enter Try.func14, Try.ntmps14
  go_wp2_with (first | ((with_reducible refine gate_dst (N := 5) rfl ?_); refine aw_box rfl rfl rfl HA ?_; clear HA; intro gx W_ HA; simp only [Act.put, List.setIfInBounds_toArray, List.set_cons_succ, List.set_cons_zero]) | (go_at_call 26; refine (HR.out _ (HA.1.reads HC.out)).mono ?_; rintro e W_ ⟨rfl, hb_⟩; replace HA := HA.call hb_; clear hb_) | (go_at_call 27; refine (HM.out _ (HA.1.reads HC.out)).mono ?_; rintro e W_ ⟨rfl, hb_⟩; replace HA := HA.call hb_; clear hb_) | (go_at_call 28; refine (HW.out _ (HA.1.reads HC.out)).mono ?_; rintro e W_ ⟨rfl, hb_⟩; replace HA := HA.call hb_; clear hb_) | ((with_reducible refine gate_ld rfl ?_); (first | refine aw_loadW 0 (t := 34) rfl rfl HA rfl rfl ?_ ?_ | refine aw_loadW 1 (t := 34) rfl rfl HA rfl rfl ?_ ?_ | refine aw_loadW 2 (t := 34) rfl rfl HA rfl rfl ?_ ?_); kernel_rfl; simp only [Act.put, List.setIfInBounds_toArray, List.set_cons_succ, List.set_cons_zero]))
  (try simp only [Exit.inBlock, Exit.then])
  refine bodyPost_ret (results_list (rs := [.tmp 6, .tmp 7, .tmp 8, .tmp 9]) rfl (by simp) (.tmp (.tmp (.tmp (.tmp .nil))))) rfl ?_
  rw [HP.out]
  exact ⟨_, rfl, Kd.R_nil _ _ _ _ _, HA.below⟩
set_option maxHeartbeats 8000000 in
set_option maxRecDepth 100000 in
theorem hPut.good (A0 : Option Addr) (c0 : Nat) (l0 : List Int) (a1 : Int) (a2_0 : Int) (a2_1 : Int) (A2_2 : Option Addr) (c2_2 : Nat) (l2_2 : List S34) (w : World) (hr0 : Kd.C (Kd.int .u32) w A0 l0.length l0) (hc0 : l0.length ≤ c0) (hr2_2 : Kd.C k34 w A2_2 l2_2.length l2_2) (hc2_2 : l2_2.length ≤ c2_2) (hm : l0.length ≤ 1000000) (h0 : 0 ≤ a1) (h1 : a1 ≤ (l0.length : Int)) (hv : valR 100 (⟨a2_0, a2_1, l2_2⟩ : S34) = true) (hy : mayM 100 (⟨a2_0, a2_1, l2_2⟩ : S34) = true) (hwb : wordsV 100 (⟨a2_0, a2_1, l2_2⟩ : S34) ≤ 1000000000) (hgt : ¬ wordsV 100 (⟨a2_0, a2_1, l2_2⟩ : S34) > (l0.length : Int) - a1) :
    Calls Try.prog 14 #[.slice A0 l0.length c0, .int .i64 a1, .agg #[.int .i64 a2_0, .int .i64 a2_1, .slice A2_2 l2_2.length c2_2]] w fun e w' => ∃ v0_ : Value, e = .returned (.tuple #[v0_, .int .u32 (layV 100 (⟨a2_0, a2_1, l2_2⟩ : S34) (l0, a1)).1, .int .i64 (layV 100 (⟨a2_0, a2_1, l2_2⟩ : S34) (l0, a1)).2.2, .int .i64 0]) ∧ Kd.R (Kd.int .u32) 22 w' w.heap.size (fun _ => True) v0_ (layV 100 (⟨a2_0, a2_1, l2_2⟩ : S34) (l0, a1)).2.1 ∧ Below w.heap.size w w' := by
  obtain ⟨P, HP⟩ : ∃ P : Ending → World → Prop, Aside0 (P = fun e w' => ∃ v0_ : Value, e = .returned (.tuple #[v0_, .int .u32 (layV 100 (⟨a2_0, a2_1, l2_2⟩ : S34) (l0, a1)).1, .int .i64 (layV 100 (⟨a2_0, a2_1, l2_2⟩ : S34) (l0, a1)).2.2, .int .i64 0]) ∧ Kd.R (Kd.int .u32) 22 w' w.heap.size (fun _ => True) v0_ (layV 100 (⟨a2_0, a2_1, l2_2⟩ : S34) (l0, a1)).2.1 ∧ Below w.heap.size w w') := ⟨_, ⟨rfl⟩⟩
  rw [← HP.out]
  have HA := Aw.start noS w
  have HR0 := Aside0.mk hr0
  have HC := Aside0.mk hr2_2
  have d1 : decide (a1 < 0) = false := decide_eq_false (by omega)
  have d2 : decide (a1 > (l0.length : Int)) = false := decide_eq_false (by omega)
  have d3 : decide ((l0.length : Int) < a1) = false := decide_eq_false (by omega)
  have HR := Aside0.mk (fun (W : World) (h : Kd.C k34 W A2_2 l2_2.length l2_2) => valRight.calls (x := (⟨a2_0, a2_1, l2_2⟩ : S34)) h hc2_2)
  dsimp only at HR
  rw [hv] at HR
  have HM := Aside0.mk (fun (W : World) (h : Kd.C k34 W A2_2 l2_2.length l2_2) => mayM.calls 100 (⟨a2_0, a2_1, l2_2⟩ : S34) A2_2 c2_2 W h hc2_2 hv)
  dsimp only at HM
  rw [hy] at HM
  obtain ⟨K, hK⟩ := Ev.rounds (words_ev 100 (⟨a2_0, a2_1, l2_2⟩ : S34) hv hwb)
  dsimp only at hK
  obtain ⟨wd, hwd⟩ : ∃ y, wordsV 100 (⟨a2_0, a2_1, l2_2⟩ : S34) = y := ⟨_, rfl⟩
  rw [hwd] at hK hgt hwb
  have w1 : IntKind.i64.wrap ((l0.length : Int) - a1) = (l0.length : Int) - a1 := IntWalk.i64_in _ (by omega)
  have HW := Aside0.mk (fun (W : World) (h : Kd.C k34 W A2_2 l2_2.length l2_2) => heap_words.calls K a2_0 a2_1 A2_2 c2_2 l2_2 wd W h hc2_2 hK)
  have hs : a1 + wordsV 100 (⟨a2_0, a2_1, l2_2⟩ : S34) ≤ l0.length := by rw [hwd]; omega
  have HL := Aside0.mk (fun (w1 W : World) (gt : Nat) (v9 : Value) (Lv R : List (Nat × Blk)) hC hown HA => hLay.own (w := w1) (W := W) (gt := gt) (v9 := v9) (Lv := Lv) (R := R) (a := a1) (m := l0) (x := (⟨a2_0, a2_1, l2_2⟩ : S34)) (A := A2_2) (c := c2_2) hv hy h0 hm hs hC hown HA)
  dsimp only at HL
  obtain ⟨q, hq⟩ : ∃ y, layV 100 (⟨a2_0, a2_1, l2_2⟩ : S34) (l0, a1) = y := ⟨_, rfl⟩
  rw [hq] at HL
  have d5 : decide (wd > (l0.length : Int) - a1) = false := decide_eq_false hgt
  have d6 : decide ((l0.length : Int) - a1 < wd) = false := decide_eq_false hgt
  have HM9 := Aside0.mk hm
  have HQ := Aside0.mk hq
  clear hv hy hwd hK hs hgt hq
  clear hr0 hr2_2 hc2_2
  go_enter Try.func14, Try.ntmps14
  go_wp2_with (first | ((with_reducible refine gate_dst (N := 5) rfl ?_); refine aw_box rfl rfl rfl HA ?_; clear HA; intro gx W_ HA; simp only [Act.put, List.setIfInBounds_toArray, List.set_cons_succ, List.set_cons_zero]) | (go_at_call 26; refine (HR.out _ (HA.1.reads HC.out)).mono ?_; rintro e W_ ⟨rfl, hb_⟩; replace HA := HA.call hb_; clear hb_) | (go_at_call 27; refine (HM.out _ (HA.1.reads HC.out)).mono ?_; rintro e W_ ⟨rfl, hb_⟩; replace HA := HA.call hb_; clear hb_) | (go_at_call 28; refine (HW.out _ (HA.1.reads HC.out)).mono ?_; rintro e W_ ⟨rfl, hb_⟩; replace HA := HA.call hb_; clear hb_) | (go_at_call 29; refine (hClone.calls A0 c0 l0 _ (HA.1.reads HR0.out) hm).mono ?_; rintro e W_ ⟨v9, Lv, rfl, hown, HB_⟩; obtain ⟨A9, c9, rfl⟩ := own_form hown; have HO := Aside0.mk hown; replace HA := (HA.fresh HB_).perm List.perm_append_comm; clear HB_ hown) | ((with_reducible refine gate_dst (N := 42) rfl ?_); refine aw_box rfl rfl rfl HA ?_; clear HA; intro gt W_ HA; simp only [Act.put, List.setIfInBounds_toArray, List.set_cons_succ, List.set_cons_zero]) | (go_at_call 30; refine (HL.out _ _ gt (.slice A9 l0.length c9) Lv [(gx, .c 34 [.int .i64 a2_0, .int .i64 a2_1, .slice A2_2 l2_2.length c2_2])] HC.out HO.out HA).mono ?_; clear HA; rintro e W_ ⟨rfl, Lv', hown', HA⟩; have HO' := Aside0.mk hown'; clear hown') | ((with_reducible refine gate_ld rfl ?_); (first | refine aw_loadW 0 (t := 34) rfl rfl HA rfl rfl ?_ ?_ | refine aw_loadW 1 (t := 34) rfl rfl HA rfl rfl ?_ ?_ | refine aw_loadW 2 (t := 34) rfl rfl HA rfl rfl ?_ ?_); kernel_rfl; simp only [Act.put, List.setIfInBounds_toArray, List.set_cons_succ, List.set_cons_zero]))
  have g0 := HA.drew.cell (i := 0) (j := 0) rfl rfl
  have g1 := HA.drew.cell (i := 0) (j := 1) rfl rfl
  go_region
  replace HA := HA.drew
  clear g0 g1
  generalize World.drew _ = W9 at HA ⊢
  (try go_wp2)
  (try simp only [Exit.inBlock, Exit.then])
  refine bodyPost_ret (results_list (rs := [.tmp 6, .tmp 7, .tmp 8, .tmp 9]) rfl (by simp) (.tmp (.tmp (.tmp (.tmp .nil))))) rfl ?_
  rw [HP.out, HQ.out]
  exact ⟨_, rfl, HO'.out.kdR HA (fun y hy => List.mem_cons_of_mem _ hy) (fun _ _ => trivial), HA.below⟩
theorem heap_Put.calls (A0 : Option Addr) (c0 : Nat) (l0 : List Int) (a1 : Int) (a2_0 : Int) (a2_1 : Int) (A2_2 : Option Addr) (c2_2 : Nat) (l2_2 : List S34) (r1 : List Int) (r2 : Int) (r3 : Int) (r4 : Int) (w : World) (hr0 : Kd.C (Kd.int .u32) w A0 l0.length l0) (hc0 : l0.length ≤ c0) (hr2_2 : Kd.C k34 w A2_2 l2_2.length l2_2) (hc2_2 : l2_2.length ≤ c2_2) (h : heap_Put.f l0 a1 a2_0 a2_1 l2_2 = some (r1, r2, r3, r4)) :
    Calls Try.prog 14 #[.slice A0 l0.length c0, .int .i64 a1, .agg #[.int .i64 a2_0, .int .i64 a2_1, .slice A2_2 l2_2.length c2_2]] w fun e w' => ∃ v0_ : Value, e = .returned (.tuple #[v0_, .int .u32 r2, .int .i64 r3, .int .i64 r4]) ∧ Kd.R (Kd.int .u32) 22 w' w.heap.size (fun _ => True) v0_ r1 ∧ Below w.heap.size w w' := by
  unfold heap_Put.f at h
  split at h
  · rename_i hm
    split at h
    · rename_i hb
      simp only [Option.some.injEq, Prod.mk.injEq] at h
      obtain ⟨rfl, rfl, rfl, rfl⟩ := h
      by_cases h0 : a1 < 0
      · exact hPut.bad1 A0 c0 l0 a1 a2_0 a2_1 A2_2 c2_2 l2_2 w hr0 hc0 hr2_2 hc2_2 hm h0
      · exact hPut.bad2 A0 c0 l0 a1 a2_0 a2_1 A2_2 c2_2 l2_2 w hr0 hc0 hr2_2 hc2_2 hm (by omega) (by omega)
    · split at h
      · rename_i hb hv
        simp only [Option.some.injEq, Prod.mk.injEq] at h
        obtain ⟨rfl, rfl, rfl, rfl⟩ := h
        rcases hq : valR 100 (⟨a2_0, a2_1, l2_2⟩ : S34) with _ | _
        · exact hPut.noval A0 c0 l0 a1 a2_0 a2_1 A2_2 c2_2 l2_2 w hr0 hc0 hr2_2 hc2_2 hm (by omega) (by omega) hq
        · exact hPut.nomay A0 c0 l0 a1 a2_0 a2_1 A2_2 c2_2 l2_2 w hr0 hc0 hr2_2 hc2_2 hm (by omega) (by omega) hq (hv.resolve_left (by rw [hq]; simp))
      · rename_i hb hv
        have hv1 : valR 100 (⟨a2_0, a2_1, l2_2⟩ : S34) = true := by rcases hq : valR 100 (⟨a2_0, a2_1, l2_2⟩ : S34) with _ | _; exact absurd (.inl hq) hv; rfl
        have hv2 : mayM 100 (⟨a2_0, a2_1, l2_2⟩ : S34) = true := by rcases hq : mayM 100 (⟨a2_0, a2_1, l2_2⟩ : S34) with _ | _; exact absurd (.inr hq) hv; rfl
        split at h
        · rename_i hwb
          split at h
          · rename_i hg
            simp only [Option.some.injEq, Prod.mk.injEq] at h
            obtain ⟨rfl, rfl, rfl, rfl⟩ := h
            exact hPut.full A0 c0 l0 a1 a2_0 a2_1 A2_2 c2_2 l2_2 w hr0 hc0 hr2_2 hc2_2 hm (by omega) (by omega) hv1 hv2 hwb hg
          · rename_i hg
            simp only [Option.some.injEq, Prod.mk.injEq] at h
            obtain ⟨rfl, rfl, rfl, rfl⟩ := h
            exact hPut.good A0 c0 l0 a1 a2_0 a2_1 A2_2 c2_2 l2_2 w hr0 hc0 hr2_2 hc2_2 hm (by omega) (by omega) hv1 hv2 hwb hg
        · cases h
  · cases h
end Go.Proofs.Ytaddjeegplfjiaa.Q
