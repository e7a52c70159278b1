/- heap.Take. By wip/gen/heap_take.py. -/
import Derived.Test.YtaddjeegplfjiaaQx0
import Derived.Test.YtaddjeegplfjiaaAw
import Derived.Test.YtaddjeegplfjiaaAwFrame
import Derived.Test.YtaddjeegplfjiaaAwMap
import Derived.Test.YtaddjeegplfjiaaAwReg
import Derived.Test.YtaddjeegplfjiaaAwRs
import Derived.Test.YtaddjeegplfjiaaAwTree
import Derived.Test.YtaddjeegplfjiaaHeapPlain
import Derived.Test.YtaddjeegplfjiaaHheapTk
import Derived.Test.YtaddjeegplfjiaaTakeM
--@needs XAwTree
--@needs XTakeM
--@needs XHeapPlain
--@needs XAwRs
--@needs XAwReg
--@needs XHheapTk
import Derived.LoopTactic
import Derived.Deep.LoopGhost
import Derived.Lib.Hide
import Derived.IntWalk
import Derived.Outline
namespace Go.Proofs.Ytaddjeegplfjiaa.Q
open Go.RowKit Go.Proofs.YtaddjeegplfjiaaW.PrintWords Go.Proofs.YtaddjeegplfjiaaW.PrintLast Go.Proofs.YtaddjeegplfjiaaW.PrintMore
attribute [local go_sem] max2_int min2_int max_two min_two max_three min_three max_four min_four   -- for this text's walks alone
set_option linter.unusedVariables false
set_option linter.unusedSimpArgs false

open Go.Maps
attribute [local go_sem] max_two
def hMx (a : Int) : Int := if a < 0 then 0 else a
theorem hMx_nat (a : Int) : (hMx a).toNat = a.toNat := by unfold hMx; split <;> omega
def heap_Take.f (l0 : List Int) (a1 : Int) (a2 : Int) : Option (Int × Int × (List S34) × Int) :=
  if (l0.length ≤ 1000000 ∧ ∀ x ∈ l0, 0 ≤ x ∧ x < 4294967296) ∧ (0 ≤ a1 ∧ a1 < 4294967296) ∧ a2 ≤ 10000 then some ((takeV l0 (hMx a2).toNat (hMx a2, []) a1).1.1.f0, (takeV l0 (hMx a2).toNat (hMx a2, []) a1).1.1.f1, (takeV l0 (hMx a2).toNat (hMx a2, []) a1).1.1.f2, (takeV l0 (hMx a2).toNat (hMx a2, []) a1).1.2) else none
theorem cellsF_nil : cellsF [] = fun _ => none := by
  funext k
  unfold cellsF
  split
  · split <;> rfl
  · rfl
theorem takeV_zV (m : List Int) : ∀ (n : Nat) (s : Int × List Int) (x : Int), (takeV m n s x).1.2 ≠ 0 → (takeV m n s x).1.1 = zV := by
  intro n s x h
  cases n with
  | zero => rfl
  | succ n =>
    unfold takeV at h ⊢
    repeat' split
    all_goals first | rfl | (exfalso; apply h; simp_all)
theorem hk_top_call {w W : World} {A0 : Option Addr} {m : List Int} {c0 gt gm g6 : Nat} {a2 x : Int} {b : Blk} (hm : m.length ≤ 1000000 ∧ ∀ x ∈ m, 0 ≤ x ∧ x < 4294967296) (hc0 : m.length ≤ c0) (hr : Kd.C (Kd.int .u32) w A0 m.length m) (hx0 : 0 ≤ x) (hx1 : x < 4294967296) (ha0 : 0 ≤ a2) (ha : a2 ≤ 10000) (HA : Aw noS w W [(gt, .c 63 [.slice A0 m.length c0, .int .i64 a2, .map (some gm)]), hkM gm 0 (fun _ => none), (g6, b)]) :
    Calls Try.prog 35 #[.pointer (some ⟨gt, 0, none⟩), .int .u32 x] W fun e W' => ∃ (A : Option Addr) (c : Nat) (L' : List (Nat × Blk)), e = .returned (.tuple #[.agg #[.int .i64 (takeV m a2.toNat (a2, []) x).1.1.f0, .int .i64 (takeV m a2.toNat (a2, []) x).1.1.f1, .slice A (takeV m a2.toNat (a2, []) x).1.1.f2.length c], .int .i64 (takeV m a2.toNat (a2, []) x).1.2]) ∧ Aw noS w W' ((g6, b) :: L') ∧
      k34.M W' w.heap.size (offL ((g6, b) :: L')) (takeV m a2.toNat (a2, []) x).1.1 [.int .i64 (takeV m a2.toNat (a2, []) x).1.1.f0, .int .i64 (takeV m a2.toNat (a2, []) x).1.1.f1, .slice A (takeV m a2.toNat (a2, []) x).1.1.f2.length c] := by
  have HA2 : Aw noS w W ([hkT gt gm A0 m.length c0 a2, hkM gm 0 (fun _ => none)] ++ [(g6, b)]) := HA
  have HA3 : Aw (inL [(gt, Blk.c 63 []), (gm, Blk.c 63 [])]) W W [hkT gt gm A0 m.length c0 a2, hkM gm ([] : List Int).length (cellsF [])] := by rw [cellsF_nil]; exact HA2.left.givens
  refine (H_take.calls m hm A0 c0 hc0 a2.toNat a2 [] x W gt gm (by omega) ha0 (by simp; omega) hx0 hx1 (fun W' hk => Kp.reads (HA.1.trans hk (fun k hk2 => HA.newL k (by
    obtain ⟨y, hy, he⟩ := List.mem_map.1 hk2
    rcases List.mem_cons.1 hy with rfl | hy
    · exact List.mem_map.2 ⟨_, List.mem_cons_self, he⟩
    · obtain rfl := List.mem_singleton.1 hy
      exact List.mem_map.2 ⟨_, List.mem_cons_of_mem _ List.mem_cons_self, he⟩))) hr) HA3).mono ?_
  rintro e W' ⟨vk, lf, mn, mf, rfl, _, hk_, htr⟩
  obtain ⟨A, c, rfl, _⟩ := hk_form htr
  refine ⟨A, c, _, rfl, (Aw.frame HA2 hk_).perm List.perm_append_comm, ?_⟩
  exact k34.M_lower HA.1.size (hk_off (tree_beside (S := fun _ => True) (w := w) htr HA2.right.lt) List.perm_append_comm)
set_option maxHeartbeats 8000000 in
set_option maxRecDepth 100000 in
theorem heap_Take.calls (A0 : Option Addr) (c0 : Nat) (l0 : List Int) (a1 : Int) (a2 : Int) (r1 : Int) (r2 : Int) (r3 : List S34) (r4 : Int) (w : World) (hr0 : Kd.C (Kd.int .u32) w A0 l0.length l0) (hc0 : l0.length ≤ c0) (h : heap_Take.f l0 a1 a2 = some (r1, r2, r3, r4)) :
    Calls Try.prog 17 #[.slice A0 l0.length c0, .int .u32 a1, .int .i64 a2] w fun e w' => ∃ v2_ : Value, e = .returned (.tuple #[.agg #[.int .i64 r1, .int .i64 r2, v2_], .int .i64 r4]) ∧ Kd.R k34 34 w' w.heap.size (fun _ => True) v2_ r3 ∧ Below w.heap.size w w' := by
  unfold heap_Take.f at h
  split at h
  case isFalse => cases h
  case isTrue hh =>
  obtain ⟨hm, hx, ha⟩ := hh
  have hmx : Builtin.max2 (.int .i64 a2) (.int .i64 0) = pure (.int .i64 (hMx a2)) := by rw [max2_int]; rfl
  obtain ⟨a3, ha3⟩ : ∃ y, hMx a2 = y := ⟨_, rfl⟩
  have ha4 : 0 ≤ a3 ∧ a3 ≤ 10000 := by rw [← ha3]; unfold hMx; omega
  rw [ha3] at h hmx
  have hc := fun (W : World) (gt gm g6 : Nat) (HA : Aw noS w W [(gt, .c 63 [.slice A0 l0.length c0, .int .i64 a3, .map (some gm)]), hkM gm 0 (fun _ => none), (g6, .c 34 [.int .i64 0, .int .i64 0, .slice none 0 0])]) => hk_top_call hm hc0 hr0 hx.1 hx.2 ha4.1 ha4.2 HA
  have hz := takeV_zV l0 a3.toNat (a3, []) a1
  obtain ⟨q, hq⟩ : ∃ q, takeV l0 a3.toNat (a3, []) a1 = q := ⟨_, rfl⟩
  rw [hq] at hc h hz
  obtain ⟨⟨⟨f0, f1, fl⟩, fe⟩, s⟩ := q
  dsimp only at hc h hz
  simp only [Option.some.injEq, Prod.mk.injEq] at h
  obtain ⟨rfl, rfl, rfl, rfl⟩ := h
  have HC := Aside0.mk hc
  have HZ := Aside0.mk hz
  have HA := Aw.start noS w
  clear hc hq hm hx ha ha4 ha3 hz
  by_cases he : fe = 0
  · subst he
    go_enter Try.func17, Try.ntmps17
    go_wp2_with (first | ((with_reducible refine gate_dst (N := 6) rfl ?_); refine aw_alloc rfl rfl hv_zero HA ?_; clear HA; intro g6 W_ HA; simp only [Act.put, List.setIfInBounds_toArray, List.set_cons_succ, List.set_cons_zero]) | ((with_reducible refine gate_dst (N := 14) rfl ?_); refine aw_makemap 22 3 .i64 rfl rfl HA ?_; clear HA; intro gm W_ HA; simp only [Act.put, List.setIfInBounds_toArray, List.set_cons_succ, List.set_cons_zero]) | ((with_reducible refine gate_dst (N := 16) rfl ?_); refine aw_box rfl rfl rfl HA ?_; clear HA; intro gt W_ HA; simp only [Act.put, List.setIfInBounds_toArray, List.set_cons_succ, List.set_cons_zero]) | ((with_reducible refine gate_dst (N := 9) rfl ?_); refine aw_alloc rfl rfl hv_zero HA ?_; clear HA; intro g9 W_ HA; simp only [Act.put, List.setIfInBounds_toArray, List.set_cons_succ, List.set_cons_zero]) | (go_at_call 35; refine (HC.out _ _ _ _ HA).mono ?_; clear HA; rintro e W_ ⟨A9, c9, L', rfl, HA, htr⟩; have HT := Aside0.mk htr; have HP1 := Aside0.mk HA; replace HA := HA.givens; clear htr; simp only [Act.put, List.setIfInBounds_toArray, List.set_cons_succ, List.set_cons_zero]) | ((with_reducible refine gate_ld rfl ?_); (first | refine aw_loadW 0 (t := 34) rfl rfl HA rfl rfl ?_ ?_ | refine aw_loadW 1 (t := 34) rfl rfl HA rfl rfl ?_ ?_ | refine aw_loadW 2 (t := 34) rfl rfl HA rfl rfl ?_ ?_); kernel_rfl; simp only [Act.put, List.setIfInBounds_toArray, List.set_cons_succ, List.set_cons_zero]) | ((with_reducible refine gate_st rfl ?_); (first | refine aw_storeW 0 (t := 34) rfl rfl rfl rfl HA rfl rfl rfl ?_ rfl ?_ | refine aw_storeW 1 (t := 34) rfl rfl rfl rfl HA rfl rfl rfl ?_ rfl ?_ | refine aw_storeW 2 (t := 34) rfl rfl rfl rfl HA rfl rfl rfl ?_ rfl ?_); kernel_rfl; clear HA; intro W_ HA; dsimp only [List.set, List.take, List.cons_append, List.nil_append] at HA))
    refine bodyPost_ret (results_ct rfl _ _ g6 34 #[.int .i64 f0, .int .i64 f1, .slice A9 fl.length c9] (0, 0) _ rfl (HA.at (i := 1) rfl) Try.underlying34 rfl (by kernel_rfl)) rfl ?_
    have htr := tree_keep (L' := (g9, Blk.c 34 []) :: (g6, Blk.c 34 []) :: L') HT.out HA.1 (fun g h => h) (fun g h => by
      obtain ⟨y, hy, hy2⟩ := List.mem_map.1 h
      rcases List.mem_cons.1 hy with rfl | hy
      · exact HA.newL g (List.mem_map.2 ⟨_, List.mem_cons_self, hy2⟩)
      · exact .inl (List.mem_map.2 (by
          rcases List.mem_cons.1 hy with rfl | hy
          · exact ⟨_, List.mem_cons_self, hy2⟩
          · exact ⟨y, List.mem_cons_of_mem _ hy, hy2⟩)))
    obtain ⟨v2, e2, hR⟩ := k34_openM htr
    have e3 : v2 = .slice A9 fl.length c9 := by
      have := congrArg (fun l => l[2]?) e2
      simpa using this.symm
    subst e3
    exact ⟨_, rfl, Kd.R_mono hR (fun _ _ => trivial), (hk_join HP1.out HA).below⟩
  · have ce : (fe != 0) = true := bne_iff_ne.mpr he
    have hzz := HZ.out he
    injection hzz with z0 z1 z2
    subst z0 z1 z2
    clear he
    go_enter Try.func17, Try.ntmps17
    go_wp2_with (first | ((with_reducible refine gate_dst (N := 6) rfl ?_); refine aw_alloc rfl rfl hv_zero HA ?_; clear HA; intro g6 W_ HA; simp only [Act.put, List.setIfInBounds_toArray, List.set_cons_succ, List.set_cons_zero]) | ((with_reducible refine gate_dst (N := 14) rfl ?_); refine aw_makemap 22 3 .i64 rfl rfl HA ?_; clear HA; intro gm W_ HA; simp only [Act.put, List.setIfInBounds_toArray, List.set_cons_succ, List.set_cons_zero]) | ((with_reducible refine gate_dst (N := 16) rfl ?_); refine aw_box rfl rfl rfl HA ?_; clear HA; intro gt W_ HA; simp only [Act.put, List.setIfInBounds_toArray, List.set_cons_succ, List.set_cons_zero]) | ((with_reducible refine gate_dst (N := 9) rfl ?_); refine aw_alloc rfl rfl hv_zero HA ?_; clear HA; intro g9 W_ HA; simp only [Act.put, List.setIfInBounds_toArray, List.set_cons_succ, List.set_cons_zero]) | (go_at_call 35; refine (HC.out _ _ _ _ HA).mono ?_; clear HA; rintro e W_ ⟨A9, c9, L', rfl, HA, htr⟩; have HT := Aside0.mk htr; have HP1 := Aside0.mk HA; replace HA := HA.givens; clear htr; simp only [Act.put, List.setIfInBounds_toArray, List.set_cons_succ, List.set_cons_zero]) | ((with_reducible refine gate_st rfl ?_); (first | refine aw_storeW 0 (t := 34) rfl rfl rfl rfl HA rfl rfl rfl ?_ rfl ?_ | refine aw_storeW 1 (t := 34) rfl rfl rfl rfl HA rfl rfl rfl ?_ rfl ?_ | refine aw_storeW 2 (t := 34) rfl rfl rfl rfl HA rfl rfl rfl ?_ rfl ?_); kernel_rfl; clear HA; intro W_ HA; dsimp only [List.set, List.take, List.cons_append, List.nil_append] at HA))
    refine bodyPost_ret (results_ct rfl _ _ g6 34 #[.int .i64 0, .int .i64 0, .slice none 0 0] (0, 0) _ rfl (HA.at (i := 1) rfl) Try.underlying34 rfl (by kernel_rfl)) rfl ?_
    exact ⟨_, rfl, Kd.R_nil _ _ _ _ _, (hk_join HP1.out HA).below⟩
end Go.Proofs.Ytaddjeegplfjiaa.Q
