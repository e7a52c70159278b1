/- The reference's Take of a value. By wip/gen/ref_take.py. -/
import Derived.Test.YtaddjeegplfjiaaQx0
import Derived.Test.YtaddjeegplfjiaaAw
import Derived.Test.YtaddjeegplfjiaaAwFrame
import Derived.Test.YtaddjeegplfjiaaAwReg
import Derived.Test.YtaddjeegplfjiaaAwRs
import Derived.Test.YtaddjeegplfjiaaAwSl
import Derived.Test.YtaddjeegplfjiaaAwTree
import Derived.Test.YtaddjeegplfjiaaHrefTk
import Derived.Test.YtaddjeegplfjiaaTakeM
--@needs XAwTree
--@needs XTakeM
--@needs XAwRs
--@needs XAwReg
--@needs XHrefTk
import Derived.LoopTactic
import Derived.Deep.LoopGhost
import Derived.Lib.Hide
import Derived.IntWalk
import Derived.Outline
namespace Go.Proofs.Ytaddjeegplfjiaa.Q
open Go.RowKit Go.Proofs.YtaddjeegplfjiaaW.PrintWords Go.Proofs.YtaddjeegplfjiaaW.PrintLast Go.Proofs.YtaddjeegplfjiaaW.PrintMore
attribute [local go_sem] max2_int min2_int max_two min_two max_three min_three max_four min_four   -- for this text's walks alone
set_option linter.unusedVariables false
set_option linter.unusedSimpArgs false

def camletref41_Take.f (k : Nat) (l0 : List Int) (a1 : Int) (a2 : Int) : Option (Int × Int × (List S34) × Int) :=
  if (l0.length ≤ 1000000 ∧ ∀ x ∈ l0, 0 ≤ x ∧ x < 4294967296) ∧ (0 ≤ a1 ∧ a1 < 4294967296) ∧ a2 ≤ 10000 then some ((takeV l0 a2.toNat (a2, []) a1).1.1.f0, (takeV l0 a2.toNat (a2, []) a1).1.1.f1, (takeV l0 a2.toNat (a2, []) a1).1.1.f2, (takeV l0 a2.toNat (a2, []) a1).1.2) else none
theorem camletref41_Take.mono : ∀ a0 a1 a2 k, LeO (camletref41_Take.f k a0 a1 a2) (camletref41_Take.f (k + 1) a0 a1 a2) := fun _ _ _ _ => LeO.refl _
theorem tk_top_call {w W : World} {A0 : Option Addr} {m : List Int} {c0 gt g6 : Nat} {a2 x : Int} {b : Blk} (hm : m.length ≤ 1000000 ∧ ∀ x ∈ m, 0 ≤ x ∧ x < 4294967296) (hc0 : m.length ≤ c0) (hr : Kd.C (Kd.int .u32) w A0 m.length m) (hx0 : 0 ≤ x) (hx1 : x < 4294967296) (ha : a2 ≤ 10000) (HA : Aw noS w W [(gt, .c 67 [.slice A0 m.length c0, .int .i64 a2, .slice none 0 0]), (g6, b)]) :
    Calls Try.prog 36 #[.pointer (some ⟨gt, 0, none⟩), .int .u32 x] W fun e W' => ∃ (A : Option Addr) (c : Nat) (gt' : Nat) (L' : List (Nat × Blk)), e = .returned (.tuple #[.agg #[.int .i64 (takeV m a2.toNat (a2, []) x).1.1.f0, .int .i64 (takeV m a2.toNat (a2, []) x).1.1.f1, .slice A (takeV m a2.toNat (a2, []) x).1.1.f2.length c], .int .i64 (takeV m a2.toNat (a2, []) x).1.2]) ∧ Aw noS w W' ((g6, b) :: L') ∧
      k34.M W' w.heap.size (offL ((g6, b) :: L')) (takeV m a2.toNat (a2, []) x).1.1 [.int .i64 (takeV m a2.toNat (a2, []) x).1.1.f0, .int .i64 (takeV m a2.toNat (a2, []) x).1.1.f1, .slice A (takeV m a2.toNat (a2, []) x).1.1.f2.length c] := by
  have HA2 : Aw noS w W ([tkT gt A0 m.length c0 a2 (.slice none 0 0)] ++ [(g6, b)]) := HA
  refine (T_take.calls m hm A0 c0 hc0 a2.toNat a2 [] x W gt (.slice none 0 0) [] (by omega) (by simp; omega) hx0 hx1 (fun W' hk => Kp.reads (HA.1.trans hk (fun k hk2 => HA.newL k (by
    obtain ⟨y, hy, he⟩ := List.mem_map.1 hk2
    obtain rfl := List.mem_singleton.1 hy
    exact List.mem_map.2 ⟨_, List.mem_cons_self, he⟩))) hr) (Own.nil _ _) HA2.left.givens).mono ?_
  rintro e W' ⟨vk, vc', Lc', rfl, hown2, hk_, htr⟩
  obtain ⟨A, c, rfl, _⟩ := tk_form htr
  refine ⟨A, c, gt, _, rfl, (Aw.frame HA2 hk_).perm List.perm_append_comm, ?_⟩
  exact k34.M_lower HA.1.size (offL_perm (tree_beside (S := fun _ => True) (w := w) htr HA2.right.lt) List.perm_append_comm)
set_option maxHeartbeats 8000000 in
set_option maxRecDepth 100000 in
theorem camletref41_Take.calls (k : Nat) (A0 : Option Addr) (c0 : Nat) (l0 : List Int) (a1 : Int) (a2 : Int) (r1 : Int) (r2 : Int) (r3 : List S34) (r4 : Int) (w : World) (hr0 : Kd.C (Kd.int .u32) w A0 l0.length l0) (hc0 : l0.length ≤ c0) (h : camletref41_Take.f k l0 a1 a2 = some (r1, r2, r3, r4)) :
    Calls Try.prog 18 #[.slice A0 l0.length c0, .int .u32 a1, .int .i64 a2] w fun e w' => ∃ v2_ : Value, e = .returned (.tuple #[.agg #[.int .i64 r1, .int .i64 r2, v2_], .int .i64 r4]) ∧ Kd.R k34 34 w' w.heap.size (fun _ => True) v2_ r3 ∧ Below w.heap.size w w' := by
  unfold camletref41_Take.f at h
  split at h
  case isFalse => cases h
  case isTrue hh =>
  obtain ⟨hm, hx, ha⟩ := hh
  have hc := fun (W : World) (gt g6 : Nat) (HA : Aw noS w W [(gt, .c 67 [.slice A0 l0.length c0, .int .i64 a2, .slice none 0 0]), (g6, .c 34 [.int .i64 0, .int .i64 0, .slice none 0 0])]) => tk_top_call hm hc0 hr0 hx.1 hx.2 ha HA
  obtain ⟨q, hq⟩ : ∃ q, takeV l0 a2.toNat (a2, []) a1 = q := ⟨_, rfl⟩
  rw [hq] at hc h
  obtain ⟨⟨⟨f0, f1, fl⟩, fe⟩, s⟩ := q
  dsimp only at hc h
  simp only [Option.some.injEq, Prod.mk.injEq] at h
  obtain ⟨rfl, rfl, rfl, rfl⟩ := h
  have HC := Aside0.mk hc
  have HA := Aw.start noS w
  clear hc hq hm hx ha
  go_enter Try.func18, Try.ntmps18
  go_wp2_with (first | ((with_reducible refine gate_dst (N := 6) rfl ?_); refine aw_alloc rfl rfl tv_zero HA ?_; clear HA; intro g6 W_ HA; simp only [Act.put, List.setIfInBounds_toArray, List.set_cons_succ, List.set_cons_zero]) | ((with_reducible refine gate_dst (N := 12) rfl ?_); refine aw_box rfl rfl rfl HA ?_; clear HA; intro gt W_ HA; simp only [Act.put, List.setIfInBounds_toArray, List.set_cons_succ, List.set_cons_zero]) | (go_at_call 36; refine (HC.out _ _ _ HA).mono ?_; clear HA; rintro e W_ ⟨A9, c9, gt', L', rfl, HA, htr⟩; have HT := Aside0.mk htr; have HP1 := Aside0.mk HA; replace HA := HA.givens; clear htr; simp only [Act.put, List.setIfInBounds_toArray, List.set_cons_succ, List.set_cons_zero]) | ((with_reducible refine gate_st rfl ?_); (first | refine aw_storeW 0 (t := 34) rfl rfl rfl rfl HA rfl rfl rfl ?_ rfl ?_ | refine aw_storeW 1 (t := 34) rfl rfl rfl rfl HA rfl rfl rfl ?_ rfl ?_); kernel_rfl; clear HA; intro W_ HA; dsimp only [List.set, List.take, List.cons_append, List.nil_append] at HA))
  refine bodyPost_ret (results_ct rfl _ _ g6 34 #[.int .i64 f0, .int .i64 f1, .slice A9 fl.length c9] (0, 0) _ rfl (HA.at (i := 0) rfl) Try.underlying34 rfl (by kernel_rfl)) rfl ?_
  have htr := tree_keep (L' := (g6, Blk.c 34 []) :: L') HT.out HA.1 (fun g h => h) (fun g h => .inl h)
  obtain ⟨v2, e2, hR⟩ := k34_openM htr
  have e3 : v2 = .slice A9 fl.length c9 := by
    have := congrArg (fun l => l[2]?) e2
    simpa using this.symm
  subst e3
  exact ⟨_, rfl, Kd.R_mono hR (fun _ _ => trivial), (tk_join HP1.out HA).below⟩
end Go.Proofs.Ytaddjeegplfjiaa.Q
