/- gc.Reach: how many words are still asked for. By wip/gen/gc_top.py. -/
import Derived.Test.YtnkbfbhhioemoaaQx0
import Derived.Test.YtnkbfbhhioemoaaAw
import Derived.Test.YtnkbfbhhioemoaaAwSl
import Derived.Test.YtnkbfbhhioemoaaGcBlk
import Derived.Test.YtnkbfbhhioemoaaGcModel
import Derived.Test.YtnkbfbhhioemoaaHgcMeet
import Derived.Test.YtnkbfbhhioemoaaHgcReachW
--@needs XHgcReachW
--@needs XGcBlk
--@uses (camlet/gc.half).leads
--@uses (camlet/gc.half).block
import Derived.LoopTactic
import Derived.Lib.Hide
namespace Go.Proofs.Ytnkbfbhhioemoaa.Q
open Go.RowKit Go.Proofs.YtnkbfbhhioemoaaW.PrintWords Go.Proofs.YtnkbfbhhioemoaaW.PrintLast Go.Proofs.YtnkbfbhhioemoaaW.PrintMore
attribute [local go_sem] max2_int min2_int max_two min_two max_three min_three max_four min_four   -- for this text's walks alone
set_option linter.unusedVariables false
set_option linter.unusedSimpArgs false

open Go.Maps
def w32 (l : List Int) : Prop := l.length ≤ 1000000 ∧ ∀ x ∈ l, 0 ≤ x ∧ x < 4294967296
instance (l : List Int) : Decidable (w32 l) := by unfold w32; infer_instance
def gc_Reach.f (l0 : List Int) (a1 : Int) (a2 : Int) (l3 : List Int) : Option (Int × Int) :=
  if w32 l0 ∧ w32 l3 then some (if a1 < 0 ∨ a2 < a1 ∨ (l0.length : Int) < a2 then (0, 1) else match gReach l0 a1 a2 (gBlk l0 a2) l3 with | none => (0, 22) | some l => (gWords (gBlk l0 a2) l, 0)) else none
theorem gcEnv {w : World} {S : Nat → Prop} {A0 : Option Addr} {c0 : Nat} {m : List Int} {F T : Int} (hr : ∀ W', Kp S w W' → Kd.C (Kd.int .u32) W' A0 m.length m) (hc : m.length ≤ c0) (hm : w32 m) (h : ¬ (F < 0 ∨ T < F ∨ (m.length : Int) < T)) : GcEnv S w A0 c0 m F T (gBlk m T) :=
  ⟨hr, hc, hm.1, by omega, by omega, by omega, fun a h0 h1 => half_block_eq hm.2 hm.1 (by omega) h1 (by omega), gBlk_ok m F T, hm.2⟩
set_option maxHeartbeats 4000000 in
set_option maxRecDepth 100000 in
theorem gc_Reach.calls (A0 : Option Addr) (c0 : Nat) (l0 : List Int) (a1 : Int) (a2 : Int) (A3 : Option Addr) (c3 : Nat) (l3 : List Int) (r1 : Int) (r2 : Int) (w : World) (hr0 : Kd.C (Kd.int .u32) w A0 l0.length l0) (hc0 : l0.length ≤ c0) (hr3 : Kd.C (Kd.int .u32) w A3 l3.length l3) (hc3 : l3.length ≤ c3) (h : gc_Reach.f l0 a1 a2 l3 = some (r1, r2)) :
    Calls Try.prog 13 #[.slice A0 l0.length c0, .int .i64 a1, .int .i64 a2, .slice A3 l3.length c3] w fun e w' => e = .returned (.tuple #[.int .i64 r1, .int .i64 r2]) ∧ Below w.heap.size w w' := by
  unfold gc_Reach.f at h
  by_cases hok : w32 l0 ∧ w32 l3
  case neg => rw [if_neg hok] at h; cases h
  rw [if_pos hok] at h
  replace h := Option.some.inj h
  by_cases hb : a1 < 0 ∨ a2 < a1 ∨ (l0.length : Int) < a2
  · rw [if_pos hb] at h
    injection h with h1 h2
    subst h1 h2
    have hbad := gc_begin.bad A0 l0.length c0 a1 a2 w hb
    clear hb hok
    go_enter Try.func13, Try.ntmps13
    go_wp2_with (go_at_call 20; refine hbad.mono ?_; rintro e W_ ⟨rfl, rfl⟩)
    go_ret2
    exact ⟨rfl, Below.refl _ _⟩
  rw [if_neg hb] at h
  have HR0 : ∀ W', Kp noS w W' → Kd.C (Kd.int .u32) W' A0 l0.length l0 := fun W' hk => hk.reads hr0
  have HR3 : ∀ W', Kp noS w W' → Kd.C (Kd.int .u32) W' A3 l3.length l3 := fun W' hk => hk.reads hr3
  have HE := gcEnv HR0 hc0 hok.1 hb
  have hgood := gc_begin.good (gBlk l0 a2) A0 l0.length c0 a1 a2 w hb
  have hreach := fun W gc sm tm (HS : GcSt (gBlk l0 a2) noS w W gc sm tm (.slice A0 l0.length c0) a1 a2 []) => gc_reach.calls HE HR3 hc3 hok.2.1 hok.2.2 HS
  clear hb hok HE HR0 HR3 hr0 hr3
  have H := Lib.hid h
  clear h
  cases hg : gReach l0 a1 a2 (gBlk l0 a2) l3 with
  | none =>
    rw [hg] at hreach
    have hh := H.out
    rw [hg] at hh
    injection hh with h1 h2
    subst h1 h2
    clear H hg
    go_enter Try.func13, Try.ntmps13
    go_wp2_with (first | (go_at_call 20; refine hgood.mono ?_; rintro e W_ ⟨gc, sm, tm, rfl, HA⟩) | (go_at_call 22; refine (hreach _ gc sm tm ⟨_, [], Own.nil _ _, by simpa using HA⟩).mono ?_; rintro e W_ ⟨rfl, hkp⟩))
    go_ret2
    exact ⟨rfl, hkp.below (fun _ hk => hk.elim)⟩
  | some l =>
    rw [hg] at hreach
    have hh := H.out
    rw [hg] at hh
    injection hh with h1 h2
    subst h1 h2
    clear H hg
    go_enter Try.func13, Try.ntmps13
    go_wp2_with (first | (go_at_call 20; refine hgood.mono ?_; rintro e W_ ⟨gc, sm, tm, rfl, HA⟩) | (go_at_call 22; refine (hreach _ gc sm tm ⟨_, [], Own.nil _ _, by simpa using HA⟩).mono ?_; rintro e W_ ⟨rfl, v_, Lv_, hown, HA⟩) | ((with_reducible refine gate_ld rfl ?_); (refine aw_load 0 rfl rfl HA rfl rfl rfl ?_ ?_); kernel_rfl; simp only [Act.put, List.setIfInBounds_toArray, List.set_cons_succ, List.set_cons_zero]))
    go_ret2
    exact ⟨rfl, HA.below⟩
end Go.Proofs.Ytnkbfbhhioemoaa.Q
