/- gc.Collect's closure: a word, changed. By wip/gen/gc_change.py. -/
import Derived.Test.YtnkbfbhhioemoaaQx0
import Derived.Test.YtnkbfbhhioemoaaQx1
import Derived.Test.YtnkbfbhhioemoaaAw
import Derived.Test.YtnkbfbhhioemoaaAwFrame
import Derived.Test.YtnkbfbhhioemoaaAwMap
import Derived.Test.YtnkbfbhhioemoaaAwSl
import Derived.Test.YtnkbfbhhioemoaaGcModel
import Derived.Test.YtnkbfbhhioemoaaHgcMeet
import Derived.Test.YtnkbfbhhioemoaaHgcReachW
--@needs XAw
--@needs XAwMap
--@needs XAwSl
--@needs XAwFrame
--@needs XHgcReachW
--@uses (camlet/gc.half).leads
--@uses (camlet/gc.half).block
import Derived.LoopTactic
import Derived.Lib.Hide
import Derived.IntWalk
namespace Go.Proofs.Ytnkbfbhhioemoaa.Q
open Go.RowKit Go.Proofs.YtnkbfbhhioemoaaW.PrintWords Go.Proofs.YtnkbfbhhioemoaaW.PrintLast Go.Proofs.YtnkbfbhhioemoaaW.PrintMore
attribute [local go_sem] max2_int min2_int max_two min_two max_three min_three max_four min_four   -- for this text's walks alone
set_option linter.unusedVariables false
set_option linter.unusedSimpArgs false

open Go.Maps
/-- a word, changed: to where the block was moved to -/
def gChange (F T : Int) (mv : Int → Option Int) (x : Int) : Int := if gLeads F T x = true then 4 * (mv (x / 4)).getD 0 else x
def movedF (mv : Int → Option Int) : Lit → Option Int
  | .int .i64 k => mv k
  | _ => none
theorem half_leads_calls {A0 : Option Addr} {c0 : Nat} {m : List Int} {F T x : Int} {W : World} (hm : Kd.C (Kd.int .u32) W A0 m.length m) (hc : m.length ≤ c0) (hlen : m.length ≤ 1000000) (hF : 0 ≤ F) (hFT : F ≤ T) (hT : T ≤ m.length) (hx0 : 0 ≤ x) (hx1 : x < 4294967296) :
    Calls Try.prog 24 #[.agg #[.slice A0 m.length c0, .int .i64 F, .int .i64 T], .int .u32 x] W fun e w' => e = .returned (.bool (gLeads F T x)) ∧ Below W.heap.size W w' := by
  refine gc_half_leads.calls A0 c0 m F T x _ W hm hc ?_
  unfold gc_half_leads.f gLeads
  rw [Int.tmod_eq_emod_of_nonneg hx0]
  have e1 : wrap64 x = x := by unfold wrap64; omega
  have e2 : wrap64 (4 * F) = 4 * F := by unfold wrap64; omega
  have e3 : wrap64 (4 * T) = 4 * T := by unfold wrap64; omega
  rw [e1, e2, e3]
  by_cases h1 : x % 2 = 0
  · by_cases h2 : 4 * F ≤ x
    · simp [h1, h2]
    · have : ¬ x ≥ 4 * F := by omega
      simp [h1, h2]
  · simp [h1]
set_option maxHeartbeats 4000000 in
set_option maxRecDepth 100000 in
theorem gc_change.calls {w W : World} {bm mm bc gc nm : Nat} {A0 : Option Addr} {c0 : Nat} {m : List Int} {F T : Int} {mv : Int → Option Int} {tl : List Value} {R : List (Nat × Blk)} (x : Int) (hr : Kd.C (Kd.int .u32) w A0 m.length m) (hc : m.length ≤ c0) (hlen : m.length ≤ 1000000) (hF : 0 ≤ F) (hFT : F ≤ T) (hT : T ≤ m.length) (hx0 : 0 ≤ x) (hx1 : x < 4294967296) (hmv : ∀ k v, mv k = some v → 0 ≤ v ∧ v ≤ 1000000)
    (HA : Aw noS w W ((bm, .c 54 [.map (some mm)]) :: (mm, Blk.m Try.prog 3 3 .i64 nm (movedF mv)) :: (bc, .c 45 [.pointer (some ⟨gc, 0, none⟩)]) :: (gc, .c 56 (.slice A0 m.length c0 :: .int .i64 F :: .int .i64 T :: tl)) :: R)) :
    Calls Try.prog 23 #[.int .u32 x, .pointer (some ⟨bc, 0, none⟩), .pointer (some ⟨bm, 0, none⟩)] W fun e W' => e = .returned (.int .u32 (gChange F T mv x)) ∧ Below W.heap.size W W' := by
  have hm := HA.1.reads hr
  have hlead := half_leads_calls hm hc hlen hF hFT hT hx0 hx1
  have HB := Below.refl W.heap.size W
  clear hr hm
  unfold gChange
  cases hl : gLeads F T x
  case false =>
    rw [hl] at hlead
    rw [if_neg (by decide)]
    clear hl
    go_enter Try.func23, Try.ntmps23
    go_wp2_with (first | (go_at_call 24; refine (hlead).mono ?_; rintro e W_ ⟨rfl, hb_⟩; replace HA := HA.call hb_) | ((with_reducible refine gate_dst (N := 15) rfl ?_); refine aw_lookup 1 (f := movedF mv) (kl := .int .i64 (x / 4)) i_keyed ii_under i_under i_zero rfl rfl rfl rfl HA rfl hkx hmx ?_; simp only [Act.put, List.setIfInBounds_toArray, List.set_cons_succ, List.set_cons_zero]) | ((with_reducible refine gate_ld rfl ?_); (first | refine aw_loadA 3 (t := 52) (j := 0) rfl rfl HA rfl rfl 3 ?_ rfl rfl ?_ | refine aw_loadA 2 (t := 52) (j := 0) rfl rfl HA rfl rfl 3 ?_ rfl rfl ?_ | refine aw_load 0 rfl rfl HA rfl rfl rfl ?_ ?_ | refine aw_load 1 rfl rfl HA rfl rfl rfl ?_ ?_ | refine aw_load 2 rfl rfl HA rfl rfl rfl ?_ ?_ | refine aw_load 3 rfl rfl HA rfl rfl rfl ?_ ?_ | refine aw_load 4 rfl rfl HA rfl rfl rfl ?_ ?_); kernel_rfl; simp only [Act.put, List.setIfInBounds_toArray, List.set_cons_succ, List.set_cons_zero]))
    go_ret
    exact ⟨rfl, hb_⟩
  case true =>
    rw [hl] at hlead
    rw [if_pos rfl]
    clear hl
    have hkx : keyOf Try.prog 3 (.int .i64 (x / 4)) = some (.int .i64 (x / 4)) := i_key (by omega) (by omega)
    obtain ⟨v, hv⟩ : ∃ v, (mv (x / 4)).getD 0 = v := ⟨_, rfl⟩
    rw [hv]
    have hvb : 0 ≤ v ∧ v ≤ 1000000 := by
      cases e : mv (x / 4) with
      | none => rw [e] at hv; subst hv; exact ⟨by decide, by decide⟩
      | some u => rw [e] at hv; subst hv; exact hmv _ _ e
    have hmx : (movedF mv (.int .i64 (x / 4))).getD 0 = v := hv
    have HV := Lib.hid hv
    clear hv hmv
    go_enter Try.func23, Try.ntmps23
    go_wp2_with (first | (go_at_call 24; refine (hlead).mono ?_; rintro e W_ ⟨rfl, hb_⟩; replace HA := HA.call hb_) | ((with_reducible refine gate_dst (N := 15) rfl ?_); refine aw_lookup 1 (f := movedF mv) (kl := .int .i64 (x / 4)) i_keyed ii_under i_under i_zero rfl rfl rfl rfl HA rfl hkx hmx ?_; simp only [Act.put, List.setIfInBounds_toArray, List.set_cons_succ, List.set_cons_zero]) | ((with_reducible refine gate_ld rfl ?_); (first | refine aw_loadA 3 (t := 52) (j := 0) rfl rfl HA rfl rfl 3 ?_ rfl rfl ?_ | refine aw_loadA 2 (t := 52) (j := 0) rfl rfl HA rfl rfl 3 ?_ rfl rfl ?_ | refine aw_load 0 rfl rfl HA rfl rfl rfl ?_ ?_ | refine aw_load 1 rfl rfl HA rfl rfl rfl ?_ ?_ | refine aw_load 2 rfl rfl HA rfl rfl rfl ?_ ?_ | refine aw_load 3 rfl rfl HA rfl rfl rfl ?_ ?_ | refine aw_load 4 rfl rfl HA rfl rfl rfl ?_ ?_); kernel_rfl; simp only [Act.put, List.setIfInBounds_toArray, List.set_cons_succ, List.set_cons_zero]))
    go_ret
    exact ⟨rfl, hb_⟩
end Go.Proofs.Ytnkbfbhhioemoaa.Q
