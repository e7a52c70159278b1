/- heap.Right's closure by slices.ContainsFunc. By wip/gen/heap_right.py. -/
import Derived.Test.YtaddjeegplfjiaaQx0
import Derived.Test.YtaddjeegplfjiaaAw
import Derived.Test.YtaddjeegplfjiaaAwAny
import Derived.Test.YtaddjeegplfjiaaAwMap
import Derived.Test.YtaddjeegplfjiaaAwMapRun
import Derived.Test.YtaddjeegplfjiaaAwReg
import Derived.Test.YtaddjeegplfjiaaAwRs
import Derived.Test.YtaddjeegplfjiaaAwTree
import Derived.Test.YtaddjeegplfjiaaHeapPlain
import Derived.Test.YtaddjeegplfjiaaHheapTk
import Derived.Test.YtaddjeegplfjiaaTakeM
--@needs XAwTree
--@needs XTakeM
--@needs XHeapPlain
--@needs XAwRs
--@needs XAwReg
--@needs XAwAny
--@needs XAwMapRun
--@needs XHheapTk

import Derived.LoopTactic
import Derived.Deep.LoopGhost
import Derived.Lib.Hide
import Derived.IntWalk
import Derived.Outline
namespace Go.Proofs.Ytaddjeegplfjiaa.Q
open Go.RowKit Go.Proofs.YtaddjeegplfjiaaW.PrintWords Go.Proofs.YtaddjeegplfjiaaW.PrintLast Go.Proofs.YtaddjeegplfjiaaW.PrintMore
attribute [local go_sem] max2_int min2_int max_two min_two max_three min_three max_four min_four   -- for this text's walks alone
set_option linter.unusedVariables false
set_option linter.unusedSimpArgs false

open Go.Maps
set_option maxHeartbeats 8000000 in
set_option maxRecDepth 100000 in
theorem hRight.idx {ca : Addr} {p : Int → Bool} {w : World} {A : Option Addr} {c : Nat} {l : List Int} (hC : Kd.C (Kd.int .u32) w A l.length l) (hlen : l.length ≤ 4611686018427387904)
    (HE : ∀ (x : Int) (w' : World), x ∈ l → Below w.heap.size w w' → Calls Try.prog 39 #[.int .u32 x, .pointer (some ca)] w' fun e w2 => e = .returned (.bool (p x)) ∧ Below w'.heap.size w' w2) :
    Calls Try.prog 55 #[.slice A l.length c, .func (.func 39) #[] #[.pointer (some ca)]] w fun e w' => (∃ j : Int, e = .returned (.int .i64 j) ∧ decide (j ≥ 0) = l.any p) ∧ Below w.heap.size w w' := by
  obtain ⟨P, HP⟩ : ∃ P : Ending → World → Prop, Aside0 (P = fun e w' => (∃ j : Int, e = .returned (.int .i64 j) ∧ decide (j ≥ 0) = l.any p) ∧ Below w.heap.size w w') := ⟨_, ⟨rfl⟩⟩
  rw [← HP.out]
  have HB := Aside0.mk (Below.refl w.heap.size w)
  have HC := Aside0.mk hC
  have HEE := Aside0.mk HE
  clear hC HE
  go_enter Try.func55, Try.ntmps55
  go_wp2
  go_loopg [8] (l.length) (fun g v wx => ∃ (k : Nat), k + g = l.length ∧ v = .int .i64 k ∧ Aside0 ((l.take k).any p = false) ∧ Aside0 (Below w.heap.size w wx))
  case atStart => exact ⟨0, by omega, rfl, ⟨by simp⟩, HB⟩
  case round =>
    clear HB
    obtain ⟨k, hk, rfl, Hno, HB⟩ := hrel
    by_cases hlt : k < l.length
    · have ck : decide ((k : Int) < (l.length : Int)) = true := decide_eq_true (by omega)
      have ck2 : decide (k < l.length) = true := decide_eq_true hlt
      have hw : IntKind.i64.wrap ((k : Int) + 1) = ((k + 1 : Nat) : Int) := by rw [IntWalk.i64_in _ (by omega)]; rfl
      obtain ⟨x, HX⟩ : ∃ x, Aside0 (l[k] = x) := ⟨_, ⟨rfl⟩⟩
      have hrd : rd l (k : Int) = x := by have h := HX.out; rw [← h]; show l.getD k _ = _; rw [List.getD_eq_getElem?_getD, List.getElem?_eq_getElem hlt]; rfl
      obtain ⟨ad, he, hx0⟩ := Kd.at_int HC.out (k : Int) (by omega) (by omega)
      rw [hrd] at hx0
      cases he
      replace hx0 := (HB.out.cell (World.block_lt_of_cell? w _ hx0)).trans hx0
      have hx0' : wr.cell? (ad.add k) = some (.int .u32 x) := hx0
      clear hx0 hrd
      have p0 : (0 ≤ (k : Int)) = True := eq_true (by omega)
      have q0 : ((k : Int) < (l.length : Int)) = True := eq_true (by omega)
      have hmem : x ∈ l := by rw [← HX.out]; exact List.getElem_mem hlt
      have HCALL := Aside0.mk (HEE.out x wr hmem HB.out)
      have hsn : (l.take (k + 1)).any p = p x := by
        rw [List.take_succ_eq_append_getElem hlt, List.any_append, Hno.out, HX.out]; simp
      have HSN := Aside0.mk hsn
      clear hsn
      rcases hpx : p x with _ | _
      · rw [hpx] at HCALL HSN
        go_wp2_with (first | (go_at_call 39; refine HCALL.out.mono ?_; rintro e w2 ⟨rfl, hb⟩; replace HB := Aside0.mk (below_step HB.out hb); clear hb))
        go_roundg (l.length - (k + 1))
        case measure => omega
        case rel => exact ⟨k + 1, by omega, rfl, HSN, HB⟩
      · rw [hpx] at HCALL HSN
        go_wp2_with (first | (go_at_call 39; refine HCALL.out.mono ?_; rintro e w2 ⟨rfl, hb⟩; replace HB := Aside0.mk (below_step HB.out hb); clear hb))
        rw [HP.out]
        refine ⟨⟨(k : Int), rfl, ?_⟩, HB.out⟩
        rw [decide_eq_true (show (k : Int) ≥ 0 by omega)]
        refine (List.any_eq_true.mpr ⟨x, hmem, hpx⟩).symm
    · have ck : decide ((k : Int) < (l.length : Int)) = false := decide_eq_false (by omega)
      have ck2 : decide (k < l.length) = false := decide_eq_false hlt
      go_wp2
      rw [HP.out]
      refine ⟨⟨-1, rfl, ?_⟩, HB.out⟩
      have h := Hno.out
      rw [List.take_of_length_le (by omega)] at h
      rw [h]; rfl
set_option maxHeartbeats 8000000 in
set_option maxRecDepth 100000 in
theorem hRight.has {ca : Addr} {p : Int → Bool} {w : World} {A : Option Addr} {c : Nat} {l : List Int} (hC : Kd.C (Kd.int .u32) w A l.length l) (hlen : l.length ≤ 4611686018427387904)
    (HE : ∀ (x : Int) (w' : World), x ∈ l → Below w.heap.size w w' → Calls Try.prog 39 #[.int .u32 x, .pointer (some ca)] w' fun e w2 => e = .returned (.bool (p x)) ∧ Below w'.heap.size w' w2) :
    Calls Try.prog 38 #[.slice A l.length c, .func (.func 39) #[] #[.pointer (some ca)]] w fun e w' => e = .returned (.bool (l.any p)) ∧ Below w.heap.size w w' := by
  have HI := Aside0.mk (@hRight.idx ca p w A c l hC hlen HE)
  clear hC HE
  go_enter Try.func38, Try.ntmps38
  go_wp2_with (first | (go_at_call 55; refine HI.out.mono ?_; rintro e w2 ⟨⟨j, rfl, hj⟩, hb⟩))
  go_ret
  exact ⟨rfl, hb⟩
/-- what the map of places gives -/
def placesF (ps : List Int) : Lit → Option Int
  | .int .u32 w => if w % 4 = 0 ∧ w / 4 ∈ ps then some 1 else none
  | _ => none
theorem placesF_at (ps : List Int) (x : Int) : (placesF ps (.int .u32 x)).getD 0 = if x % 4 = 0 ∧ x / 4 ∈ ps then 1 else 0 := by
  show ((if x % 4 = 0 ∧ x / 4 ∈ ps then some 1 else none : Option Int)).getD 0 = _
  split <;> rfl
theorem placesF_put (ps : List Int) {a : Int} : putf (placesF ps) (.int .u32 (4 * a)) 1 = placesF (ps ++ [a]) := by
  funext k
  unfold putf
  by_cases e : k = .int .u32 (4 * a)
  · subst e
    rw [if_pos rfl]
    show _ = (if (4 * a) % 4 = 0 ∧ (4 * a) / 4 ∈ ps ++ [a] then some 1 else none : Option Int)
    rw [if_pos ⟨by omega, by rw [show 4 * a / 4 = a by omega]; simp⟩]
  · rw [if_neg e]
    unfold placesF
    split
    · rename_i w
      by_cases hw : w % 4 = 0
      · have hne : ¬ w / 4 = a := fun e2 => e (by rw [show w = 4 * a by omega])
        have : (w / 4 ∈ ps ++ [a]) ↔ w / 4 ∈ ps := by simp [hne]
        simp only [this]
      · rw [if_neg (fun h => hw h.1), if_neg (fun h => hw h.1)]
    · rfl
/-- a word that leads to no place -/
def astray (ps : List Int) (x : Int) : Bool := decide (x % 2 = 0) && !decide (x % 4 = 0 ∧ x / 4 ∈ ps)
set_option maxHeartbeats 8000000 in
set_option maxRecDepth 100000 in
theorem hRight.one {S : Nat → Prop} {w W : World} {gp gm n : Nat} {ps : List Int} {L : List (Nat × Blk)} {x : Int} (hx0 : 0 ≤ x) (hx1 : x < 4294967296) (HA : Aw S w W ((gp, .c 61 [.map (some gm)]) :: hkM gm n (placesF ps) :: L)) :
    Calls Try.prog 39 #[.int .u32 x, .pointer (some ⟨gp, 0, none⟩)] W fun e w2 => e = .returned (.bool (astray ps x)) ∧ Below W.heap.size W w2 := by
  have hkx := hk_key hx0 hx1
  have HAg := Aside0.mk HA
  replace HA := HA.givens
  by_cases h2 : x % 2 = 0
  · have c2 : (x % 2 == 0) = true := beq_iff_eq.mpr h2
    by_cases h4 : x % 4 = 0 ∧ x / 4 ∈ ps
    · have hv2 : (placesF ps (.int .u32 x)).getD 0 = 1 := by rw [placesF_at, if_pos h4]
      have hp : astray ps x = false := by unfold astray; rw [decide_eq_true h4]; simp
      rw [hp]
      clear h2 h4 hp
      go_enter Try.func39, Try.ntmps39
      go_wp2_with (first | ((with_reducible refine gate_dst (N := 10) rfl ?_); refine aw_lookup 1 (f := placesF ps) (kl := .int .u32 x) hk_keyed hk_mu hk_iu hk_zero rfl rfl rfl rfl HA rfl hkx hv2 ?_; simp only [Act.put, List.setIfInBounds_toArray, List.set_cons_succ, List.set_cons_zero]) | ((with_reducible refine gate_ld rfl ?_); (refine aw_load 0 rfl rfl HA rfl rfl rfl ?_ ?_); kernel_rfl; simp only [Act.put, List.setIfInBounds_toArray, List.set_cons_succ, List.set_cons_zero]))
      go_ret
      exact ⟨rfl, Below.refl _ _⟩
    · have hv2 : (placesF ps (.int .u32 x)).getD 0 = 0 := by rw [placesF_at, if_neg h4]
      have hp : astray ps x = true := by unfold astray; rw [decide_eq_false h4, decide_eq_true h2]; rfl
      rw [hp]
      clear h2 h4 hp
      go_enter Try.func39, Try.ntmps39
      go_wp2_with (first | ((with_reducible refine gate_dst (N := 10) rfl ?_); refine aw_lookup 1 (f := placesF ps) (kl := .int .u32 x) hk_keyed hk_mu hk_iu hk_zero rfl rfl rfl rfl HA rfl hkx hv2 ?_; simp only [Act.put, List.setIfInBounds_toArray, List.set_cons_succ, List.set_cons_zero]) | ((with_reducible refine gate_ld rfl ?_); (refine aw_load 0 rfl rfl HA rfl rfl rfl ?_ ?_); kernel_rfl; simp only [Act.put, List.setIfInBounds_toArray, List.set_cons_succ, List.set_cons_zero]))
      go_ret
      exact ⟨rfl, Below.refl _ _⟩
  · have c2 : (x % 2 == 0) = false := beq_eq_false_iff_ne.mpr h2
    have hp : astray ps x = false := by unfold astray; rw [decide_eq_false h2]; rfl
    rw [hp]
    clear h2 hp
    go_enter Try.func39, Try.ntmps39
    go_wp2_with (first | ((with_reducible refine gate_dst (N := 10) rfl ?_); refine aw_lookup 1 (f := placesF ps) (kl := .int .u32 x) hk_keyed hk_mu hk_iu hk_zero rfl rfl rfl rfl HA rfl hkx hv2 ?_; simp only [Act.put, List.setIfInBounds_toArray, List.set_cons_succ, List.set_cons_zero]) | ((with_reducible refine gate_ld rfl ?_); (refine aw_load 0 rfl rfl HA rfl rfl rfl ?_ ?_); kernel_rfl; simp only [Act.put, List.setIfInBounds_toArray, List.set_cons_succ, List.set_cons_zero]))
    go_ret
    exact ⟨rfl, Below.refl _ _⟩
end Go.Proofs.Ytaddjeegplfjiaa.Q
