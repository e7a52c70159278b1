-- Made by a program of this session (wip/tools/pr.py) out of the translation, over the kit's printer. Not trusted: Lean checks it.
import Derived.Test.YtcdeekfgdmckmaaDoorQx0
import Derived.Test.YtcdeekfgdmckmaaDoorQx3
import Derived.Test.YtcdeekfgdmckmaaDoorQx4
import Derived.Test.YtcdeekfgdmckmaaDoorQx5
import Derived.Test.YtcdeekfgdmckmaaDoorQx6
import Derived.Test.YtcdeekfgdmckmaaDoorQx9
namespace Go.Proofs.YtcdeekfgdmckmaaDoor.Q
open Go.RowKit Go.Proofs.YtcdeekfgdmckmaaDoorW.PrintWords Go.Proofs.YtcdeekfgdmckmaaDoorW.PrintLast Go.Proofs.YtcdeekfgdmckmaaDoorW.PrintMore
attribute [local go_sem] max2_int min2_int max_two min_two max_three min_three max_four min_four   -- for this text's walks alone
set_option linter.unusedVariables false
set_option linter.unusedSimpArgs false

/-! ### camletref39_Take: function 15 -/
mutual
def camletref39_Take.j0 : Nat → Int → Int → Int → Bool → Int → Int → Int → Int → Int → Option (Int × Int × Int × Int × Int × Bool)
  | 0, _, _, _, _, _, _, _, _, _ => none
  | k + 1, x0, x4, x8, x47, x139000, x139001, x139002, x139003, x139004 => if x47 = true then ((camletref39_bits.f x139000).bind fun t145 => ((camletref39_power.f k t145).bind fun t146 => (camletref39_Take.j1 k x0 x4 (wrap64 (x8 - t146)) x139000 x139001 x139002 x139003 x139004))) else (camletref39_Take.j1 k x0 x4 x8 x139000 x139001 x139002 x139003 x139004)
def camletref39_Take.j1 : Nat → Int → Int → Int → Int → Int → Int → Int → Int → Option (Int × Int × Int × Int × Int × Bool)
  | 0, _, _, _, _, _, _, _, _ => none
  | k + 1, x0, x4, x8, x139000, x139001, x139002, x139003, x139004 => if x139000 = 24 then (camletref39_Take.j2 k x0 x4 x8 true x139000 x139001 x139002 x139003 x139004) else ((camletref39_Has.f k x139000 x139001 x139002 x139003 x139004).bind fun t147 => ((camletref39_has.f k t147 78).bind fun t148 => (camletref39_Take.j2 k x0 x4 x8 t148 x139000 x139001 x139002 x139003 x139004)))
def camletref39_Take.j2 : Nat → Int → Int → Int → Bool → Int → Int → Int → Int → Int → Option (Int × Int × Int × Int × Int × Bool)
  | 0, _, _, _, _, _, _, _, _, _ => none
  | k + 1, x0, x4, x8, x61, x139000, x139001, x139002, x139003, x139004 => if x61 = true then (camletref39_Take.j3 k x0 x4 x139000 x139001 x139002 x139003 x8) else (camletref39_Take.j3 k x0 x4 x139000 x139001 x139002 x139003 x139004)
def camletref39_Take.j3 : Nat → Int → Int → Int → Int → Int → Int → Int → Option (Int × Int × Int × Int × Int × Bool)
  | 0, _, _, _, _, _, _, _ => none
  | k + 1, x0, x4, x139000, x139001, x139002, x139003, x139004 => (camletref39_Has.f k x139000 x139001 x139002 x139003 x139004).bind fun t149 => (camletref39_Take.l0 k x0 x4 21 t149 0 x139000 x139001 x139002 x139003 x139004)
def camletref39_Take.l0 : Nat → Int → Int → Int → ByteArray → Int → Int → Int → Int → Int → Int → Option (Int × Int × Int × Int × Int × Bool)
  | 0, _, _, _, _, _, _, _, _, _, _ => none
  | k + 1, x0, x4, x9, x10, x11, x139000, x139001, x139002, x139003, x139004 => if x11 < (x10.size : Int) then (if 0 ≤ x11 then (if (bt x10 x11) = 78 then (camletref39_Take.l0 k x0 x4 x9 x10 (wrap64 (x11 + 1)) x139000 x139001 x139002 x139003 x139004) else ((camletref39_power.f k x9).bind fun t152 => (if t152 = 0 then (none) else ((camletref39_set.f x139000 x139001 x139002 x139003 x139004 (bt x10 x11) (Int.tmod (wrap64 (Int.tdiv x4 t152)) 32)).bind fun bt153 => (camletref39_Take.l0 k x0 x4 (wrap64 (x9 - 5)) x10 (wrap64 (x11 + 1)) bt153.1 bt153.2.1 bt153.2.2.1 bt153.2.2.2.1 bt153.2.2.2.2))))) else (none)) else ((camletref39_Put.f k x139000 x139001 x139002 x139003 x139004).bind fun bt150 => (if bt150.2 = 0 then (if bt150.1 = x0 then (some (x139000, x139001, x139002, x139003, x139004, true)) else (some (0, 0, 0, 0, 0, false))) else (some (0, 0, 0, 0, 0, false))))
end
def camletref39_Take.f (k : Nat) (a0 : Int) : Option (Int × Int × Int × Int × Int × Bool) := (camletref39_power.f k 26).bind fun t137 => (if t137 = 0 then (none) else ((camletref39_name.f (wrap64 (Int.tdiv (wrap64 (a0)) t137))).bind fun t139 => (if t139.toList = ([] : List UInt8) then (some (0, 0, 0, 0, 0, false)) else ((camletref39_span.f k (wrap64 (Int.tdiv (wrap64 (a0)) t137))).bind fun bt140 => ((camletref39_bits.f (wrap64 (Int.tdiv (wrap64 (a0)) t137))).bind fun t142 => ((camletref39_power.f k t142).bind fun t143 => (if t143 = 0 then (none) else (if bt140.1 < 0 then ((camletref39_power.f k (wrap64 (t142 - 1))).bind fun t144 => (camletref39_Take.j0 k a0 (wrap64 (a0)) (Int.tmod (wrap64 (a0)) t143) (decide ((Int.tmod (wrap64 (a0)) t143) ≥ t144)) (wrap64 (Int.tdiv (wrap64 (a0)) t137)) 0 0 0 0)) else (camletref39_Take.j0 k a0 (wrap64 (a0)) (Int.tmod (wrap64 (a0)) t143) false (wrap64 (Int.tdiv (wrap64 (a0)) t137)) 0 0 0 0)))))))))
theorem camletref39_Take.mono_l : ∀ k, (∀ y0 y1 y2 y3 y4 y5 y6 y7 y8, LeO (camletref39_Take.j0 k y0 y1 y2 y3 y4 y5 y6 y7 y8) (camletref39_Take.j0 (k + 1) y0 y1 y2 y3 y4 y5 y6 y7 y8)) ∧ (∀ y0 y1 y2 y3 y4 y5 y6 y7, LeO (camletref39_Take.j1 k y0 y1 y2 y3 y4 y5 y6 y7) (camletref39_Take.j1 (k + 1) y0 y1 y2 y3 y4 y5 y6 y7)) ∧ (∀ y0 y1 y2 y3 y4 y5 y6 y7 y8, LeO (camletref39_Take.j2 k y0 y1 y2 y3 y4 y5 y6 y7 y8) (camletref39_Take.j2 (k + 1) y0 y1 y2 y3 y4 y5 y6 y7 y8)) ∧ (∀ y0 y1 y2 y3 y4 y5 y6, LeO (camletref39_Take.j3 k y0 y1 y2 y3 y4 y5 y6) (camletref39_Take.j3 (k + 1) y0 y1 y2 y3 y4 y5 y6)) ∧ (∀ y0 y1 y2 y3 y4 y5 y6 y7 y8 y9, LeO (camletref39_Take.l0 k y0 y1 y2 y3 y4 y5 y6 y7 y8 y9) (camletref39_Take.l0 (k + 1) y0 y1 y2 y3 y4 y5 y6 y7 y8 y9))
  | 0 => ⟨fun _ _ _ _ _ _ _ _ _ r h => by simp [camletref39_Take.j0] at h, fun _ _ _ _ _ _ _ _ r h => by simp [camletref39_Take.j1] at h, fun _ _ _ _ _ _ _ _ _ r h => by simp [camletref39_Take.j2] at h, fun _ _ _ _ _ _ _ r h => by simp [camletref39_Take.j3] at h, fun _ _ _ _ _ _ _ _ _ _ r h => by simp [camletref39_Take.l0] at h⟩
  | k + 1 => by
    obtain ⟨ih0, ih1, ih2, ih3, ih4⟩ := camletref39_Take.mono_l k
    refine ⟨?_, ?_, ?_, ?_, ?_⟩
    · intro y0 y1 y2 y3 y4 y5 y6 y7 y8
      unfold camletref39_Take.j0
      repeat' first
      | (with_reducible exact ih0 _ _ _ _ _ _ _ _ _)
      | (with_reducible exact ih1 _ _ _ _ _ _ _ _)
      | (with_reducible exact ih2 _ _ _ _ _ _ _ _ _)
      | (with_reducible exact ih3 _ _ _ _ _ _ _)
      | (with_reducible exact ih4 _ _ _ _ _ _ _ _ _ _)
      | (with_reducible exact camletref39_Has.mono _ _ _ _ _ _)
      | (with_reducible exact camletref39_Put.mono _ _ _ _ _ _)
      | (with_reducible exact camletref39_has.mono _ _ _)
      | (with_reducible exact camletref39_power.mono _ _)
      | (with_reducible exact camletref39_span.mono _ _)
      | (with_reducible exact LeO.refl _)
      | (with_reducible exact LeO.none _)
      | (with_reducible refine LeO.ite ?_ ?_)
      | (with_reducible refine LeO.bind ?_ (fun _ => ?_))
      | exact ih0 _ _ _ _ _ _ _ _ _
      | exact ih1 _ _ _ _ _ _ _ _
      | exact ih2 _ _ _ _ _ _ _ _ _
      | exact ih3 _ _ _ _ _ _ _
      | exact ih4 _ _ _ _ _ _ _ _ _ _
      | exact camletref39_Has.mono _ _ _ _ _ _
      | exact camletref39_Put.mono _ _ _ _ _ _
      | exact camletref39_has.mono _ _ _
      | exact camletref39_power.mono _ _
      | exact camletref39_span.mono _ _
      | exact LeO.none _
      | refine LeO.ite ?_ ?_
      | refine LeO.bind ?_ (fun _ => ?_)
    · intro y0 y1 y2 y3 y4 y5 y6 y7
      unfold camletref39_Take.j1
      repeat' first
      | (with_reducible exact ih0 _ _ _ _ _ _ _ _ _)
      | (with_reducible exact ih1 _ _ _ _ _ _ _ _)
      | (with_reducible exact ih2 _ _ _ _ _ _ _ _ _)
      | (with_reducible exact ih3 _ _ _ _ _ _ _)
      | (with_reducible exact ih4 _ _ _ _ _ _ _ _ _ _)
      | (with_reducible exact camletref39_Has.mono _ _ _ _ _ _)
      | (with_reducible exact camletref39_Put.mono _ _ _ _ _ _)
      | (with_reducible exact camletref39_has.mono _ _ _)
      | (with_reducible exact camletref39_power.mono _ _)
      | (with_reducible exact camletref39_span.mono _ _)
      | (with_reducible exact LeO.refl _)
      | (with_reducible exact LeO.none _)
      | (with_reducible refine LeO.ite ?_ ?_)
      | (with_reducible refine LeO.bind ?_ (fun _ => ?_))
      | exact ih0 _ _ _ _ _ _ _ _ _
      | exact ih1 _ _ _ _ _ _ _ _
      | exact ih2 _ _ _ _ _ _ _ _ _
      | exact ih3 _ _ _ _ _ _ _
      | exact ih4 _ _ _ _ _ _ _ _ _ _
      | exact camletref39_Has.mono _ _ _ _ _ _
      | exact camletref39_Put.mono _ _ _ _ _ _
      | exact camletref39_has.mono _ _ _
      | exact camletref39_power.mono _ _
      | exact camletref39_span.mono _ _
      | exact LeO.none _
      | refine LeO.ite ?_ ?_
      | refine LeO.bind ?_ (fun _ => ?_)
    · intro y0 y1 y2 y3 y4 y5 y6 y7 y8
      unfold camletref39_Take.j2
      repeat' first
      | (with_reducible exact ih0 _ _ _ _ _ _ _ _ _)
      | (with_reducible exact ih1 _ _ _ _ _ _ _ _)
      | (with_reducible exact ih2 _ _ _ _ _ _ _ _ _)
      | (with_reducible exact ih3 _ _ _ _ _ _ _)
      | (with_reducible exact ih4 _ _ _ _ _ _ _ _ _ _)
      | (with_reducible exact camletref39_Has.mono _ _ _ _ _ _)
      | (with_reducible exact camletref39_Put.mono _ _ _ _ _ _)
      | (with_reducible exact camletref39_has.mono _ _ _)
      | (with_reducible exact camletref39_power.mono _ _)
      | (with_reducible exact camletref39_span.mono _ _)
      | (with_reducible exact LeO.refl _)
      | (with_reducible exact LeO.none _)
      | (with_reducible refine LeO.ite ?_ ?_)
      | (with_reducible refine LeO.bind ?_ (fun _ => ?_))
      | exact ih0 _ _ _ _ _ _ _ _ _
      | exact ih1 _ _ _ _ _ _ _ _
      | exact ih2 _ _ _ _ _ _ _ _ _
      | exact ih3 _ _ _ _ _ _ _
      | exact ih4 _ _ _ _ _ _ _ _ _ _
      | exact camletref39_Has.mono _ _ _ _ _ _
      | exact camletref39_Put.mono _ _ _ _ _ _
      | exact camletref39_has.mono _ _ _
      | exact camletref39_power.mono _ _
      | exact camletref39_span.mono _ _
      | exact LeO.none _
      | refine LeO.ite ?_ ?_
      | refine LeO.bind ?_ (fun _ => ?_)
    · intro y0 y1 y2 y3 y4 y5 y6
      unfold camletref39_Take.j3
      repeat' first
      | (with_reducible exact ih0 _ _ _ _ _ _ _ _ _)
      | (with_reducible exact ih1 _ _ _ _ _ _ _ _)
      | (with_reducible exact ih2 _ _ _ _ _ _ _ _ _)
      | (with_reducible exact ih3 _ _ _ _ _ _ _)
      | (with_reducible exact ih4 _ _ _ _ _ _ _ _ _ _)
      | (with_reducible exact camletref39_Has.mono _ _ _ _ _ _)
      | (with_reducible exact camletref39_Put.mono _ _ _ _ _ _)
      | (with_reducible exact camletref39_has.mono _ _ _)
      | (with_reducible exact camletref39_power.mono _ _)
      | (with_reducible exact camletref39_span.mono _ _)
      | (with_reducible exact LeO.refl _)
      | (with_reducible exact LeO.none _)
      | (with_reducible refine LeO.ite ?_ ?_)
      | (with_reducible refine LeO.bind ?_ (fun _ => ?_))
      | exact ih0 _ _ _ _ _ _ _ _ _
      | exact ih1 _ _ _ _ _ _ _ _
      | exact ih2 _ _ _ _ _ _ _ _ _
      | exact ih3 _ _ _ _ _ _ _
      | exact ih4 _ _ _ _ _ _ _ _ _ _
      | exact camletref39_Has.mono _ _ _ _ _ _
      | exact camletref39_Put.mono _ _ _ _ _ _
      | exact camletref39_has.mono _ _ _
      | exact camletref39_power.mono _ _
      | exact camletref39_span.mono _ _
      | exact LeO.none _
      | refine LeO.ite ?_ ?_
      | refine LeO.bind ?_ (fun _ => ?_)
    · intro y0 y1 y2 y3 y4 y5 y6 y7 y8 y9
      unfold camletref39_Take.l0
      repeat' first
      | (with_reducible exact ih0 _ _ _ _ _ _ _ _ _)
      | (with_reducible exact ih1 _ _ _ _ _ _ _ _)
      | (with_reducible exact ih2 _ _ _ _ _ _ _ _ _)
      | (with_reducible exact ih3 _ _ _ _ _ _ _)
      | (with_reducible exact ih4 _ _ _ _ _ _ _ _ _ _)
      | (with_reducible exact camletref39_Has.mono _ _ _ _ _ _)
      | (with_reducible exact camletref39_Put.mono _ _ _ _ _ _)
      | (with_reducible exact camletref39_has.mono _ _ _)
      | (with_reducible exact camletref39_power.mono _ _)
      | (with_reducible exact camletref39_span.mono _ _)
      | (with_reducible exact LeO.refl _)
      | (with_reducible exact LeO.none _)
      | (with_reducible refine LeO.ite ?_ ?_)
      | (with_reducible refine LeO.bind ?_ (fun _ => ?_))
      | exact ih0 _ _ _ _ _ _ _ _ _
      | exact ih1 _ _ _ _ _ _ _ _
      | exact ih2 _ _ _ _ _ _ _ _ _
      | exact ih3 _ _ _ _ _ _ _
      | exact ih4 _ _ _ _ _ _ _ _ _ _
      | exact camletref39_Has.mono _ _ _ _ _ _
      | exact camletref39_Put.mono _ _ _ _ _ _
      | exact camletref39_has.mono _ _ _
      | exact camletref39_power.mono _ _
      | exact camletref39_span.mono _ _
      | exact LeO.none _
      | refine LeO.ite ?_ ?_
      | refine LeO.bind ?_ (fun _ => ?_)
theorem camletref39_Take.mono : ∀ a0 k, LeO (camletref39_Take.f k a0) (camletref39_Take.f (k + 1) a0) := by
  intro a0 k
  obtain ⟨ih0, ih1, ih2, ih3, ih4⟩ := camletref39_Take.mono_l k
  unfold camletref39_Take.f
  repeat' first
      | (with_reducible exact ih0 _ _ _ _ _ _ _ _ _)
      | (with_reducible exact ih1 _ _ _ _ _ _ _ _)
      | (with_reducible exact ih2 _ _ _ _ _ _ _ _ _)
      | (with_reducible exact ih3 _ _ _ _ _ _ _)
      | (with_reducible exact ih4 _ _ _ _ _ _ _ _ _ _)
      | (with_reducible exact camletref39_Has.mono _ _ _ _ _ _)
      | (with_reducible exact camletref39_Put.mono _ _ _ _ _ _)
      | (with_reducible exact camletref39_has.mono _ _ _)
      | (with_reducible exact camletref39_power.mono _ _)
      | (with_reducible exact camletref39_span.mono _ _)
      | (with_reducible exact LeO.refl _)
      | (with_reducible exact LeO.none _)
      | (with_reducible refine LeO.ite ?_ ?_)
      | (with_reducible refine LeO.bind ?_ (fun _ => ?_))
      | exact ih0 _ _ _ _ _ _ _ _ _
      | exact ih1 _ _ _ _ _ _ _ _
      | exact ih2 _ _ _ _ _ _ _ _ _
      | exact ih3 _ _ _ _ _ _ _
      | exact ih4 _ _ _ _ _ _ _ _ _ _
      | exact camletref39_Has.mono _ _ _ _ _ _
      | exact camletref39_Put.mono _ _ _ _ _ _
      | exact camletref39_has.mono _ _ _
      | exact camletref39_power.mono _ _
      | exact camletref39_span.mono _ _
      | exact LeO.none _
      | refine LeO.ite ?_ ?_
      | refine LeO.bind ?_ (fun _ => ?_)
def camletref39_Take.T17 : Bool × List (List Nat × List Nat) := (true, [([], []), ([], []), ([], []), ([1, 2], [1, 2]), ([], []), ([], []), ([5], [5]), ([4, 6], [4, 6]), ([7], [7]), ([0, 3, 8, 6], [0, 3, 8]), ([9, 9, 0, 1, 2, 3, 4, 5, 6, 7, 8, 9], [9])])
def camletref39_Take.B17 : List Nat := [0, 0, 0, 6, 0, 0, 32, 112, 240, 511, 1023]
theorem camletref39_Take.tab17 : rtab .any (opsOf Tryd.f15 17) = camletref39_Take.T17 := by kernel_rfl
theorem camletref39_Take.bits17 : waitsOk camletref39_Take.T17.2 camletref39_Take.B17 = true := by kernel_rfl
set_option maxHeartbeats 8000000 in
set_option maxRecDepth 100000 in
theorem camletref39_Take.calls (k : Nat) (a0 : Int) (r1 : Int) (r2 : Int) (r3 : Int) (r4 : Int) (r5 : Int) (r6 : Bool) (w : World) (h : camletref39_Take.f k a0 = some (r1, r2, r3, r4, r5, r6)) :
    Calls Tryd.prog 15 #[.int .u32 a0] w fun e w' => e = .returned (.tuple #[.agg #[.int .i64 r1, .int .i64 r2, .int .i64 r3, .int .i64 r4, .int .i64 r5], .bool r6]) ∧ Below w.heap.size w w' := by
  have hu24 := Tryd.underlying24
  have HB := Aside0.mk (Below.refl w.heap.size w)
  have H : ((camletref39_power.f k 26).bind fun t137 => (if t137 = 0 then (none) else ((camletref39_name.f (wrap64 (Int.tdiv (wrap64 (a0)) t137))).bind fun t139 => (if t139.toList = ([] : List UInt8) then (some (0, 0, 0, 0, 0, false)) else ((camletref39_span.f k (wrap64 (Int.tdiv (wrap64 (a0)) t137))).bind fun bt140 => ((camletref39_bits.f (wrap64 (Int.tdiv (wrap64 (a0)) t137))).bind fun t142 => ((camletref39_power.f k t142).bind fun t143 => (if t143 = 0 then (none) else (if bt140.1 < 0 then ((camletref39_power.f k (wrap64 (t142 - 1))).bind fun t144 => (camletref39_Take.j0 k a0 (wrap64 (a0)) (Int.tmod (wrap64 (a0)) t143) (decide ((Int.tmod (wrap64 (a0)) t143) ≥ t144)) (wrap64 (Int.tdiv (wrap64 (a0)) t137)) 0 0 0 0)) else (camletref39_Take.j0 k a0 (wrap64 (a0)) (Int.tmod (wrap64 (a0)) t143) false (wrap64 (Int.tdiv (wrap64 (a0)) t137)) 0 0 0 0)))))))))) = some (r1, r2, r3, r4, r5, r6) := h
  clear h
  replace H := Option.bind_eq_some_iff.mp H
  obtain ⟨t137, A20, H⟩ := H
  replace H : (if t137 = 0 then (none) else ((camletref39_name.f (wrap64 (Int.tdiv (wrap64 (a0)) t137))).bind fun t139 => (if t139.toList = ([] : List UInt8) then (some (0, 0, 0, 0, 0, false)) else ((camletref39_span.f k (wrap64 (Int.tdiv (wrap64 (a0)) t137))).bind fun bt140 => ((camletref39_bits.f (wrap64 (Int.tdiv (wrap64 (a0)) t137))).bind fun t142 => ((camletref39_power.f k t142).bind fun t143 => (if t143 = 0 then (none) else (if bt140.1 < 0 then ((camletref39_power.f k (wrap64 (t142 - 1))).bind fun t144 => (camletref39_Take.j0 k a0 (wrap64 (a0)) (Int.tmod (wrap64 (a0)) t143) (decide ((Int.tmod (wrap64 (a0)) t143) ≥ t144)) (wrap64 (Int.tdiv (wrap64 (a0)) t137)) 0 0 0 0)) else (camletref39_Take.j0 k a0 (wrap64 (a0)) (Int.tmod (wrap64 (a0)) t143) false (wrap64 (Int.tdiv (wrap64 (a0)) t137)) 0 0 0 0))))))))) = some (r1, r2, r3, r4, r5, r6) := H
  have A2 := Aside0.mk A20
  clear A20
  by_cases c3 : t137 = 0
  · rw [if_pos c3] at H
    exact absurd H (by simp)
  · rw [if_neg c3] at H
    have c3b0 : (t137 == 0) = false := beq_eq_false_iff_ne.mpr c3
    have c3b1 : (t137 != 0) = true := bne_iff_ne.mpr c3
    replace H := Option.bind_eq_some_iff.mp H
    obtain ⟨t139, A40, H⟩ := H
    replace H : (if t139.toList = ([] : List UInt8) then (some (0, 0, 0, 0, 0, false)) else ((camletref39_span.f k (wrap64 (Int.tdiv (wrap64 (a0)) t137))).bind fun bt140 => ((camletref39_bits.f (wrap64 (Int.tdiv (wrap64 (a0)) t137))).bind fun t142 => ((camletref39_power.f k t142).bind fun t143 => (if t143 = 0 then (none) else (if bt140.1 < 0 then ((camletref39_power.f k (wrap64 (t142 - 1))).bind fun t144 => (camletref39_Take.j0 k a0 (wrap64 (a0)) (Int.tmod (wrap64 (a0)) t143) (decide ((Int.tmod (wrap64 (a0)) t143) ≥ t144)) (wrap64 (Int.tdiv (wrap64 (a0)) t137)) 0 0 0 0)) else (camletref39_Take.j0 k a0 (wrap64 (a0)) (Int.tmod (wrap64 (a0)) t143) false (wrap64 (Int.tdiv (wrap64 (a0)) t137)) 0 0 0 0))))))) = some (r1, r2, r3, r4, r5, r6) := H
    have A4 := Aside0.mk A40
    clear A40
    by_cases c5 : t139.toList = ([] : List UInt8)
    · rw [if_pos c5] at H
      have c5b0 : (t139.toList == ([] : List UInt8)) = true := beq_iff_eq.mpr c5
      have c5b1 : (t139.toList != ([] : List UInt8)) = false := bne_eq_false_iff_eq.mpr c5
      clear c5
      simp only [Option.some.injEq, Prod.mk.injEq] at H
      obtain ⟨rfl, rfl, rfl, rfl, rfl, rfl⟩ := H
      go_enter Tryd.func15, Tryd.ntmps15
      go_wp2_with (first | ((with_reducible refine gate_dst (N := 2) rfl ?_); refine box_event ?hg (N := 2) ?hd (cs := #[.int .i64 0, .int .i64 0, .int .i64 0, .int .i64 0, .int .i64 0]) (t := 24) ?hr ?_; (case hd => rfl); (case hg => rfl); (case hr => first | (go_simp; done) | (go_simp; rfl)); intro gb136 hg w6 hbox hb; have n0_ := Aside0.mk (below_step (by repeat (first | (with_reducible first | exact HB.out | apply below_alloc | apply pw_below_drewN | apply below_drew1) | exact HB.out)) hb); have n1_ := Aside0.mk (hbox); have n2_ := Aside0.mk ((by rw [hg]; exact (below_size (by repeat (first | (with_reducible first | exact HB.out | apply below_alloc | apply pw_below_drewN | apply below_drew1) | exact HB.out))) : w.heap.size ≤ gb136)); have n3_ := Aside0.mk ((by rw [hg]; exact (below_size (by repeat (first | (with_reducible first | exact HB.out | apply below_alloc | apply pw_below_drewN | apply below_drew1) | exact HB.out))) : w.heap.size ≤ gb136)); clear HB; have HB := n0_; have BK136 := n1_; have GW136 := n2_; have GE136 := n3_; clear n0_ n1_ n2_ n3_; clear hb hbox hg) | (go_at_call 22; (with_reducible refine (camletref39_power.calls k 26 t137 _ A2.out).mono ?_); rintro e w' ⟨rfl, ⟨nd, rfl⟩⟩; (try (rw [drewN_self w6]; generalize hq_ : World.drewN w6 _ = w6; have n0_ : Aside0 (w6.heap[gb136]? = some (.cells #[.int .i64 0, .int .i64 0, .int .i64 0, .int .i64 0, .int .i64 0] 24 (0, 0))) := ⟨by rw [← hq_]; exact (by (with_reducible repeat (first | refine blk_drewN ?_ _ | refine blk_drew ?_ | refine blk_alloc ?_ _)); exact BK136.out)⟩; have n1_ : Aside0 (Below w.heap.size w w6) := ⟨by rw [← hq_]; exact (by repeat (first | (with_reducible first | exact HB.out | apply below_alloc | apply pw_below_drewN | apply below_drew1 | refine below_set ?_ GE136.out) | exact HB.out))⟩; clear BK136 HB hq_; have BK136 := n0_; have HB := n1_; clear n0_ n1_))) | ((with_reducible refine gate_dst (N := 5) rfl ?_); refine box_event ?hg (N := 5) ?hd (cs := #[.int .i64 0, .int .i64 0, .int .i64 0, .int .i64 0, .int .i64 0]) (t := 24) ?hr ?_; (case hd => rfl); (case hg => rfl); (case hr => first | (go_simp; done) | (go_simp; rfl)); intro gb138 hg w7 hbox hb; have n0_ := Aside0.mk (blk_below (g := gb136) (o := .cells #[.int .i64 0, .int .i64 0, .int .i64 0, .int .i64 0, .int .i64 0] 24 (0, 0)) (by (with_reducible repeat (first | refine blk_drewN ?_ _ | refine blk_drew ?_ | refine blk_alloc ?_ _)); exact BK136.out) hb); have n1_ := Aside0.mk (below_step (by repeat (first | (with_reducible first | exact HB.out | apply below_alloc | apply pw_below_drewN | apply below_drew1 | refine below_set ?_ GE136.out) | exact HB.out)) hb); have n2_ := Aside0.mk (hbox); have n3_ := Aside0.mk ((by rw [hg]; exact (below_size (by repeat (first | (with_reducible first | exact HB.out | apply below_alloc | apply pw_below_drewN | apply below_drew1 | refine below_set ?_ GE136.out) | exact HB.out))) : w.heap.size ≤ gb138)); have n4_ := Aside0.mk ((by rw [hg]; exact (below_size (by repeat (first | (with_reducible first | exact HB.out | apply below_alloc | apply pw_below_drewN | apply below_drew1 | refine below_set ?_ GE136.out) | exact HB.out))) : w.heap.size ≤ gb138)); have n5_ := Aside0.mk ((by rw [hg]; exact Nat.ne_of_lt (blk_lt (g := gb136) (o := .cells #[.int .i64 0, .int .i64 0, .int .i64 0, .int .i64 0, .int .i64 0] 24 (0, 0)) (by (with_reducible repeat (first | refine blk_drewN ?_ _ | refine blk_drew ?_ | refine blk_alloc ?_ _)); exact BK136.out)) : gb136 ≠ gb138)); have n6_ := Aside0.mk ((by rw [hg]; exact Nat.ne_of_gt (blk_lt (g := gb136) (o := .cells #[.int .i64 0, .int .i64 0, .int .i64 0, .int .i64 0, .int .i64 0] 24 (0, 0)) (by (with_reducible repeat (first | refine blk_drewN ?_ _ | refine blk_drew ?_ | refine blk_alloc ?_ _)); exact BK136.out)) : gb138 ≠ gb136)); clear BK136; clear HB; have BK136 := n0_; have HB := n1_; have BK138 := n2_; have GW138 := n3_; have GE138 := n4_; have NB136_138 := n5_; have NB138_136 := n6_; clear n0_ n1_ n2_ n3_ n4_ n5_ n6_; clear hb hbox hg; have hnb8 := NB138_136.out; have hnc8 := NB136_138.out; have hcz9_0 : w7.cell? ⟨gb138, 0, none⟩ = some (.int .i64 0) := (blk_cell BK138.out 0).trans rfl; have hcz9_1 : w7.cell? ⟨gb138, 1, none⟩ = some (.int .i64 0) := (blk_cell BK138.out 1).trans rfl; have hcz9_2 : w7.cell? ⟨gb138, 2, none⟩ = some (.int .i64 0) := (blk_cell BK138.out 2).trans rfl; have hcz9_3 : w7.cell? ⟨gb138, 3, none⟩ = some (.int .i64 0) := (blk_cell BK138.out 3).trans rfl; have hcz9_4 : w7.cell? ⟨gb138, 4, none⟩ = some (.int .i64 0) := (blk_cell BK138.out 4).trans rfl; have hfz9_0 := blk_frozen BK138.out 0; have hfz9_1 := blk_frozen BK138.out 1; have hfz9_2 := blk_frozen BK138.out 2; have hfz9_3 := blk_frozen BK138.out 3; have hfz9_4 := blk_frozen BK138.out 4) | (go_at_call 26; (with_reducible refine (camletref39_name.calls (wrap64 (Int.tdiv (wrap64 (a0)) t137)) t139 _ A4.out).mono ?_); rintro e w10 ⟨rfl, hb⟩; have n0_ := Aside0.mk (blk_below (g := gb136) (o := .cells #[.int .i64 0, .int .i64 0, .int .i64 0, .int .i64 0, .int .i64 0] 24 (0, 0)) (by (with_reducible repeat (first | refine blk_drewN ?_ _ | refine blk_drew ?_ | refine blk_alloc ?_ _)); refine blk_far ?_ NB136_138.out _; (with_reducible repeat (first | refine blk_drewN ?_ _ | refine blk_drew ?_ | refine blk_alloc ?_ _)); refine blk_far ?_ NB136_138.out _; (with_reducible repeat (first | refine blk_drewN ?_ _ | refine blk_drew ?_ | refine blk_alloc ?_ _)); refine blk_far ?_ NB136_138.out _; (with_reducible repeat (first | refine blk_drewN ?_ _ | refine blk_drew ?_ | refine blk_alloc ?_ _)); refine blk_far ?_ NB136_138.out _; (with_reducible repeat (first | refine blk_drewN ?_ _ | refine blk_drew ?_ | refine blk_alloc ?_ _)); refine blk_far ?_ NB136_138.out _; (with_reducible repeat (first | refine blk_drewN ?_ _ | refine blk_drew ?_ | refine blk_alloc ?_ _)); exact BK136.out) hb); have n1_ := Aside0.mk (blk_below (g := gb138) (o := .cells #[.int .i64 (wrap64 (Int.tdiv (wrap64 (a0)) t137)), .int .i64 0, .int .i64 0, .int .i64 0, .int .i64 0] 24 (0, 0)) (by (with_reducible repeat (first | refine blk_drewN ?_ _ | refine blk_drew ?_ | refine blk_alloc ?_ _)); refine blk_put (cs := #[.int .i64 (wrap64 (Int.tdiv (wrap64 (a0)) t137)), .int .i64 0, .int .i64 0, .int .i64 0, .int .i64 0]) ?_ 4 _ rfl; (with_reducible repeat (first | refine blk_drewN ?_ _ | refine blk_drew ?_ | refine blk_alloc ?_ _)); refine blk_put (cs := #[.int .i64 (wrap64 (Int.tdiv (wrap64 (a0)) t137)), .int .i64 0, .int .i64 0, .int .i64 0, .int .i64 0]) ?_ 3 _ rfl; (with_reducible repeat (first | refine blk_drewN ?_ _ | refine blk_drew ?_ | refine blk_alloc ?_ _)); refine blk_put (cs := #[.int .i64 (wrap64 (Int.tdiv (wrap64 (a0)) t137)), .int .i64 0, .int .i64 0, .int .i64 0, .int .i64 0]) ?_ 2 _ rfl; (with_reducible repeat (first | refine blk_drewN ?_ _ | refine blk_drew ?_ | refine blk_alloc ?_ _)); refine blk_put (cs := #[.int .i64 (wrap64 (Int.tdiv (wrap64 (a0)) t137)), .int .i64 0, .int .i64 0, .int .i64 0, .int .i64 0]) ?_ 1 _ rfl; (with_reducible repeat (first | refine blk_drewN ?_ _ | refine blk_drew ?_ | refine blk_alloc ?_ _)); refine blk_put (cs := #[.int .i64 0, .int .i64 0, .int .i64 0, .int .i64 0, .int .i64 0]) ?_ 0 _ rfl; (with_reducible repeat (first | refine blk_drewN ?_ _ | refine blk_drew ?_ | refine blk_alloc ?_ _)); exact BK138.out) hb); have n2_ := Aside0.mk (below_step (by repeat (first | (with_reducible first | exact HB.out | apply below_alloc | apply pw_below_drewN | apply below_drew1 | refine below_set ?_ GE136.out | refine below_set ?_ GE138.out) | exact HB.out)) hb); clear BK136; clear BK138; clear HB; have BK136 := n0_; have BK138 := n1_; have HB := n2_; clear n0_ n1_ n2_; (try clear hb); (try clear hb2); (try clear hk); (try clear hi); have hcz11_0 : w10.cell? ⟨gb136, 0, none⟩ = some (.int .i64 0) := (blk_cell BK136.out 0).trans rfl; have hcz11_1 : w10.cell? ⟨gb136, 1, none⟩ = some (.int .i64 0) := (blk_cell BK136.out 1).trans rfl; have hcz11_2 : w10.cell? ⟨gb136, 2, none⟩ = some (.int .i64 0) := (blk_cell BK136.out 2).trans rfl; have hcz11_3 : w10.cell? ⟨gb136, 3, none⟩ = some (.int .i64 0) := (blk_cell BK136.out 3).trans rfl; have hcz11_4 : w10.cell? ⟨gb136, 4, none⟩ = some (.int .i64 0) := (blk_cell BK136.out 4).trans rfl; have hfz11_0 := blk_frozen BK136.out 0; have hfz11_1 := blk_frozen BK136.out 1; have hfz11_2 := blk_frozen BK136.out 2; have hfz11_3 := blk_frozen BK136.out 3; have hfz11_4 := blk_frozen BK136.out 4))
      refine bodyPost_ret (results_ct rfl _ _ gb136 24 #[.int .i64 0, .int .i64 0, .int .i64 0, .int .i64 0, .int .i64 0] (0, 0) _ rfl (by (with_reducible repeat (first | refine blk_drewN ?_ _ | refine blk_drew ?_ | refine blk_alloc ?_ _)); refine blk_put (cs := #[.int .i64 0, .int .i64 0, .int .i64 0, .int .i64 0, .int .i64 0]) ?_ 4 _ rfl; (with_reducible repeat (first | refine blk_drewN ?_ _ | refine blk_drew ?_ | refine blk_alloc ?_ _)); refine blk_put (cs := #[.int .i64 0, .int .i64 0, .int .i64 0, .int .i64 0, .int .i64 0]) ?_ 3 _ rfl; (with_reducible repeat (first | refine blk_drewN ?_ _ | refine blk_drew ?_ | refine blk_alloc ?_ _)); refine blk_put (cs := #[.int .i64 0, .int .i64 0, .int .i64 0, .int .i64 0, .int .i64 0]) ?_ 2 _ rfl; (with_reducible repeat (first | refine blk_drewN ?_ _ | refine blk_drew ?_ | refine blk_alloc ?_ _)); refine blk_put (cs := #[.int .i64 0, .int .i64 0, .int .i64 0, .int .i64 0, .int .i64 0]) ?_ 1 _ rfl; (with_reducible repeat (first | refine blk_drewN ?_ _ | refine blk_drew ?_ | refine blk_alloc ?_ _)); refine blk_put (cs := #[.int .i64 0, .int .i64 0, .int .i64 0, .int .i64 0, .int .i64 0]) ?_ 0 _ rfl; (with_reducible repeat (first | refine blk_drewN ?_ _ | refine blk_drew ?_ | refine blk_alloc ?_ _)); exact BK136.out) Tryd.underlying24 rfl (by kernel_rfl)) rfl ?_
      exact ⟨by first | rfl | (simp [errW_none, errW_some] <;> rfl) | (simp [*, errW_none, errW_some] <;> rfl), by repeat (first | (with_reducible first | exact HB.out | apply below_alloc | apply pw_below_drewN | apply below_drew1 | refine below_set ?_ GE136.out | refine below_set ?_ GE138.out) | exact HB.out)⟩
    · rw [if_neg c5] at H
      have c5b0 : (t139.toList == ([] : List UInt8)) = false := beq_eq_false_iff_ne.mpr c5
      have c5b1 : (t139.toList != ([] : List UInt8)) = true := bne_iff_ne.mpr c5
      replace H := Option.bind_eq_some_iff.mp H
      obtain ⟨⟨t140, t141⟩, A120, H⟩ := H
      replace H : ((camletref39_bits.f (wrap64 (Int.tdiv (wrap64 (a0)) t137))).bind fun t142 => ((camletref39_power.f k t142).bind fun t143 => (if t143 = 0 then (none) else (if t140 < 0 then ((camletref39_power.f k (wrap64 (t142 - 1))).bind fun t144 => (camletref39_Take.j0 k a0 (wrap64 (a0)) (Int.tmod (wrap64 (a0)) t143) (decide ((Int.tmod (wrap64 (a0)) t143) ≥ t144)) (wrap64 (Int.tdiv (wrap64 (a0)) t137)) 0 0 0 0)) else (camletref39_Take.j0 k a0 (wrap64 (a0)) (Int.tmod (wrap64 (a0)) t143) false (wrap64 (Int.tdiv (wrap64 (a0)) t137)) 0 0 0 0))))) = some (r1, r2, r3, r4, r5, r6) := H
      have A12 := Aside0.mk A120
      clear A120
      replace H := Option.bind_eq_some_iff.mp H
      obtain ⟨t142, A130, H⟩ := H
      replace H : ((camletref39_power.f k t142).bind fun t143 => (if t143 = 0 then (none) else (if t140 < 0 then ((camletref39_power.f k (wrap64 (t142 - 1))).bind fun t144 => (camletref39_Take.j0 k a0 (wrap64 (a0)) (Int.tmod (wrap64 (a0)) t143) (decide ((Int.tmod (wrap64 (a0)) t143) ≥ t144)) (wrap64 (Int.tdiv (wrap64 (a0)) t137)) 0 0 0 0)) else (camletref39_Take.j0 k a0 (wrap64 (a0)) (Int.tmod (wrap64 (a0)) t143) false (wrap64 (Int.tdiv (wrap64 (a0)) t137)) 0 0 0 0)))) = some (r1, r2, r3, r4, r5, r6) := H
      have A13 := Aside0.mk A130
      clear A130
      replace H := Option.bind_eq_some_iff.mp H
      obtain ⟨t143, A140, H⟩ := H
      replace H : (if t143 = 0 then (none) else (if t140 < 0 then ((camletref39_power.f k (wrap64 (t142 - 1))).bind fun t144 => (camletref39_Take.j0 k a0 (wrap64 (a0)) (Int.tmod (wrap64 (a0)) t143) (decide ((Int.tmod (wrap64 (a0)) t143) ≥ t144)) (wrap64 (Int.tdiv (wrap64 (a0)) t137)) 0 0 0 0)) else (camletref39_Take.j0 k a0 (wrap64 (a0)) (Int.tmod (wrap64 (a0)) t143) false (wrap64 (Int.tdiv (wrap64 (a0)) t137)) 0 0 0 0))) = some (r1, r2, r3, r4, r5, r6) := H
      have A14 := Aside0.mk A140
      clear A140
      by_cases c15 : t143 = 0
      · rw [if_pos c15] at H
        exact absurd H (by simp)
      · rw [if_neg c15] at H
        have c15b0 : (t143 == 0) = false := beq_eq_false_iff_ne.mpr c15
        have c15b1 : (t143 != 0) = true := bne_iff_ne.mpr c15
        have HC16 := Aside0.mk H
        clear H
        go_enter Tryd.func15, Tryd.ntmps15
        go_upto_region 7 with (first | ((with_reducible refine gate_dst (N := 2) rfl ?_); refine box_event ?hg (N := 2) ?hd (cs := #[.int .i64 0, .int .i64 0, .int .i64 0, .int .i64 0, .int .i64 0]) (t := 24) ?hr ?_; (case hd => rfl); (case hg => rfl); (case hr => first | (go_simp; done) | (go_simp; rfl)); intro gb136 hg w17 hbox hb; have n0_ := Aside0.mk (below_step (by repeat (first | (with_reducible first | exact HB.out | apply below_alloc | apply pw_below_drewN | apply below_drew1) | exact HB.out)) hb); have n1_ := Aside0.mk (hbox); have n2_ := Aside0.mk ((by rw [hg]; exact (below_size (by repeat (first | (with_reducible first | exact HB.out | apply below_alloc | apply pw_below_drewN | apply below_drew1) | exact HB.out))) : w.heap.size ≤ gb136)); have n3_ := Aside0.mk ((by rw [hg]; exact (below_size (by repeat (first | (with_reducible first | exact HB.out | apply below_alloc | apply pw_below_drewN | apply below_drew1) | exact HB.out))) : w.heap.size ≤ gb136)); clear HB; have HB := n0_; have BK136 := n1_; have GW136 := n2_; have GE136 := n3_; clear n0_ n1_ n2_ n3_; clear hb hbox hg) | (go_at_call 22; (with_reducible refine (camletref39_power.calls k 26 t137 _ A2.out).mono ?_); rintro e w' ⟨rfl, ⟨nd, rfl⟩⟩; (try (rw [drewN_self w17]; generalize hq_ : World.drewN w17 _ = w17; have n0_ : Aside0 (w17.heap[gb136]? = some (.cells #[.int .i64 0, .int .i64 0, .int .i64 0, .int .i64 0, .int .i64 0] 24 (0, 0))) := ⟨by rw [← hq_]; exact (by (with_reducible repeat (first | refine blk_drewN ?_ _ | refine blk_drew ?_ | refine blk_alloc ?_ _)); exact BK136.out)⟩; have n1_ : Aside0 (Below w.heap.size w w17) := ⟨by rw [← hq_]; exact (by repeat (first | (with_reducible first | exact HB.out | apply below_alloc | apply pw_below_drewN | apply below_drew1 | refine below_set ?_ GE136.out) | exact HB.out))⟩; clear BK136 HB hq_; have BK136 := n0_; have HB := n1_; clear n0_ n1_))) | ((with_reducible refine gate_dst (N := 5) rfl ?_); refine box_event ?hg (N := 5) ?hd (cs := #[.int .i64 0, .int .i64 0, .int .i64 0, .int .i64 0, .int .i64 0]) (t := 24) ?hr ?_; (case hd => rfl); (case hg => rfl); (case hr => first | (go_simp; done) | (go_simp; rfl)); intro gb138 hg w18 hbox hb; have n0_ := Aside0.mk (blk_below (g := gb136) (o := .cells #[.int .i64 0, .int .i64 0, .int .i64 0, .int .i64 0, .int .i64 0] 24 (0, 0)) (by (with_reducible repeat (first | refine blk_drewN ?_ _ | refine blk_drew ?_ | refine blk_alloc ?_ _)); exact BK136.out) hb); have n1_ := Aside0.mk (below_step (by repeat (first | (with_reducible first | exact HB.out | apply below_alloc | apply pw_below_drewN | apply below_drew1 | refine below_set ?_ GE136.out) | exact HB.out)) hb); have n2_ := Aside0.mk (hbox); have n3_ := Aside0.mk ((by rw [hg]; exact (below_size (by repeat (first | (with_reducible first | exact HB.out | apply below_alloc | apply pw_below_drewN | apply below_drew1 | refine below_set ?_ GE136.out) | exact HB.out))) : w.heap.size ≤ gb138)); have n4_ := Aside0.mk ((by rw [hg]; exact (below_size (by repeat (first | (with_reducible first | exact HB.out | apply below_alloc | apply pw_below_drewN | apply below_drew1 | refine below_set ?_ GE136.out) | exact HB.out))) : w.heap.size ≤ gb138)); have n5_ := Aside0.mk ((by rw [hg]; exact Nat.ne_of_lt (blk_lt (g := gb136) (o := .cells #[.int .i64 0, .int .i64 0, .int .i64 0, .int .i64 0, .int .i64 0] 24 (0, 0)) (by (with_reducible repeat (first | refine blk_drewN ?_ _ | refine blk_drew ?_ | refine blk_alloc ?_ _)); exact BK136.out)) : gb136 ≠ gb138)); have n6_ := Aside0.mk ((by rw [hg]; exact Nat.ne_of_gt (blk_lt (g := gb136) (o := .cells #[.int .i64 0, .int .i64 0, .int .i64 0, .int .i64 0, .int .i64 0] 24 (0, 0)) (by (with_reducible repeat (first | refine blk_drewN ?_ _ | refine blk_drew ?_ | refine blk_alloc ?_ _)); exact BK136.out)) : gb138 ≠ gb136)); clear BK136; clear HB; have BK136 := n0_; have HB := n1_; have BK138 := n2_; have GW138 := n3_; have GE138 := n4_; have NB136_138 := n5_; have NB138_136 := n6_; clear n0_ n1_ n2_ n3_ n4_ n5_ n6_; clear hb hbox hg; have hnb19 := NB138_136.out; have hnc19 := NB136_138.out; have hcz20_0 : w18.cell? ⟨gb138, 0, none⟩ = some (.int .i64 0) := (blk_cell BK138.out 0).trans rfl; have hcz20_1 : w18.cell? ⟨gb138, 1, none⟩ = some (.int .i64 0) := (blk_cell BK138.out 1).trans rfl; have hcz20_2 : w18.cell? ⟨gb138, 2, none⟩ = some (.int .i64 0) := (blk_cell BK138.out 2).trans rfl; have hcz20_3 : w18.cell? ⟨gb138, 3, none⟩ = some (.int .i64 0) := (blk_cell BK138.out 3).trans rfl; have hcz20_4 : w18.cell? ⟨gb138, 4, none⟩ = some (.int .i64 0) := (blk_cell BK138.out 4).trans rfl; have hfz20_0 := blk_frozen BK138.out 0; have hfz20_1 := blk_frozen BK138.out 1; have hfz20_2 := blk_frozen BK138.out 2; have hfz20_3 := blk_frozen BK138.out 3; have hfz20_4 := blk_frozen BK138.out 4) | (go_at_call 26; (with_reducible refine (camletref39_name.calls (wrap64 (Int.tdiv (wrap64 (a0)) t137)) t139 _ A4.out).mono ?_); rintro e w21 ⟨rfl, hb⟩; have n0_ := Aside0.mk (blk_below (g := gb136) (o := .cells #[.int .i64 0, .int .i64 0, .int .i64 0, .int .i64 0, .int .i64 0] 24 (0, 0)) (by (with_reducible repeat (first | refine blk_drewN ?_ _ | refine blk_drew ?_ | refine blk_alloc ?_ _)); refine blk_far ?_ NB136_138.out _; (with_reducible repeat (first | refine blk_drewN ?_ _ | refine blk_drew ?_ | refine blk_alloc ?_ _)); refine blk_far ?_ NB136_138.out _; (with_reducible repeat (first | refine blk_drewN ?_ _ | refine blk_drew ?_ | refine blk_alloc ?_ _)); refine blk_far ?_ NB136_138.out _; (with_reducible repeat (first | refine blk_drewN ?_ _ | refine blk_drew ?_ | refine blk_alloc ?_ _)); refine blk_far ?_ NB136_138.out _; (with_reducible repeat (first | refine blk_drewN ?_ _ | refine blk_drew ?_ | refine blk_alloc ?_ _)); refine blk_far ?_ NB136_138.out _; (with_reducible repeat (first | refine blk_drewN ?_ _ | refine blk_drew ?_ | refine blk_alloc ?_ _)); exact BK136.out) hb); have n1_ := Aside0.mk (blk_below (g := gb138) (o := .cells #[.int .i64 (wrap64 (Int.tdiv (wrap64 (a0)) t137)), .int .i64 0, .int .i64 0, .int .i64 0, .int .i64 0] 24 (0, 0)) (by (with_reducible repeat (first | refine blk_drewN ?_ _ | refine blk_drew ?_ | refine blk_alloc ?_ _)); refine blk_put (cs := #[.int .i64 (wrap64 (Int.tdiv (wrap64 (a0)) t137)), .int .i64 0, .int .i64 0, .int .i64 0, .int .i64 0]) ?_ 4 _ rfl; (with_reducible repeat (first | refine blk_drewN ?_ _ | refine blk_drew ?_ | refine blk_alloc ?_ _)); refine blk_put (cs := #[.int .i64 (wrap64 (Int.tdiv (wrap64 (a0)) t137)), .int .i64 0, .int .i64 0, .int .i64 0, .int .i64 0]) ?_ 3 _ rfl; (with_reducible repeat (first | refine blk_drewN ?_ _ | refine blk_drew ?_ | refine blk_alloc ?_ _)); refine blk_put (cs := #[.int .i64 (wrap64 (Int.tdiv (wrap64 (a0)) t137)), .int .i64 0, .int .i64 0, .int .i64 0, .int .i64 0]) ?_ 2 _ rfl; (with_reducible repeat (first | refine blk_drewN ?_ _ | refine blk_drew ?_ | refine blk_alloc ?_ _)); refine blk_put (cs := #[.int .i64 (wrap64 (Int.tdiv (wrap64 (a0)) t137)), .int .i64 0, .int .i64 0, .int .i64 0, .int .i64 0]) ?_ 1 _ rfl; (with_reducible repeat (first | refine blk_drewN ?_ _ | refine blk_drew ?_ | refine blk_alloc ?_ _)); refine blk_put (cs := #[.int .i64 0, .int .i64 0, .int .i64 0, .int .i64 0, .int .i64 0]) ?_ 0 _ rfl; (with_reducible repeat (first | refine blk_drewN ?_ _ | refine blk_drew ?_ | refine blk_alloc ?_ _)); exact BK138.out) hb); have n2_ := Aside0.mk (below_step (by repeat (first | (with_reducible first | exact HB.out | apply below_alloc | apply pw_below_drewN | apply below_drew1 | refine below_set ?_ GE136.out | refine below_set ?_ GE138.out) | exact HB.out)) hb); clear BK136; clear BK138; clear HB; have BK136 := n0_; have BK138 := n1_; have HB := n2_; clear n0_ n1_ n2_; (try clear hb); (try clear hb2); (try clear hk); (try clear hi); have hcz22_0 : w21.cell? ⟨gb138, 0, none⟩ = some (.int .i64 (wrap64 (Int.tdiv (wrap64 (a0)) t137))) := (blk_cell BK138.out 0).trans rfl; have hcz22_1 : w21.cell? ⟨gb138, 1, none⟩ = some (.int .i64 0) := (blk_cell BK138.out 1).trans rfl; have hcz22_2 : w21.cell? ⟨gb138, 2, none⟩ = some (.int .i64 0) := (blk_cell BK138.out 2).trans rfl; have hcz22_3 : w21.cell? ⟨gb138, 3, none⟩ = some (.int .i64 0) := (blk_cell BK138.out 3).trans rfl; have hcz22_4 : w21.cell? ⟨gb138, 4, none⟩ = some (.int .i64 0) := (blk_cell BK138.out 4).trans rfl; have hfz22_0 := blk_frozen BK138.out 0; have hfz22_1 := blk_frozen BK138.out 1; have hfz22_2 := blk_frozen BK138.out 2; have hfz22_3 := blk_frozen BK138.out 3; have hfz22_4 := blk_frozen BK138.out 4) | (go_at_call 28; (with_reducible refine (camletref39_span.calls k (wrap64 (Int.tdiv (wrap64 (a0)) t137)) t140 t141 _ A12.out).mono ?_); rintro e w' ⟨rfl, ⟨nd, rfl⟩⟩) | (go_at_call 25; (with_reducible refine (camletref39_bits.calls (wrap64 (Int.tdiv (wrap64 (a0)) t137)) t142 _ A13.out).mono ?_); rintro e w' ⟨rfl, ⟨nd, rfl⟩⟩) | (go_at_call 22; (with_reducible refine (camletref39_power.calls k t142 t143 _ A14.out).mono ?_); rintro e w' ⟨rfl, ⟨nd, rfl⟩⟩))
        (try simp only [Act.put, List.setIfInBounds_toArray, List.set_cons_zero, List.set_cons_succ])
        go_cut [47] (fun v47 wc => ∃ (kq : Nat) (x47_15 : Bool), v47 = .bool x47_15 ∧ Aside0 (camletref39_Take.j0 kq a0 (wrap64 (a0)) (Int.tmod (wrap64 (a0)) t143) x47_15 (wrap64 (Int.tdiv (wrap64 (a0)) t137)) 0 0 0 0 = some (r1, r2, r3, r4, r5, r6)) ∧ Aside0 (kq ≤ k) ∧ Aside0 (wc.heap[gb136]? = some (.cells #[.int .i64 0, .int .i64 0, .int .i64 0, .int .i64 0, .int .i64 0] 24 (0, 0))) ∧ Aside0 (wc.heap[gb138]? = some (.cells #[.int .i64 (wrap64 (Int.tdiv (wrap64 (a0)) t137)), .int .i64 0, .int .i64 0, .int .i64 0, .int .i64 0] 24 (0, 0))) ∧ Aside0 (Below w.heap.size w wc))
        case first =>
          have H := HC16.out
          clear HC16
          by_cases c23 : t140 < 0
          · rw [if_pos c23] at H
            have c23b0 : decide (t140 < 0) = true := decide_eq_true c23
            clear c23
            (first | rw [c23b0] | (simp only [i64_w, i32_w]; rw [c23b0]) | skip)
            replace H := Option.bind_eq_some_iff.mp H
            obtain ⟨t144, A240, H⟩ := H
            replace H : (camletref39_Take.j0 k a0 (wrap64 (a0)) (Int.tmod (wrap64 (a0)) t143) (decide ((Int.tmod (wrap64 (a0)) t143) ≥ t144)) (wrap64 (Int.tdiv (wrap64 (a0)) t137)) 0 0 0 0) = some (r1, r2, r3, r4, r5, r6) := H
            have A24 := Aside0.mk A240
            clear A240
            have H' := Aside0.mk H
            clear H
            have hnb25 := NB138_136.out
            have hnc25 := NB136_138.out
            have hcz26_0 : w21.cell? ⟨gb138, 0, none⟩ = some (.int .i64 (wrap64 (Int.tdiv (wrap64 (a0)) t137))) := (blk_cell BK138.out 0).trans rfl
            have hcz26_1 : w21.cell? ⟨gb138, 1, none⟩ = some (.int .i64 0) := (blk_cell BK138.out 1).trans rfl
            have hcz26_2 : w21.cell? ⟨gb138, 2, none⟩ = some (.int .i64 0) := (blk_cell BK138.out 2).trans rfl
            have hcz26_3 : w21.cell? ⟨gb138, 3, none⟩ = some (.int .i64 0) := (blk_cell BK138.out 3).trans rfl
            have hcz26_4 : w21.cell? ⟨gb138, 4, none⟩ = some (.int .i64 0) := (blk_cell BK138.out 4).trans rfl
            have hfz26_0 := blk_frozen BK138.out 0
            have hfz26_1 := blk_frozen BK138.out 1
            have hfz26_2 := blk_frozen BK138.out 2
            have hfz26_3 := blk_frozen BK138.out 3
            have hfz26_4 := blk_frozen BK138.out 4
            go_wp2_with (first | (go_at_call 25; (with_reducible refine (camletref39_bits.calls (wrap64 (Int.tdiv (wrap64 (a0)) t137)) t142 _ A13.out).mono ?_); rintro e w' ⟨rfl, ⟨nd, rfl⟩⟩) | (go_at_call 22; (with_reducible refine (camletref39_power.calls k (wrap64 (t142 - 1)) t144 _ A24.out).mono ?_); rintro e w' ⟨rfl, ⟨nd, rfl⟩⟩))
            go_meet
            case rel => exact ⟨_, (decide ((Int.tmod (wrap64 (a0)) t143) ≥ t144)), (by first | rfl | (simp; done) | (simp [*]; done)), H', ⟨by first | omega | exact Nat.le_refl _⟩, ⟨by (with_reducible repeat (first | refine blk_drewN ?_ _ | refine blk_drew ?_ | refine blk_alloc ?_ _)); exact BK136.out⟩, ⟨by (with_reducible repeat (first | refine blk_drewN ?_ _ | refine blk_drew ?_ | refine blk_alloc ?_ _)); exact BK138.out⟩, ⟨by repeat (first | (with_reducible first | exact HB.out | apply below_alloc | apply pw_below_drewN | apply below_drew1 | refine below_set ?_ GE136.out | refine below_set ?_ GE138.out) | exact HB.out)⟩⟩
          · rw [if_neg c23] at H
            have c23b0 : decide (t140 < 0) = false := decide_eq_false c23
            clear c23
            (first | rw [c23b0] | (simp only [i64_w, i32_w]; rw [c23b0]) | skip)
            have H' := Aside0.mk H
            clear H
            go_wp2
            go_meet
            case rel => exact ⟨_, (false), (by first | rfl | (simp; done) | (simp [*]; done)), H', ⟨by first | omega | exact Nat.le_refl _⟩, ⟨by (with_reducible repeat (first | refine blk_drewN ?_ _ | refine blk_drew ?_ | refine blk_alloc ?_ _)); exact BK136.out⟩, ⟨by (with_reducible repeat (first | refine blk_drewN ?_ _ | refine blk_drew ?_ | refine blk_alloc ?_ _)); exact BK138.out⟩, ⟨by repeat (first | (with_reducible first | exact HB.out | apply below_alloc | apply pw_below_drewN | apply below_drew1 | refine below_set ?_ GE136.out | refine below_set ?_ GE138.out) | exact HB.out)⟩⟩
        case rest =>
          clear HC16
          try clear c1
          try clear c2
          try clear p2
          try clear c3
          try clear c3b0
          try clear c3b1
          try clear c5
          try clear c5b0
          try clear c5b1
          try clear p6
          try clear c8
          try clear c15
          try clear c15b0
          try clear c15b1
          try clear c19
          try clear c23
          try clear c23b0
          try clear c25
          try clear hcz11_0
          try clear hcz11_1
          try clear hcz11_2
          try clear hcz11_3
          try clear hcz11_4
          try clear hcz20_0
          try clear hcz20_1
          try clear hcz20_2
          try clear hcz20_3
          try clear hcz20_4
          try clear hcz22_0
          try clear hcz22_1
          try clear hcz22_2
          try clear hcz22_3
          try clear hcz22_4
          try clear hcz26_0
          try clear hcz26_1
          try clear hcz26_2
          try clear hcz26_3
          try clear hcz26_4
          try clear hcz9_0
          try clear hcz9_1
          try clear hcz9_2
          try clear hcz9_3
          try clear hcz9_4
          try clear hfz11_0
          try clear hfz11_1
          try clear hfz11_2
          try clear hfz11_3
          try clear hfz11_4
          try clear hfz20_0
          try clear hfz20_1
          try clear hfz20_2
          try clear hfz20_3
          try clear hfz20_4
          try clear hfz22_0
          try clear hfz22_1
          try clear hfz22_2
          try clear hfz22_3
          try clear hfz22_4
          try clear hfz26_0
          try clear hfz26_1
          try clear hfz26_2
          try clear hfz26_3
          try clear hfz26_4
          try clear hfz9_0
          try clear hfz9_1
          try clear hfz9_2
          try clear hfz9_3
          try clear hfz9_4
          obtain ⟨kq, x47_15, rfl, HA, HJ15, BK136, BK138, HB⟩ := hcut
          cases kq with
          | zero => exact absurd HA.out (by simp [camletref39_Take.j0])
          | succ kj15 =>
            have H := HA.out
            clear HA
            simp only [camletref39_Take.j0] at H
            have HC27 := Aside0.mk H
            clear H
            go_upto_if 47 with (fail)
            go_cut [8] (fun v8 wc => ∃ (kq : Nat) (x8_26 : Int), v8 = .int .i64 x8_26 ∧ Aside0 (camletref39_Take.j1 kq a0 (wrap64 (a0)) x8_26 (wrap64 (Int.tdiv (wrap64 (a0)) t137)) 0 0 0 0 = some (r1, r2, r3, r4, r5, r6)) ∧ Aside0 (kq ≤ kj15) ∧ Aside0 (wc.heap[gb136]? = some (.cells #[.int .i64 0, .int .i64 0, .int .i64 0, .int .i64 0, .int .i64 0] 24 (0, 0))) ∧ Aside0 (wc.heap[gb138]? = some (.cells #[.int .i64 (wrap64 (Int.tdiv (wrap64 (a0)) t137)), .int .i64 0, .int .i64 0, .int .i64 0, .int .i64 0] 24 (0, 0))) ∧ Aside0 (Below w.heap.size w wc))
            case first =>
              have H := HC27.out
              clear HC27
              by_cases c28 : x47_15 = true
              · subst c28
                have H1 : ((camletref39_bits.f (wrap64 (Int.tdiv (wrap64 (a0)) t137))).bind fun t145 => ((camletref39_power.f kj15 t145).bind fun t146 => (camletref39_Take.j1 kj15 a0 (wrap64 (a0)) (wrap64 ((Int.tmod (wrap64 (a0)) t143) - t146)) (wrap64 (Int.tdiv (wrap64 (a0)) t137)) 0 0 0 0))) = some (r1, r2, r3, r4, r5, r6) := by rw [if_pos rfl] at H; exact H
                clear H
                have H := H1
                clear H1
                replace H := Option.bind_eq_some_iff.mp H
                obtain ⟨t145, A290, H⟩ := H
                replace H : ((camletref39_power.f kj15 t145).bind fun t146 => (camletref39_Take.j1 kj15 a0 (wrap64 (a0)) (wrap64 ((Int.tmod (wrap64 (a0)) t143) - t146)) (wrap64 (Int.tdiv (wrap64 (a0)) t137)) 0 0 0 0)) = some (r1, r2, r3, r4, r5, r6) := H
                have A29 := Aside0.mk A290
                clear A290
                have e_ : t145 = t142 := Option.some.inj (A29.out.symm.trans A13.out)
                subst e_
                replace H := Option.bind_eq_some_iff.mp H
                obtain ⟨t146, A300, H⟩ := H
                replace H : (camletref39_Take.j1 kj15 a0 (wrap64 (a0)) (wrap64 ((Int.tmod (wrap64 (a0)) t143) - t146)) (wrap64 (Int.tdiv (wrap64 (a0)) t137)) 0 0 0 0) = some (r1, r2, r3, r4, r5, r6) := H
                have A30 := Aside0.mk A300
                clear A300
                have H' := Aside0.mk H
                clear H
                have hnb31 := NB138_136.out
                have hnc31 := NB136_138.out
                have hcz32_0 : wc.cell? ⟨gb138, 0, none⟩ = some (.int .i64 (wrap64 (Int.tdiv (wrap64 (a0)) t137))) := (blk_cell BK138.out 0).trans rfl
                have hcz32_1 : wc.cell? ⟨gb138, 1, none⟩ = some (.int .i64 0) := (blk_cell BK138.out 1).trans rfl
                have hcz32_2 : wc.cell? ⟨gb138, 2, none⟩ = some (.int .i64 0) := (blk_cell BK138.out 2).trans rfl
                have hcz32_3 : wc.cell? ⟨gb138, 3, none⟩ = some (.int .i64 0) := (blk_cell BK138.out 3).trans rfl
                have hcz32_4 : wc.cell? ⟨gb138, 4, none⟩ = some (.int .i64 0) := (blk_cell BK138.out 4).trans rfl
                have hfz32_0 := blk_frozen BK138.out 0
                have hfz32_1 := blk_frozen BK138.out 1
                have hfz32_2 := blk_frozen BK138.out 2
                have hfz32_3 := blk_frozen BK138.out 3
                have hfz32_4 := blk_frozen BK138.out 4
                go_wp2_with (first | (go_at_call 25; (with_reducible refine (camletref39_bits.calls (wrap64 (Int.tdiv (wrap64 (a0)) t137)) t145 _ A29.out).mono ?_); rintro e w' ⟨rfl, ⟨nd, rfl⟩⟩) | (go_at_call 22; (with_reducible refine (camletref39_power.calls kj15 t145 t146 _ A30.out).mono ?_); rintro e w' ⟨rfl, ⟨nd, rfl⟩⟩))
                go_meet
                case rel => exact ⟨_, (wrap64 ((Int.tmod (wrap64 (a0)) t143) - t146)), (by first | rfl | (simp; done) | (simp [*]; done)), H', ⟨by have := HJ15.out; first | omega | exact Nat.le_refl _⟩, ⟨by (with_reducible repeat (first | refine blk_drewN ?_ _ | refine blk_drew ?_ | refine blk_alloc ?_ _)); exact BK136.out⟩, ⟨by (with_reducible repeat (first | refine blk_drewN ?_ _ | refine blk_drew ?_ | refine blk_alloc ?_ _)); exact BK138.out⟩, ⟨by repeat (first | (with_reducible first | exact HB.out | apply below_alloc | apply pw_below_drewN | apply below_drew1 | refine below_set ?_ GE136.out | refine below_set ?_ GE138.out) | exact HB.out)⟩⟩
              · replace c28 := Bool.eq_false_iff.mpr c28
                subst c28
                have H1 : (camletref39_Take.j1 kj15 a0 (wrap64 (a0)) (Int.tmod (wrap64 (a0)) t143) (wrap64 (Int.tdiv (wrap64 (a0)) t137)) 0 0 0 0) = some (r1, r2, r3, r4, r5, r6) := by rw [if_neg (show ¬ (false = true) by decide)] at H; exact H
                clear H
                have H := H1
                clear H1
                have H' := Aside0.mk H
                clear H
                go_wp2
                go_meet
                case rel => exact ⟨_, ((Int.tmod (wrap64 (a0)) t143)), (by first | rfl | (simp; done) | (simp [*]; done)), H', ⟨by have := HJ15.out; first | omega | exact Nat.le_refl _⟩, ⟨by (with_reducible repeat (first | refine blk_drewN ?_ _ | refine blk_drew ?_ | refine blk_alloc ?_ _)); exact BK136.out⟩, ⟨by (with_reducible repeat (first | refine blk_drewN ?_ _ | refine blk_drew ?_ | refine blk_alloc ?_ _)); exact BK138.out⟩, ⟨by repeat (first | (with_reducible first | exact HB.out | apply below_alloc | apply pw_below_drewN | apply below_drew1 | refine below_set ?_ GE136.out | refine below_set ?_ GE138.out) | exact HB.out)⟩⟩
            case rest =>
              clear HC27
              try clear c1
              try clear c2
              try clear p2
              try clear c3
              try clear c3b0
              try clear c3b1
              try clear c5
              try clear c5b0
              try clear c5b1
              try clear p6
              try clear c8
              try clear c15
              try clear c15b0
              try clear c15b1
              try clear c19
              try clear c23
              try clear c23b0
              try clear c25
              try clear c28
              try clear c31
              try clear hcz11_0
              try clear hcz11_1
              try clear hcz11_2
              try clear hcz11_3
              try clear hcz11_4
              try clear hcz20_0
              try clear hcz20_1
              try clear hcz20_2
              try clear hcz20_3
              try clear hcz20_4
              try clear hcz22_0
              try clear hcz22_1
              try clear hcz22_2
              try clear hcz22_3
              try clear hcz22_4
              try clear hcz26_0
              try clear hcz26_1
              try clear hcz26_2
              try clear hcz26_3
              try clear hcz26_4
              try clear hcz32_0
              try clear hcz32_1
              try clear hcz32_2
              try clear hcz32_3
              try clear hcz32_4
              try clear hcz9_0
              try clear hcz9_1
              try clear hcz9_2
              try clear hcz9_3
              try clear hcz9_4
              try clear hfz11_0
              try clear hfz11_1
              try clear hfz11_2
              try clear hfz11_3
              try clear hfz11_4
              try clear hfz20_0
              try clear hfz20_1
              try clear hfz20_2
              try clear hfz20_3
              try clear hfz20_4
              try clear hfz22_0
              try clear hfz22_1
              try clear hfz22_2
              try clear hfz22_3
              try clear hfz22_4
              try clear hfz26_0
              try clear hfz26_1
              try clear hfz26_2
              try clear hfz26_3
              try clear hfz26_4
              try clear hfz32_0
              try clear hfz32_1
              try clear hfz32_2
              try clear hfz32_3
              try clear hfz32_4
              try clear hfz9_0
              try clear hfz9_1
              try clear hfz9_2
              try clear hfz9_3
              try clear hfz9_4
              try clear p2
              try clear p6
              obtain ⟨kq, x8_26, rfl, HA, HJ26, BK136, BK138, HB⟩ := hcut
              cases kq with
              | zero => exact absurd HA.out (by simp [camletref39_Take.j1])
              | succ kj26 =>
                have H := HA.out
                clear HA
                simp only [camletref39_Take.j1] at H
                have HC33 := Aside0.mk H
                clear H
                go_upto_region 9 with (fail)
                go_cut [61] (fun v61 wc => ∃ (kq : Nat) (x61_32 : Bool), v61 = .bool x61_32 ∧ Aside0 (camletref39_Take.j2 kq a0 (wrap64 (a0)) x8_26 x61_32 (wrap64 (Int.tdiv (wrap64 (a0)) t137)) 0 0 0 0 = some (r1, r2, r3, r4, r5, r6)) ∧ Aside0 (kq ≤ kj26) ∧ Aside0 (wc.heap[gb136]? = some (.cells #[.int .i64 0, .int .i64 0, .int .i64 0, .int .i64 0, .int .i64 0] 24 (0, 0))) ∧ Aside0 (wc.heap[gb138]? = some (.cells #[.int .i64 (wrap64 (Int.tdiv (wrap64 (a0)) t137)), .int .i64 0, .int .i64 0, .int .i64 0, .int .i64 0] 24 (0, 0))) ∧ Aside0 (Below w.heap.size w wc))
                case first =>
                  have H := HC33.out
                  clear HC33
                  by_cases c34 : (wrap64 (Int.tdiv (wrap64 (a0)) t137)) = 24
                  · rw [if_pos c34] at H
                    have c34b0 : ((wrap64 (Int.tdiv (wrap64 (a0)) t137)) == 24) = true := beq_iff_eq.mpr c34
                    have c34b1 : ((wrap64 (Int.tdiv (wrap64 (a0)) t137)) != 24) = false := bne_eq_false_iff_eq.mpr c34
                    clear c34
                    (first | rw [c34b0] | (simp only [i64_w, i32_w]; rw [c34b0]) | skip)
                    have H' := Aside0.mk H
                    clear H
                    have hnb35 := NB138_136.out
                    have hnc35 := NB136_138.out
                    have hcz36_0 : wc.cell? ⟨gb138, 0, none⟩ = some (.int .i64 (wrap64 (Int.tdiv (wrap64 (a0)) t137))) := (blk_cell BK138.out 0).trans rfl
                    have hcz36_1 : wc.cell? ⟨gb138, 1, none⟩ = some (.int .i64 0) := (blk_cell BK138.out 1).trans rfl
                    have hcz36_2 : wc.cell? ⟨gb138, 2, none⟩ = some (.int .i64 0) := (blk_cell BK138.out 2).trans rfl
                    have hcz36_3 : wc.cell? ⟨gb138, 3, none⟩ = some (.int .i64 0) := (blk_cell BK138.out 3).trans rfl
                    have hcz36_4 : wc.cell? ⟨gb138, 4, none⟩ = some (.int .i64 0) := (blk_cell BK138.out 4).trans rfl
                    have hfz36_0 := blk_frozen BK138.out 0
                    have hfz36_1 := blk_frozen BK138.out 1
                    have hfz36_2 := blk_frozen BK138.out 2
                    have hfz36_3 := blk_frozen BK138.out 3
                    have hfz36_4 := blk_frozen BK138.out 4
                    go_wp2
                    go_meet
                    case rel => exact ⟨_, (true), (by first | rfl | (simp; done) | (simp [*]; done)), H', ⟨by have := HJ15.out; have := HJ26.out; first | omega | exact Nat.le_refl _⟩, ⟨by (with_reducible repeat (first | refine blk_drewN ?_ _ | refine blk_drew ?_ | refine blk_alloc ?_ _)); exact BK136.out⟩, ⟨by (with_reducible repeat (first | refine blk_drewN ?_ _ | refine blk_drew ?_ | refine blk_alloc ?_ _)); exact BK138.out⟩, ⟨by repeat (first | (with_reducible first | exact HB.out | apply below_alloc | apply pw_below_drewN | apply below_drew1 | refine below_set ?_ GE136.out | refine below_set ?_ GE138.out) | exact HB.out)⟩⟩
                  · rw [if_neg c34] at H
                    have c34b0 : ((wrap64 (Int.tdiv (wrap64 (a0)) t137)) == 24) = false := beq_eq_false_iff_ne.mpr c34
                    have c34b1 : ((wrap64 (Int.tdiv (wrap64 (a0)) t137)) != 24) = true := bne_iff_ne.mpr c34
                    (first | rw [c34b0] | (simp only [i64_w, i32_w]; rw [c34b0]) | skip)
                    replace H := Option.bind_eq_some_iff.mp H
                    obtain ⟨t147, A370, H⟩ := H
                    replace H : ((camletref39_has.f kj26 t147 78).bind fun t148 => (camletref39_Take.j2 kj26 a0 (wrap64 (a0)) x8_26 t148 (wrap64 (Int.tdiv (wrap64 (a0)) t137)) 0 0 0 0)) = some (r1, r2, r3, r4, r5, r6) := H
                    have A37 := Aside0.mk A370
                    clear A370
                    replace H := Option.bind_eq_some_iff.mp H
                    obtain ⟨t148, A380, H⟩ := H
                    replace H : (camletref39_Take.j2 kj26 a0 (wrap64 (a0)) x8_26 t148 (wrap64 (Int.tdiv (wrap64 (a0)) t137)) 0 0 0 0) = some (r1, r2, r3, r4, r5, r6) := H
                    have A38 := Aside0.mk A380
                    clear A380
                    have H' := Aside0.mk H
                    clear H
                    have hnb39 := NB138_136.out
                    have hnc39 := NB136_138.out
                    have hcz40_0 : wc.cell? ⟨gb138, 0, none⟩ = some (.int .i64 (wrap64 (Int.tdiv (wrap64 (a0)) t137))) := (blk_cell BK138.out 0).trans rfl
                    have hcz40_1 : wc.cell? ⟨gb138, 1, none⟩ = some (.int .i64 0) := (blk_cell BK138.out 1).trans rfl
                    have hcz40_2 : wc.cell? ⟨gb138, 2, none⟩ = some (.int .i64 0) := (blk_cell BK138.out 2).trans rfl
                    have hcz40_3 : wc.cell? ⟨gb138, 3, none⟩ = some (.int .i64 0) := (blk_cell BK138.out 3).trans rfl
                    have hcz40_4 : wc.cell? ⟨gb138, 4, none⟩ = some (.int .i64 0) := (blk_cell BK138.out 4).trans rfl
                    have hfz40_0 := blk_frozen BK138.out 0
                    have hfz40_1 := blk_frozen BK138.out 1
                    have hfz40_2 := blk_frozen BK138.out 2
                    have hfz40_3 := blk_frozen BK138.out 3
                    have hfz40_4 := blk_frozen BK138.out 4
                    go_wp2_with (first | (go_at_call 23; (with_reducible refine (camletref39_Has.calls kj26 (wrap64 (Int.tdiv (wrap64 (a0)) t137)) 0 0 0 0 t147 _ A37.out).mono ?_); rintro e w41 ⟨rfl, hb⟩; have n0_ := Aside0.mk (blk_below (g := gb136) (o := .cells #[.int .i64 0, .int .i64 0, .int .i64 0, .int .i64 0, .int .i64 0] 24 (0, 0)) (by (with_reducible repeat (first | refine blk_drewN ?_ _ | refine blk_drew ?_ | refine blk_alloc ?_ _)); exact BK136.out) hb); have n1_ := Aside0.mk (blk_below (g := gb138) (o := .cells #[.int .i64 (wrap64 (Int.tdiv (wrap64 (a0)) t137)), .int .i64 0, .int .i64 0, .int .i64 0, .int .i64 0] 24 (0, 0)) (by (with_reducible repeat (first | refine blk_drewN ?_ _ | refine blk_drew ?_ | refine blk_alloc ?_ _)); exact BK138.out) hb); have n2_ := Aside0.mk (below_step (by repeat (first | (with_reducible first | exact HB.out | apply below_alloc | apply pw_below_drewN | apply below_drew1 | refine below_set ?_ GE136.out | refine below_set ?_ GE138.out) | exact HB.out)) hb); clear BK136; clear BK138; clear HB; have BK136 := n0_; have BK138 := n1_; have HB := n2_; clear n0_ n1_ n2_; (try clear hb); (try clear hb2); (try clear hk); (try clear hi)) | (go_at_call 27; (with_reducible refine (camletref39_has.calls kj26 t147 78 t148 _ A38.out).mono ?_); rintro e w' ⟨rfl, ⟨nd, rfl⟩⟩))
                    go_meet
                    case rel => exact ⟨_, (t148), (by first | rfl | (simp; done) | (simp [*]; done)), H', ⟨by have := HJ15.out; have := HJ26.out; first | omega | exact Nat.le_refl _⟩, ⟨by (with_reducible repeat (first | refine blk_drewN ?_ _ | refine blk_drew ?_ | refine blk_alloc ?_ _)); exact BK136.out⟩, ⟨by (with_reducible repeat (first | refine blk_drewN ?_ _ | refine blk_drew ?_ | refine blk_alloc ?_ _)); exact BK138.out⟩, ⟨by repeat (first | (with_reducible first | exact HB.out | apply below_alloc | apply pw_below_drewN | apply below_drew1 | refine below_set ?_ GE136.out | refine below_set ?_ GE138.out) | exact HB.out)⟩⟩
                case rest =>
                  clear HC33
                  try clear c1
                  try clear c2
                  try clear p2
                  try clear c3
                  try clear c3b0
                  try clear c3b1
                  try clear c5
                  try clear c5b0
                  try clear c5b1
                  try clear p6
                  try clear c8
                  try clear c15
                  try clear c15b0
                  try clear c15b1
                  try clear c19
                  try clear c23
                  try clear c23b0
                  try clear c25
                  try clear c28
                  try clear c31
                  try clear c34
                  try clear c34b0
                  try clear c34b1
                  try clear c35
                  try clear c39
                  try clear hcz11_0
                  try clear hcz11_1
                  try clear hcz11_2
                  try clear hcz11_3
                  try clear hcz11_4
                  try clear hcz20_0
                  try clear hcz20_1
                  try clear hcz20_2
                  try clear hcz20_3
                  try clear hcz20_4
                  try clear hcz22_0
                  try clear hcz22_1
                  try clear hcz22_2
                  try clear hcz22_3
                  try clear hcz22_4
                  try clear hcz26_0
                  try clear hcz26_1
                  try clear hcz26_2
                  try clear hcz26_3
                  try clear hcz26_4
                  try clear hcz32_0
                  try clear hcz32_1
                  try clear hcz32_2
                  try clear hcz32_3
                  try clear hcz32_4
                  try clear hcz36_0
                  try clear hcz36_1
                  try clear hcz36_2
                  try clear hcz36_3
                  try clear hcz36_4
                  try clear hcz40_0
                  try clear hcz40_1
                  try clear hcz40_2
                  try clear hcz40_3
                  try clear hcz40_4
                  try clear hcz9_0
                  try clear hcz9_1
                  try clear hcz9_2
                  try clear hcz9_3
                  try clear hcz9_4
                  try clear hfz11_0
                  try clear hfz11_1
                  try clear hfz11_2
                  try clear hfz11_3
                  try clear hfz11_4
                  try clear hfz20_0
                  try clear hfz20_1
                  try clear hfz20_2
                  try clear hfz20_3
                  try clear hfz20_4
                  try clear hfz22_0
                  try clear hfz22_1
                  try clear hfz22_2
                  try clear hfz22_3
                  try clear hfz22_4
                  try clear hfz26_0
                  try clear hfz26_1
                  try clear hfz26_2
                  try clear hfz26_3
                  try clear hfz26_4
                  try clear hfz32_0
                  try clear hfz32_1
                  try clear hfz32_2
                  try clear hfz32_3
                  try clear hfz32_4
                  try clear hfz36_0
                  try clear hfz36_1
                  try clear hfz36_2
                  try clear hfz36_3
                  try clear hfz36_4
                  try clear hfz40_0
                  try clear hfz40_1
                  try clear hfz40_2
                  try clear hfz40_3
                  try clear hfz40_4
                  try clear hfz9_0
                  try clear hfz9_1
                  try clear hfz9_2
                  try clear hfz9_3
                  try clear hfz9_4
                  try clear p2
                  try clear p6
                  obtain ⟨kq, x61_32, rfl, HA, HJ32, BK136, BK138, HB⟩ := hcut
                  cases kq with
                  | zero => exact absurd HA.out (by simp [camletref39_Take.j2])
                  | succ kj32 =>
                    have H := HA.out
                    clear HA
                    simp only [camletref39_Take.j2] at H
                    have HC42 := Aside0.mk H
                    clear H
                    go_upto_if 61 with (fail)
                    go_cut [] (fun wc => ∃ (kq : Nat) (x139004_41 : Int), Aside0 (camletref39_Take.j3 kq a0 (wrap64 (a0)) (wrap64 (Int.tdiv (wrap64 (a0)) t137)) 0 0 0 x139004_41 = some (r1, r2, r3, r4, r5, r6)) ∧ Aside0 (kq ≤ kj32) ∧ Aside0 (wc.heap[gb136]? = some (.cells #[.int .i64 0, .int .i64 0, .int .i64 0, .int .i64 0, .int .i64 0] 24 (0, 0))) ∧ Aside0 (wc.heap[gb138]? = some (.cells #[.int .i64 (wrap64 (Int.tdiv (wrap64 (a0)) t137)), .int .i64 0, .int .i64 0, .int .i64 0, .int .i64 x139004_41] 24 (0, 0))) ∧ Aside0 (Below w.heap.size w wc))
                    case first =>
                      have H := HC42.out
                      clear HC42
                      by_cases c43 : x61_32 = true
                      · subst c43
                        have H1 : (camletref39_Take.j3 kj32 a0 (wrap64 (a0)) (wrap64 (Int.tdiv (wrap64 (a0)) t137)) 0 0 0 x8_26) = some (r1, r2, r3, r4, r5, r6) := by rw [if_pos rfl] at H; exact H
                        clear H
                        have H := H1
                        clear H1
                        have H' := Aside0.mk H
                        clear H
                        have hnb44 := NB138_136.out
                        have hnc44 := NB136_138.out
                        have hcz45_0 : wc.cell? ⟨gb138, 0, none⟩ = some (.int .i64 (wrap64 (Int.tdiv (wrap64 (a0)) t137))) := (blk_cell BK138.out 0).trans rfl
                        have hcz45_1 : wc.cell? ⟨gb138, 1, none⟩ = some (.int .i64 0) := (blk_cell BK138.out 1).trans rfl
                        have hcz45_2 : wc.cell? ⟨gb138, 2, none⟩ = some (.int .i64 0) := (blk_cell BK138.out 2).trans rfl
                        have hcz45_3 : wc.cell? ⟨gb138, 3, none⟩ = some (.int .i64 0) := (blk_cell BK138.out 3).trans rfl
                        have hcz45_4 : wc.cell? ⟨gb138, 4, none⟩ = some (.int .i64 0) := (blk_cell BK138.out 4).trans rfl
                        have hfz45_0 := blk_frozen BK138.out 0
                        have hfz45_1 := blk_frozen BK138.out 1
                        have hfz45_2 := blk_frozen BK138.out 2
                        have hfz45_3 := blk_frozen BK138.out 3
                        have hfz45_4 := blk_frozen BK138.out 4
                        go_wp2
                        go_meet
                        case rel => exact ⟨_, (x8_26), H', ⟨by have := HJ15.out; have := HJ26.out; have := HJ32.out; first | omega | exact Nat.le_refl _⟩, ⟨by (with_reducible repeat (first | refine blk_drewN ?_ _ | refine blk_drew ?_ | refine blk_alloc ?_ _)); refine blk_far ?_ NB136_138.out _; (with_reducible repeat (first | refine blk_drewN ?_ _ | refine blk_drew ?_ | refine blk_alloc ?_ _)); exact BK136.out⟩, ⟨by (with_reducible repeat (first | refine blk_drewN ?_ _ | refine blk_drew ?_ | refine blk_alloc ?_ _)); refine blk_put (cs := #[.int .i64 (wrap64 (Int.tdiv (wrap64 (a0)) t137)), .int .i64 0, .int .i64 0, .int .i64 0, .int .i64 0]) ?_ 4 _ rfl; (with_reducible repeat (first | refine blk_drewN ?_ _ | refine blk_drew ?_ | refine blk_alloc ?_ _)); exact BK138.out⟩, ⟨by repeat (first | (with_reducible first | exact HB.out | apply below_alloc | apply pw_below_drewN | apply below_drew1 | refine below_set ?_ GE136.out | refine below_set ?_ GE138.out) | exact HB.out)⟩⟩
                      · replace c43 := Bool.eq_false_iff.mpr c43
                        subst c43
                        have H1 : (camletref39_Take.j3 kj32 a0 (wrap64 (a0)) (wrap64 (Int.tdiv (wrap64 (a0)) t137)) 0 0 0 0) = some (r1, r2, r3, r4, r5, r6) := by rw [if_neg (show ¬ (false = true) by decide)] at H; exact H
                        clear H
                        have H := H1
                        clear H1
                        have H' := Aside0.mk H
                        clear H
                        go_wp2
                        go_meet
                        case rel => exact ⟨_, (0), H', ⟨by have := HJ15.out; have := HJ26.out; have := HJ32.out; first | omega | exact Nat.le_refl _⟩, ⟨by (with_reducible repeat (first | refine blk_drewN ?_ _ | refine blk_drew ?_ | refine blk_alloc ?_ _)); exact BK136.out⟩, ⟨by (with_reducible repeat (first | refine blk_drewN ?_ _ | refine blk_drew ?_ | refine blk_alloc ?_ _)); exact BK138.out⟩, ⟨by repeat (first | (with_reducible first | exact HB.out | apply below_alloc | apply pw_below_drewN | apply below_drew1 | refine below_set ?_ GE136.out | refine below_set ?_ GE138.out) | exact HB.out)⟩⟩
                    case rest =>
                      clear HC42
                      try clear c1
                      try clear c2
                      try clear p2
                      try clear c3
                      try clear c3b0
                      try clear c3b1
                      try clear c4
                      try clear c5
                      try clear c5b0
                      try clear c5b1
                      try clear p6
                      try clear c8
                      try clear c15
                      try clear c15b0
                      try clear c15b1
                      try clear c19
                      try clear c23
                      try clear c23b0
                      try clear c25
                      try clear c28
                      try clear c31
                      try clear c34
                      try clear c34b0
                      try clear c34b1
                      try clear c35
                      try clear c39
                      try clear c43
                      try clear c44
                      try clear hcz11_0
                      try clear hcz11_1
                      try clear hcz11_2
                      try clear hcz11_3
                      try clear hcz11_4
                      try clear hcz20_0
                      try clear hcz20_1
                      try clear hcz20_2
                      try clear hcz20_3
                      try clear hcz20_4
                      try clear hcz22_0
                      try clear hcz22_1
                      try clear hcz22_2
                      try clear hcz22_3
                      try clear hcz22_4
                      try clear hcz26_0
                      try clear hcz26_1
                      try clear hcz26_2
                      try clear hcz26_3
                      try clear hcz26_4
                      try clear hcz32_0
                      try clear hcz32_1
                      try clear hcz32_2
                      try clear hcz32_3
                      try clear hcz32_4
                      try clear hcz36_0
                      try clear hcz36_1
                      try clear hcz36_2
                      try clear hcz36_3
                      try clear hcz36_4
                      try clear hcz40_0
                      try clear hcz40_1
                      try clear hcz40_2
                      try clear hcz40_3
                      try clear hcz40_4
                      try clear hcz45_0
                      try clear hcz45_1
                      try clear hcz45_2
                      try clear hcz45_3
                      try clear hcz45_4
                      try clear hcz9_0
                      try clear hcz9_1
                      try clear hcz9_2
                      try clear hcz9_3
                      try clear hcz9_4
                      try clear hfz11_0
                      try clear hfz11_1
                      try clear hfz11_2
                      try clear hfz11_3
                      try clear hfz11_4
                      try clear hfz20_0
                      try clear hfz20_1
                      try clear hfz20_2
                      try clear hfz20_3
                      try clear hfz20_4
                      try clear hfz22_0
                      try clear hfz22_1
                      try clear hfz22_2
                      try clear hfz22_3
                      try clear hfz22_4
                      try clear hfz26_0
                      try clear hfz26_1
                      try clear hfz26_2
                      try clear hfz26_3
                      try clear hfz26_4
                      try clear hfz32_0
                      try clear hfz32_1
                      try clear hfz32_2
                      try clear hfz32_3
                      try clear hfz32_4
                      try clear hfz36_0
                      try clear hfz36_1
                      try clear hfz36_2
                      try clear hfz36_3
                      try clear hfz36_4
                      try clear hfz40_0
                      try clear hfz40_1
                      try clear hfz40_2
                      try clear hfz40_3
                      try clear hfz40_4
                      try clear hfz45_0
                      try clear hfz45_1
                      try clear hfz45_2
                      try clear hfz45_3
                      try clear hfz45_4
                      try clear hfz9_0
                      try clear hfz9_1
                      try clear hfz9_2
                      try clear hfz9_3
                      try clear hfz9_4
                      try clear p2
                      try clear p6
                      obtain ⟨kq, x139004_41, HA, HJ41, BK136, BK138, HB⟩ := hcut
                      cases kq with
                      | zero => exact absurd HA.out (by simp [camletref39_Take.j3])
                      | succ kj41 =>
                        have H := HA.out
                        clear HA
                        simp only [camletref39_Take.j3] at H
                        replace H := Option.bind_eq_some_iff.mp H
                        obtain ⟨t149, A460, H⟩ := H
                        replace H : (camletref39_Take.l0 kj41 a0 (wrap64 (a0)) 21 t149 0 (wrap64 (Int.tdiv (wrap64 (a0)) t137)) 0 0 0 x139004_41) = some (r1, r2, r3, r4, r5, r6) := H
                        have A46 := Aside0.mk A460
                        clear A460
                        have H' := Aside0.mk H
                        clear H
                        have hnb47 := NB138_136.out
                        have hnc47 := NB136_138.out
                        have hcz48_0 : wc.cell? ⟨gb138, 0, none⟩ = some (.int .i64 (wrap64 (Int.tdiv (wrap64 (a0)) t137))) := (blk_cell BK138.out 0).trans rfl
                        have hcz48_1 : wc.cell? ⟨gb138, 1, none⟩ = some (.int .i64 0) := (blk_cell BK138.out 1).trans rfl
                        have hcz48_2 : wc.cell? ⟨gb138, 2, none⟩ = some (.int .i64 0) := (blk_cell BK138.out 2).trans rfl
                        have hcz48_3 : wc.cell? ⟨gb138, 3, none⟩ = some (.int .i64 0) := (blk_cell BK138.out 3).trans rfl
                        have hcz48_4 : wc.cell? ⟨gb138, 4, none⟩ = some (.int .i64 x139004_41) := (blk_cell BK138.out 4).trans rfl
                        have hfz48_0 := blk_frozen BK138.out 0
                        have hfz48_1 := blk_frozen BK138.out 1
                        have hfz48_2 := blk_frozen BK138.out 2
                        have hfz48_3 := blk_frozen BK138.out 3
                        have hfz48_4 := blk_frozen BK138.out 4
                        go_wp2_with (first | (go_at_call 23; (with_reducible refine (camletref39_Has.calls kj41 (wrap64 (Int.tdiv (wrap64 (a0)) t137)) 0 0 0 x139004_41 t149 _ A46.out).mono ?_); rintro e w49 ⟨rfl, hb⟩; have n0_ := Aside0.mk (blk_below (g := gb136) (o := .cells #[.int .i64 0, .int .i64 0, .int .i64 0, .int .i64 0, .int .i64 0] 24 (0, 0)) (by (with_reducible repeat (first | refine blk_drewN ?_ _ | refine blk_drew ?_ | refine blk_alloc ?_ _)); exact BK136.out) hb); have n1_ := Aside0.mk (blk_below (g := gb138) (o := .cells #[.int .i64 (wrap64 (Int.tdiv (wrap64 (a0)) t137)), .int .i64 0, .int .i64 0, .int .i64 0, .int .i64 x139004_41] 24 (0, 0)) (by (with_reducible repeat (first | refine blk_drewN ?_ _ | refine blk_drew ?_ | refine blk_alloc ?_ _)); exact BK138.out) hb); have n2_ := Aside0.mk (below_step (by repeat (first | (with_reducible first | exact HB.out | apply below_alloc | apply pw_below_drewN | apply below_drew1 | refine below_set ?_ GE136.out | refine below_set ?_ GE138.out) | exact HB.out)) hb); clear BK136; clear BK138; clear HB; have BK136 := n0_; have BK138 := n1_; have HB := n2_; clear n0_ n1_ n2_; (try clear hb); (try clear hb2); (try clear hk); (try clear hi)))
                        go_loopg [9, 11] kj41 (fun kq v9 v11 w' => ∃ (x9_5 : Int) (x11_5 : Int) (x139000_5 : Int) (x139001_5 : Int) (x139002_5 : Int) (x139003_5 : Int) (x139004_5 : Int), v9 = .int .i64 x9_5 ∧ v11 = .int .i64 x11_5 ∧ Aside0 (camletref39_Take.l0 kq a0 (wrap64 (a0)) x9_5 t149 x11_5 x139000_5 x139001_5 x139002_5 x139003_5 x139004_5 = some (r1, r2, r3, r4, r5, r6)) ∧ Aside0 (kq ≤ kj41) ∧ Aside0 (w'.heap[gb136]? = some (.cells #[.int .i64 0, .int .i64 0, .int .i64 0, .int .i64 0, .int .i64 0] 24 (0, 0))) ∧ Aside0 (w'.heap[gb138]? = some (.cells #[.int .i64 x139000_5, .int .i64 x139001_5, .int .i64 x139002_5, .int .i64 x139003_5, .int .i64 x139004_5] 24 (0, 0))) ∧ Aside0 (Below w.heap.size w w'))
                        case atStart => exact ⟨(21), (0), ((wrap64 (Int.tdiv (wrap64 (a0)) t137))), (0), (0), (0), (x139004_41), (by first | rfl | (simp; done) | (simp [*]; done)), (by first | rfl | (simp; done) | (simp [*]; done)), H', ⟨Nat.le_refl _⟩, ⟨by (with_reducible repeat (first | refine blk_drewN ?_ _ | refine blk_drew ?_ | refine blk_alloc ?_ _)); exact BK136.out⟩, ⟨by (with_reducible repeat (first | refine blk_drewN ?_ _ | refine blk_drew ?_ | refine blk_alloc ?_ _)); exact BK138.out⟩, ⟨by repeat (first | (with_reducible first | exact HB.out | apply below_alloc | apply pw_below_drewN | apply below_drew1 | refine below_set ?_ GE136.out | refine below_set ?_ GE138.out) | exact HB.out)⟩⟩
                        case round =>
                          clear H'
                          try clear c1
                          try clear c2
                          try clear p2
                          try clear c3
                          try clear c3b0
                          try clear c3b1
                          try clear c4
                          try clear c5
                          try clear c5b0
                          try clear c5b1
                          try clear p6
                          try clear c8
                          try clear c15
                          try clear c15b0
                          try clear c15b1
                          try clear c19
                          try clear c23
                          try clear c23b0
                          try clear c25
                          try clear c28
                          try clear c31
                          try clear c34
                          try clear c34b0
                          try clear c34b1
                          try clear c35
                          try clear c39
                          try clear c43
                          try clear c44
                          try clear c47
                          try clear hcz11_0
                          try clear hcz11_1
                          try clear hcz11_2
                          try clear hcz11_3
                          try clear hcz11_4
                          try clear hcz20_0
                          try clear hcz20_1
                          try clear hcz20_2
                          try clear hcz20_3
                          try clear hcz20_4
                          try clear hcz22_0
                          try clear hcz22_1
                          try clear hcz22_2
                          try clear hcz22_3
                          try clear hcz22_4
                          try clear hcz26_0
                          try clear hcz26_1
                          try clear hcz26_2
                          try clear hcz26_3
                          try clear hcz26_4
                          try clear hcz32_0
                          try clear hcz32_1
                          try clear hcz32_2
                          try clear hcz32_3
                          try clear hcz32_4
                          try clear hcz36_0
                          try clear hcz36_1
                          try clear hcz36_2
                          try clear hcz36_3
                          try clear hcz36_4
                          try clear hcz40_0
                          try clear hcz40_1
                          try clear hcz40_2
                          try clear hcz40_3
                          try clear hcz40_4
                          try clear hcz45_0
                          try clear hcz45_1
                          try clear hcz45_2
                          try clear hcz45_3
                          try clear hcz45_4
                          try clear hcz48_0
                          try clear hcz48_1
                          try clear hcz48_2
                          try clear hcz48_3
                          try clear hcz48_4
                          try clear hcz9_0
                          try clear hcz9_1
                          try clear hcz9_2
                          try clear hcz9_3
                          try clear hcz9_4
                          try clear hfz11_0
                          try clear hfz11_1
                          try clear hfz11_2
                          try clear hfz11_3
                          try clear hfz11_4
                          try clear hfz20_0
                          try clear hfz20_1
                          try clear hfz20_2
                          try clear hfz20_3
                          try clear hfz20_4
                          try clear hfz22_0
                          try clear hfz22_1
                          try clear hfz22_2
                          try clear hfz22_3
                          try clear hfz22_4
                          try clear hfz26_0
                          try clear hfz26_1
                          try clear hfz26_2
                          try clear hfz26_3
                          try clear hfz26_4
                          try clear hfz32_0
                          try clear hfz32_1
                          try clear hfz32_2
                          try clear hfz32_3
                          try clear hfz32_4
                          try clear hfz36_0
                          try clear hfz36_1
                          try clear hfz36_2
                          try clear hfz36_3
                          try clear hfz36_4
                          try clear hfz40_0
                          try clear hfz40_1
                          try clear hfz40_2
                          try clear hfz40_3
                          try clear hfz40_4
                          try clear hfz45_0
                          try clear hfz45_1
                          try clear hfz45_2
                          try clear hfz45_3
                          try clear hfz45_4
                          try clear hfz48_0
                          try clear hfz48_1
                          try clear hfz48_2
                          try clear hfz48_3
                          try clear hfz48_4
                          try clear hfz9_0
                          try clear hfz9_1
                          try clear hfz9_2
                          try clear hfz9_3
                          try clear hfz9_4
                          try clear p2
                          try clear p6
                          obtain ⟨x9_5, x11_5, x139000_5, x139001_5, x139002_5, x139003_5, x139004_5, rfl, rfl, HA, HK5, BK136, BK138, HB⟩ := hrel
                          cases gk with
                          | zero => exact absurd HA.out (by simp [camletref39_Take.l0])
                          | succ k5 =>
                            have H := HA.out
                            clear HA
                            simp only [camletref39_Take.l0] at H
                            by_cases c50 : x11_5 < (t149.size : Int)
                            · rw [if_pos c50] at H
                              have c50b0 : decide (x11_5 < (t149.size : Int)) = true := decide_eq_true c50
                              clear c50
                              by_cases c51 : 0 ≤ x11_5
                              · rw [if_pos c51] at H
                                have c51b0 : decide (0 ≤ x11_5) = true := decide_eq_true c51
                                clear c51
                                by_cases c53 : (bt t149 x11_5) = 78
                                · rw [if_pos c53] at H
                                  have c53b0 : ((bt t149 x11_5) == 78) = true := beq_iff_eq.mpr c53
                                  have c53b1 : ((bt t149 x11_5) != 78) = false := bne_eq_false_iff_eq.mpr c53
                                  clear c53
                                  have H' := Aside0.mk H
                                  clear H
                                  have p52 : 0 ≤ (x11_5 : Int) := of_decide_eq_true (by first | (with_reducible assumption) | assumption)
                                  have q52 : x11_5 < (t149.size : Int) := of_decide_eq_true (by first | (with_reducible assumption) | assumption)
                                  have hx52 := bt_at t149 x11_5
                                  replace p52 := eq_true p52
                                  replace q52 := eq_true q52
                                  go_wp2
                                  go_roundg k5
                                  case measure => have := HJ15.out; have := HJ26.out; have := HJ32.out; have := HJ41.out; have := HK5.out; omega
                                  case rel => exact ⟨(x9_5), (wrap64 (x11_5 + 1)), (x139000_5), (x139001_5), (x139002_5), (x139003_5), (x139004_5), (by first | rfl | (simp; done) | (simp [*]; done)), (by first | rfl | (simp; done) | (simp [*]; done)), H', ⟨by have := HJ15.out; have := HJ26.out; have := HJ32.out; have := HJ41.out; have := HK5.out; omega⟩, ⟨by (with_reducible repeat (first | refine blk_drewN ?_ _ | refine blk_drew ?_ | refine blk_alloc ?_ _)); exact BK136.out⟩, ⟨by (with_reducible repeat (first | refine blk_drewN ?_ _ | refine blk_drew ?_ | refine blk_alloc ?_ _)); exact BK138.out⟩, ⟨by repeat (first | (with_reducible first | exact HB.out | apply below_alloc | apply pw_below_drewN | apply below_drew1 | refine below_set ?_ GE136.out | refine below_set ?_ GE138.out) | exact HB.out)⟩⟩
                                · rw [if_neg c53] at H
                                  have c53b0 : ((bt t149 x11_5) == 78) = false := beq_eq_false_iff_ne.mpr c53
                                  have c53b1 : ((bt t149 x11_5) != 78) = true := bne_iff_ne.mpr c53
                                  replace H := Option.bind_eq_some_iff.mp H
                                  obtain ⟨t152, A550, H⟩ := H
                                  replace H : (if t152 = 0 then (none) else ((camletref39_set.f x139000_5 x139001_5 x139002_5 x139003_5 x139004_5 (bt t149 x11_5) (Int.tmod (wrap64 (Int.tdiv (wrap64 (a0)) t152)) 32)).bind fun bt153 => (camletref39_Take.l0 k5 a0 (wrap64 (a0)) (wrap64 (x9_5 - 5)) t149 (wrap64 (x11_5 + 1)) bt153.1 bt153.2.1 bt153.2.2.1 bt153.2.2.2.1 bt153.2.2.2.2))) = some (r1, r2, r3, r4, r5, r6) := H
                                  have A55 := Aside0.mk A550
                                  clear A550
                                  by_cases c56 : t152 = 0
                                  · rw [if_pos c56] at H
                                    exact absurd H (by simp)
                                  · rw [if_neg c56] at H
                                    have c56b0 : (t152 == 0) = false := beq_eq_false_iff_ne.mpr c56
                                    have c56b1 : (t152 != 0) = true := bne_iff_ne.mpr c56
                                    replace H := Option.bind_eq_some_iff.mp H
                                    obtain ⟨⟨t153, t154, t155, t156, t157⟩, A570, H⟩ := H
                                    replace H : (camletref39_Take.l0 k5 a0 (wrap64 (a0)) (wrap64 (x9_5 - 5)) t149 (wrap64 (x11_5 + 1)) t153 t154 t155 t156 t157) = some (r1, r2, r3, r4, r5, r6) := H
                                    have A57 := Aside0.mk A570
                                    clear A570
                                    have H' := Aside0.mk H
                                    clear H
                                    have p52 : 0 ≤ (x11_5 : Int) := of_decide_eq_true (by first | (with_reducible assumption) | assumption)
                                    have q52 : x11_5 < (t149.size : Int) := of_decide_eq_true (by first | (with_reducible assumption) | assumption)
                                    have hx52 := bt_at t149 x11_5
                                    replace p52 := eq_true p52
                                    replace q52 := eq_true q52
                                    try go_wp2
                                    have n0_ := Aside0.mk (blk_drew BK136.out)
                                    have n1_ := Aside0.mk (blk_drew BK138.out)
                                    have n2_ := Aside0.mk (below_drew1 HB.out)
                                    clear BK136
                                    clear BK138
                                    clear HB
                                    have BK136 := n0_
                                    have BK138 := n1_
                                    have HB := n2_
                                    clear n0_ n1_ n2_
                                    have p54 : 0 ≤ (x11_5 : Int) := of_decide_eq_true (by first | (with_reducible assumption) | assumption)
                                    have q54 : x11_5 < (t149.size : Int) := of_decide_eq_true (by first | (with_reducible assumption) | assumption)
                                    have hx54 := bt_at t149 x11_5
                                    replace p54 := eq_true p54
                                    replace q54 := eq_true q54
                                    refine start_ (n := 11) (S := fun w' => w'.cell? ⟨gb138, 0, none⟩ = some (.int .i64 x139000_5) ∧ w'.cell? ⟨gb138, 1, none⟩ = some (.int .i64 x139001_5) ∧ w'.cell? ⟨gb138, 2, none⟩ = some (.int .i64 x139002_5) ∧ w'.cell? ⟨gb138, 3, none⟩ = some (.int .i64 x139003_5) ∧ w'.cell? ⟨gb138, 4, none⟩ = some (.int .i64 x139004_5)) (ds := [10]) #[false, false, false, false, false, false, false, false, false, false, false] (by kernel_rfl) rfl rfl ⟨(blk_cell BK138.out 0).trans rfl, (blk_cell BK138.out 1).trans rfl, (blk_cell BK138.out 2).trans rfl, (blk_cell BK138.out 3).trans rfl, (blk_cell BK138.out 4).trans rfl⟩ (fun hHeld => ?_); refine with_tabW camletref39_Take.tab17 camletref39_Take.bits17 (fun HT_ HW_ => ?_)
                                    generalize wr.drew = w58 at BK136 BK138 HB hHeld ⊢
                                    refine pure_ (i := 1) (N := some 77) (v := ?_) (a' := ?_) #[false, true, false, false, false, false, false, false, false, false, false] rfl rfl (any_of HT_.out (by kernel_rfl)) (fun _ _ _ h => h) (Or.inl ⟨by rfl, ?_⟩) ?_ ?_
                                    rotate_left
                                    · intro w'
                                      go_simp
                                      with_reducible rfl
                                    rotate_left
                                    · simp only [Act.put, List.setIfInBounds_toArray, List.set_cons_zero, List.set_cons_succ, i64_w, i32_w]
                                      rfl
                                    refine pure_ (i := 2) (N := some 78) (v := ?_) (a' := ?_) #[false, true, true, false, false, false, false, false, false, false, false] rfl rfl (any_of HT_.out (by kernel_rfl)) (fun _ _ _ h => h) (Or.inl ⟨by rfl, ?_⟩) ?_ ?_
                                    rotate_left
                                    · intro w'
                                      go_simp
                                      with_reducible rfl
                                    rotate_left
                                    · simp only [Act.put, List.setIfInBounds_toArray, List.set_cons_zero, List.set_cons_succ, i64_w, i32_w]
                                      rfl
                                    refine pure_ (i := 4) (N := some 80) (v := ?_) (a' := ?_) #[false, true, true, false, true, false, false, false, false, false, false] rfl rfl (any_of HT_.out (by kernel_rfl)) (fun _ _ _ h => h) (Or.inl ⟨by rfl, ?_⟩) ?_ ?_
                                    rotate_left
                                    · intro w'
                                      go_simp
                                      with_reducible rfl
                                    rotate_left
                                    · simp only [Act.put, List.setIfInBounds_toArray, List.set_cons_zero, List.set_cons_succ, i64_w, i32_w]
                                      rfl
                                    refine pure_ (i := 5) (N := some 81) (v := ?_) (a' := ?_) #[false, true, true, false, true, true, false, false, false, false, false] rfl rfl (any_of HT_.out (by kernel_rfl)) (fun _ _ _ h => h) (Or.inl ⟨by rfl, ?_⟩) ?_ ?_
                                    rotate_left
                                    · intro w'
                                      go_simp
                                      with_reducible rfl
                                    rotate_left
                                    · simp only [Act.put, List.setIfInBounds_toArray, List.set_cons_zero, List.set_cons_succ, i64_w, i32_w]
                                      rfl
                                    refine take_ (i := 0) (N := some 76) (v := ?_) (a' := ?_) #[true, true, true, false, true, true, false, false, false, false, false] rfl rfl (take_ofW HT_.out HW_.out (by kernel_rfl)) (fun _ _ _ h => h) (Or.inl ⟨by rfl, ?_⟩) hHeld ?_ ?_
                                    rotate_left
                                    · rintro w' ⟨s0, s1, s2, s3, s4⟩
                                      go_simp
                                      with_reducible rfl
                                    rotate_left
                                    · simp only [Act.put, List.setIfInBounds_toArray, List.set_cons_zero, List.set_cons_succ, i64_w, i32_w]
                                      rfl
                                    refine take_ (i := 3) (N := some 79) (v := ?_) (a' := ?_) #[true, true, true, true, true, true, false, false, false, false, false] rfl rfl (take_ofW HT_.out HW_.out (by kernel_rfl)) (fun _ _ _ h => h) (Or.inl ⟨by rfl, ?_⟩) hHeld ?_ ?_
                                    rotate_left
                                    · rintro w' ⟨s0, s1, s2, s3, s4⟩
                                      go_simp
                                      with_reducible rfl
                                    rotate_left
                                    · simp only [Act.put, List.setIfInBounds_toArray, List.set_cons_zero, List.set_cons_succ, i64_w, i32_w]
                                      rfl
                                    refine one_ (i := 6) (N := some 82) #[true, true, true, true, true, true, true, false, false, false, false] rfl rfl (one_of HT_.out (by kernel_rfl)) (by decide) (fun K hK => ?_)
                                    refine goes_ Tryd.func22 (by kernel_rfl) rfl #[.int .i64 x9_5] (by rfl) rfl rfl (by (try simp only [List.map_toArray, List.map_cons, List.map_nil]); first | done | rfl | (simp only [List.length_drop, List.length_take]; rfl)) ?_
                                    with_reducible refine (camletref39_power.calls k5 x9_5 t152 _ A55.out).mono ?_
                                    rintro e w' ⟨rfl, ⟨nd, rfl⟩⟩
                                    refine ⟨_, rfl, ?_⟩
                                    refine hK.out _ _ ⟨(blk_cell BK138.out 0).trans rfl, (blk_cell BK138.out 1).trans rfl, (blk_cell BK138.out 2).trans rfl, (blk_cell BK138.out 3).trans rfl, (blk_cell BK138.out 4).trans rfl⟩ (fun hHeld => ?_)
                                    clear hK K
                                    refine norm_ (a' := ?_) ?_ ?_
                                    rotate_left
                                    · show Act.put _ (some 82) _ = _
                                      simp only [Act.put, List.setIfInBounds_toArray, List.set_cons_zero, List.set_cons_succ, i64_w, i32_w]
                                      rfl
                                    refine pure_ (i := 7) (N := some 83) (v := ?_) (a' := ?_) #[true, true, true, true, true, true, true, true, false, false, false] rfl rfl (any_of HT_.out (by kernel_rfl)) (fun _ _ _ h => h) (Or.inl ⟨by rfl, ?_⟩) ?_ ?_
                                    rotate_left
                                    · intro w'
                                      go_simp
                                      with_reducible rfl
                                    rotate_left
                                    · simp only [Act.put, List.setIfInBounds_toArray, List.set_cons_zero, List.set_cons_succ, i64_w, i32_w]
                                      rfl
                                    refine pure_ (i := 8) (N := some 84) (v := ?_) (a' := ?_) #[true, true, true, true, true, true, true, true, true, false, false] rfl rfl (any_of HT_.out (by kernel_rfl)) (fun _ _ _ h => h) (Or.inl ⟨by rfl, ?_⟩) ?_ ?_
                                    rotate_left
                                    · intro w'
                                      go_simp
                                      with_reducible rfl
                                    rotate_left
                                    · simp only [Act.put, List.setIfInBounds_toArray, List.set_cons_zero, List.set_cons_succ, i64_w, i32_w]
                                      rfl
                                    refine one_ (i := 9) (N := some 85) #[true, true, true, true, true, true, true, true, true, true, false] rfl rfl (one_of HT_.out (by kernel_rfl)) (by decide) (fun K hK => ?_)
                                    refine goes_ Tryd.func32 (by kernel_rfl) rfl #[.agg #[.int .i64 x139000_5, .int .i64 x139001_5, .int .i64 x139002_5, .int .i64 x139003_5, .int .i64 x139004_5], .int .u8 (bt t149 x11_5), .int .i64 (Int.tmod (wrap64 (Int.tdiv (wrap64 (a0)) t152)) 32)] (by rfl) rfl rfl (by (try simp only [List.map_toArray, List.map_cons, List.map_nil]); first | done | rfl | (simp only [List.length_drop, List.length_take]; rfl)) ?_
                                    with_reducible refine (camletref39_set.calls x139000_5 x139001_5 x139002_5 x139003_5 x139004_5 (bt t149 x11_5) (Int.tmod (wrap64 (Int.tdiv (wrap64 (a0)) t152)) 32) t153 t154 t155 t156 t157 _ A57.out).mono ?_
                                    rintro e w59 ⟨rfl, hb⟩
                                    refine ⟨_, rfl, ?_⟩
                                    have n0_ := Aside0.mk (blk_below (g := gb136) (o := .cells #[.int .i64 0, .int .i64 0, .int .i64 0, .int .i64 0, .int .i64 0] 24 (0, 0)) (by (with_reducible repeat (first | refine blk_drewN ?_ _ | refine blk_drew ?_ | refine blk_alloc ?_ _)); exact BK136.out) hb)
                                    have n1_ := Aside0.mk (blk_below (g := gb138) (o := .cells #[.int .i64 x139000_5, .int .i64 x139001_5, .int .i64 x139002_5, .int .i64 x139003_5, .int .i64 x139004_5] 24 (0, 0)) (by (with_reducible repeat (first | refine blk_drewN ?_ _ | refine blk_drew ?_ | refine blk_alloc ?_ _)); exact BK138.out) hb)
                                    have n2_ := Aside0.mk (below_step (by repeat (first | (with_reducible first | exact HB.out | apply below_alloc | apply pw_below_drewN | apply below_drew1 | refine below_set ?_ GE136.out | refine below_set ?_ GE138.out) | exact HB.out)) hb)
                                    clear BK136
                                    clear BK138
                                    clear HB
                                    have BK136 := n0_
                                    have BK138 := n1_
                                    have HB := n2_
                                    clear n0_ n1_ n2_
                                    (try clear hb)
                                    (try clear hb2)
                                    (try clear hk)
                                    (try clear hi)
                                    refine hK.out _ _ ⟨(blk_cell BK138.out 0).trans rfl, (blk_cell BK138.out 1).trans rfl, (blk_cell BK138.out 2).trans rfl, (blk_cell BK138.out 3).trans rfl, (blk_cell BK138.out 4).trans rfl⟩ (fun hHeld => ?_)
                                    clear hK K
                                    refine norm_ (a' := ?_) ?_ ?_
                                    rotate_left
                                    · show Act.put _ (some 85) _ = _
                                      simp only [Act.put, List.setIfInBounds_toArray, List.set_cons_zero, List.set_cons_succ, i64_w, i32_w]
                                      rfl
                                    refine last_ (i := 10) (N := none) #[true, true, true, true, true, true, true, true, true, true, true] rfl rfl (one_of HT_.out (by kernel_rfl)) (by decide) (fun K hK => ?_)
                                    have hs60 : w59.cell? ⟨gb138, 0, none⟩ = some (.int .i64 x139000_5) := (blk_cell BK138.out 0).trans rfl
                                    have hfs60 := blk_frozen BK138.out 0
                                    have hns60_0 := NB136_138.out
                                    have hms60_0 := NB138_136.out
                                    have hs61 : w59.cell? ⟨gb138, 1, none⟩ = some (.int .i64 x139001_5) := (blk_cell BK138.out 1).trans rfl
                                    have hfs61 := blk_frozen BK138.out 1
                                    have hns61_0 := NB136_138.out
                                    have hms61_0 := NB138_136.out
                                    have hs62 : w59.cell? ⟨gb138, 2, none⟩ = some (.int .i64 x139002_5) := (blk_cell BK138.out 2).trans rfl
                                    have hfs62 := blk_frozen BK138.out 2
                                    have hns62_0 := NB136_138.out
                                    have hms62_0 := NB138_136.out
                                    have hs63 : w59.cell? ⟨gb138, 3, none⟩ = some (.int .i64 x139003_5) := (blk_cell BK138.out 3).trans rfl
                                    have hfs63 := blk_frozen BK138.out 3
                                    have hns63_0 := NB136_138.out
                                    have hms63_0 := NB138_136.out
                                    have hs64 : w59.cell? ⟨gb138, 4, none⟩ = some (.int .i64 x139004_5) := (blk_cell BK138.out 4).trans rfl
                                    have hfs64 := blk_frozen BK138.out 4
                                    have hns64_0 := NB136_138.out
                                    have hms64_0 := NB138_136.out
                                    refine skip_ (w1 := ?_) (by rfl) rfl ?_ ?_
                                    rotate_left
                                    · go_simp
                                      rfl
                                    refine hK.out _ _ ?_
                                    clear hK K
                                    refine done_ (done_of HT_.out (by kernel_rfl)) ?_
                                    try go_wp2
                                    go_roundg k5
                                    case measure => have := HJ15.out; have := HJ26.out; have := HJ32.out; have := HJ41.out; have := HK5.out; omega
                                    case rel => exact ⟨(wrap64 (x9_5 - 5)), (wrap64 (x11_5 + 1)), (t153), (t154), (t155), (t156), (t157), (by first | rfl | (simp; done) | (simp [*]; done)), (by first | rfl | (simp; done) | (simp [*]; done)), H', ⟨by have := HJ15.out; have := HJ26.out; have := HJ32.out; have := HJ41.out; have := HK5.out; omega⟩, ⟨by (with_reducible repeat (first | refine blk_drewN ?_ _ | refine blk_drew ?_ | refine blk_alloc ?_ _)); refine blk_far ?_ NB136_138.out _; (with_reducible repeat (first | refine blk_drewN ?_ _ | refine blk_drew ?_ | refine blk_alloc ?_ _)); refine blk_far ?_ NB136_138.out _; (with_reducible repeat (first | refine blk_drewN ?_ _ | refine blk_drew ?_ | refine blk_alloc ?_ _)); refine blk_far ?_ NB136_138.out _; (with_reducible repeat (first | refine blk_drewN ?_ _ | refine blk_drew ?_ | refine blk_alloc ?_ _)); refine blk_far ?_ NB136_138.out _; (with_reducible repeat (first | refine blk_drewN ?_ _ | refine blk_drew ?_ | refine blk_alloc ?_ _)); refine blk_far ?_ NB136_138.out _; (with_reducible repeat (first | refine blk_drewN ?_ _ | refine blk_drew ?_ | refine blk_alloc ?_ _)); exact BK136.out⟩, ⟨by (with_reducible repeat (first | refine blk_drewN ?_ _ | refine blk_drew ?_ | refine blk_alloc ?_ _)); refine blk_put (cs := #[.int .i64 t153, .int .i64 t154, .int .i64 t155, .int .i64 t156, .int .i64 x139004_5]) ?_ 4 _ rfl; (with_reducible repeat (first | refine blk_drewN ?_ _ | refine blk_drew ?_ | refine blk_alloc ?_ _)); refine blk_put (cs := #[.int .i64 t153, .int .i64 t154, .int .i64 t155, .int .i64 x139003_5, .int .i64 x139004_5]) ?_ 3 _ rfl; (with_reducible repeat (first | refine blk_drewN ?_ _ | refine blk_drew ?_ | refine blk_alloc ?_ _)); refine blk_put (cs := #[.int .i64 t153, .int .i64 t154, .int .i64 x139002_5, .int .i64 x139003_5, .int .i64 x139004_5]) ?_ 2 _ rfl; (with_reducible repeat (first | refine blk_drewN ?_ _ | refine blk_drew ?_ | refine blk_alloc ?_ _)); refine blk_put (cs := #[.int .i64 t153, .int .i64 x139001_5, .int .i64 x139002_5, .int .i64 x139003_5, .int .i64 x139004_5]) ?_ 1 _ rfl; (with_reducible repeat (first | refine blk_drewN ?_ _ | refine blk_drew ?_ | refine blk_alloc ?_ _)); refine blk_put (cs := #[.int .i64 x139000_5, .int .i64 x139001_5, .int .i64 x139002_5, .int .i64 x139003_5, .int .i64 x139004_5]) ?_ 0 _ rfl; (with_reducible repeat (first | refine blk_drewN ?_ _ | refine blk_drew ?_ | refine blk_alloc ?_ _)); exact BK138.out⟩, ⟨by repeat (first | (with_reducible first | exact HB.out | apply below_alloc | apply pw_below_drewN | apply below_drew1 | refine below_set ?_ GE136.out | refine below_set ?_ GE138.out) | exact HB.out)⟩⟩
                              · rw [if_neg c51] at H
                                exact absurd H (by simp)
                            · rw [if_neg c50] at H
                              have c50b0 : decide (x11_5 < (t149.size : Int)) = false := decide_eq_false c50
                              clear c50
                              replace H := Option.bind_eq_some_iff.mp H
                              obtain ⟨⟨t150, t151⟩, A650, H⟩ := H
                              replace H : (if t151 = 0 then (if t150 = a0 then (some (x139000_5, x139001_5, x139002_5, x139003_5, x139004_5, true)) else (some (0, 0, 0, 0, 0, false))) else (some (0, 0, 0, 0, 0, false))) = some (r1, r2, r3, r4, r5, r6) := H
                              have A65 := Aside0.mk A650
                              clear A650
                              by_cases c66 : t151 = 0
                              · rw [if_pos c66] at H
                                have c66b0 : (t151 == 0) = true := beq_iff_eq.mpr c66
                                have c66b1 : (t151 != 0) = false := bne_eq_false_iff_eq.mpr c66
                                clear c66
                                by_cases c67 : t150 = a0
                                · rw [if_pos c67] at H
                                  have c67b0 : (t150 == a0) = true := beq_iff_eq.mpr c67
                                  have c67b1 : (t150 != a0) = false := bne_eq_false_iff_eq.mpr c67
                                  clear c67
                                  simp only [Option.some.injEq, Prod.mk.injEq] at H
                                  obtain ⟨rfl, rfl, rfl, rfl, rfl, rfl⟩ := H
                                  have hnb68 := NB138_136.out
                                  have hnc68 := NB136_138.out
                                  have hcz69_0 : wr.cell? ⟨gb138, 0, none⟩ = some (.int .i64 x139000_5) := (blk_cell BK138.out 0).trans rfl
                                  have hcz69_1 : wr.cell? ⟨gb138, 1, none⟩ = some (.int .i64 x139001_5) := (blk_cell BK138.out 1).trans rfl
                                  have hcz69_2 : wr.cell? ⟨gb138, 2, none⟩ = some (.int .i64 x139002_5) := (blk_cell BK138.out 2).trans rfl
                                  have hcz69_3 : wr.cell? ⟨gb138, 3, none⟩ = some (.int .i64 x139003_5) := (blk_cell BK138.out 3).trans rfl
                                  have hcz69_4 : wr.cell? ⟨gb138, 4, none⟩ = some (.int .i64 x139004_5) := (blk_cell BK138.out 4).trans rfl
                                  have hfz69_0 := blk_frozen BK138.out 0
                                  have hfz69_1 := blk_frozen BK138.out 1
                                  have hfz69_2 := blk_frozen BK138.out 2
                                  have hfz69_3 := blk_frozen BK138.out 3
                                  have hfz69_4 := blk_frozen BK138.out 4
                                  go_wp2_with (first | (go_at_call 9; (with_reducible refine (camletref39_Put.calls k5 x139000_5 x139001_5 x139002_5 x139003_5 x139004_5 t150 t151 _ A65.out).mono ?_); rintro e w70 ⟨rfl, hb⟩; have n0_ := Aside0.mk (blk_below (g := gb136) (o := .cells #[.int .i64 0, .int .i64 0, .int .i64 0, .int .i64 0, .int .i64 0] 24 (0, 0)) (by (with_reducible repeat (first | refine blk_drewN ?_ _ | refine blk_drew ?_ | refine blk_alloc ?_ _)); exact BK136.out) hb); have n1_ := Aside0.mk (blk_below (g := gb138) (o := .cells #[.int .i64 x139000_5, .int .i64 x139001_5, .int .i64 x139002_5, .int .i64 x139003_5, .int .i64 x139004_5] 24 (0, 0)) (by (with_reducible repeat (first | refine blk_drewN ?_ _ | refine blk_drew ?_ | refine blk_alloc ?_ _)); exact BK138.out) hb); have n2_ := Aside0.mk (below_step (by repeat (first | (with_reducible first | exact HB.out | apply below_alloc | apply pw_below_drewN | apply below_drew1 | refine below_set ?_ GE136.out | refine below_set ?_ GE138.out) | exact HB.out)) hb); clear BK136; clear BK138; clear HB; have BK136 := n0_; have BK138 := n1_; have HB := n2_; clear n0_ n1_ n2_; (try clear hb); (try clear hb2); (try clear hk); (try clear hi); have hcz71_0 : w70.cell? ⟨gb138, 0, none⟩ = some (.int .i64 x139000_5) := (blk_cell BK138.out 0).trans rfl; have hcz71_1 : w70.cell? ⟨gb138, 1, none⟩ = some (.int .i64 x139001_5) := (blk_cell BK138.out 1).trans rfl; have hcz71_2 : w70.cell? ⟨gb138, 2, none⟩ = some (.int .i64 x139002_5) := (blk_cell BK138.out 2).trans rfl; have hcz71_3 : w70.cell? ⟨gb138, 3, none⟩ = some (.int .i64 x139003_5) := (blk_cell BK138.out 3).trans rfl; have hcz71_4 : w70.cell? ⟨gb138, 4, none⟩ = some (.int .i64 x139004_5) := (blk_cell BK138.out 4).trans rfl; have hfz71_0 := blk_frozen BK138.out 0; have hfz71_1 := blk_frozen BK138.out 1; have hfz71_2 := blk_frozen BK138.out 2; have hfz71_3 := blk_frozen BK138.out 3; have hfz71_4 := blk_frozen BK138.out 4; have hcz72_0 : w70.cell? ⟨gb136, 0, none⟩ = some (.int .i64 0) := (blk_cell BK136.out 0).trans rfl; have hcz72_1 : w70.cell? ⟨gb136, 1, none⟩ = some (.int .i64 0) := (blk_cell BK136.out 1).trans rfl; have hcz72_2 : w70.cell? ⟨gb136, 2, none⟩ = some (.int .i64 0) := (blk_cell BK136.out 2).trans rfl; have hcz72_3 : w70.cell? ⟨gb136, 3, none⟩ = some (.int .i64 0) := (blk_cell BK136.out 3).trans rfl; have hcz72_4 : w70.cell? ⟨gb136, 4, none⟩ = some (.int .i64 0) := (blk_cell BK136.out 4).trans rfl; have hfz72_0 := blk_frozen BK136.out 0; have hfz72_1 := blk_frozen BK136.out 1; have hfz72_2 := blk_frozen BK136.out 2; have hfz72_3 := blk_frozen BK136.out 3; have hfz72_4 := blk_frozen BK136.out 4))
                                  refine bodyPost_ret (results_ct rfl _ _ gb136 24 #[.int .i64 x139000_5, .int .i64 x139001_5, .int .i64 x139002_5, .int .i64 x139003_5, .int .i64 x139004_5] (0, 0) _ rfl (by (with_reducible repeat (first | refine blk_drewN ?_ _ | refine blk_drew ?_ | refine blk_alloc ?_ _)); refine blk_put (cs := #[.int .i64 x139000_5, .int .i64 x139001_5, .int .i64 x139002_5, .int .i64 x139003_5, .int .i64 0]) ?_ 4 _ rfl; (with_reducible repeat (first | refine blk_drewN ?_ _ | refine blk_drew ?_ | refine blk_alloc ?_ _)); refine blk_put (cs := #[.int .i64 x139000_5, .int .i64 x139001_5, .int .i64 x139002_5, .int .i64 0, .int .i64 0]) ?_ 3 _ rfl; (with_reducible repeat (first | refine blk_drewN ?_ _ | refine blk_drew ?_ | refine blk_alloc ?_ _)); refine blk_put (cs := #[.int .i64 x139000_5, .int .i64 x139001_5, .int .i64 0, .int .i64 0, .int .i64 0]) ?_ 2 _ rfl; (with_reducible repeat (first | refine blk_drewN ?_ _ | refine blk_drew ?_ | refine blk_alloc ?_ _)); refine blk_put (cs := #[.int .i64 x139000_5, .int .i64 0, .int .i64 0, .int .i64 0, .int .i64 0]) ?_ 1 _ rfl; (with_reducible repeat (first | refine blk_drewN ?_ _ | refine blk_drew ?_ | refine blk_alloc ?_ _)); refine blk_put (cs := #[.int .i64 0, .int .i64 0, .int .i64 0, .int .i64 0, .int .i64 0]) ?_ 0 _ rfl; (with_reducible repeat (first | refine blk_drewN ?_ _ | refine blk_drew ?_ | refine blk_alloc ?_ _)); exact BK136.out) Tryd.underlying24 rfl (by kernel_rfl)) rfl ?_
                                  exact ⟨by first | rfl | (simp [errW_none, errW_some] <;> rfl) | (simp [*, errW_none, errW_some] <;> rfl), by repeat (first | (with_reducible first | exact HB.out | apply below_alloc | apply pw_below_drewN | apply below_drew1 | refine below_set ?_ GE136.out | refine below_set ?_ GE138.out) | exact HB.out)⟩
                                · rw [if_neg c67] at H
                                  have c67b0 : (t150 == a0) = false := beq_eq_false_iff_ne.mpr c67
                                  have c67b1 : (t150 != a0) = true := bne_iff_ne.mpr c67
                                  simp only [Option.some.injEq, Prod.mk.injEq] at H
                                  obtain ⟨rfl, rfl, rfl, rfl, rfl, rfl⟩ := H
                                  have hnb73 := NB138_136.out
                                  have hnc73 := NB136_138.out
                                  have hcz74_0 : wr.cell? ⟨gb138, 0, none⟩ = some (.int .i64 x139000_5) := (blk_cell BK138.out 0).trans rfl
                                  have hcz74_1 : wr.cell? ⟨gb138, 1, none⟩ = some (.int .i64 x139001_5) := (blk_cell BK138.out 1).trans rfl
                                  have hcz74_2 : wr.cell? ⟨gb138, 2, none⟩ = some (.int .i64 x139002_5) := (blk_cell BK138.out 2).trans rfl
                                  have hcz74_3 : wr.cell? ⟨gb138, 3, none⟩ = some (.int .i64 x139003_5) := (blk_cell BK138.out 3).trans rfl
                                  have hcz74_4 : wr.cell? ⟨gb138, 4, none⟩ = some (.int .i64 x139004_5) := (blk_cell BK138.out 4).trans rfl
                                  have hfz74_0 := blk_frozen BK138.out 0
                                  have hfz74_1 := blk_frozen BK138.out 1
                                  have hfz74_2 := blk_frozen BK138.out 2
                                  have hfz74_3 := blk_frozen BK138.out 3
                                  have hfz74_4 := blk_frozen BK138.out 4
                                  go_wp2_with (first | (go_at_call 9; (with_reducible refine (camletref39_Put.calls k5 x139000_5 x139001_5 x139002_5 x139003_5 x139004_5 t150 t151 _ A65.out).mono ?_); rintro e w75 ⟨rfl, hb⟩; have n0_ := Aside0.mk (blk_below (g := gb136) (o := .cells #[.int .i64 0, .int .i64 0, .int .i64 0, .int .i64 0, .int .i64 0] 24 (0, 0)) (by (with_reducible repeat (first | refine blk_drewN ?_ _ | refine blk_drew ?_ | refine blk_alloc ?_ _)); exact BK136.out) hb); have n1_ := Aside0.mk (blk_below (g := gb138) (o := .cells #[.int .i64 x139000_5, .int .i64 x139001_5, .int .i64 x139002_5, .int .i64 x139003_5, .int .i64 x139004_5] 24 (0, 0)) (by (with_reducible repeat (first | refine blk_drewN ?_ _ | refine blk_drew ?_ | refine blk_alloc ?_ _)); exact BK138.out) hb); have n2_ := Aside0.mk (below_step (by repeat (first | (with_reducible first | exact HB.out | apply below_alloc | apply pw_below_drewN | apply below_drew1 | refine below_set ?_ GE136.out | refine below_set ?_ GE138.out) | exact HB.out)) hb); clear BK136; clear BK138; clear HB; have BK136 := n0_; have BK138 := n1_; have HB := n2_; clear n0_ n1_ n2_; (try clear hb); (try clear hb2); (try clear hk); (try clear hi); have hcz76_0 : w75.cell? ⟨gb136, 0, none⟩ = some (.int .i64 0) := (blk_cell BK136.out 0).trans rfl; have hcz76_1 : w75.cell? ⟨gb136, 1, none⟩ = some (.int .i64 0) := (blk_cell BK136.out 1).trans rfl; have hcz76_2 : w75.cell? ⟨gb136, 2, none⟩ = some (.int .i64 0) := (blk_cell BK136.out 2).trans rfl; have hcz76_3 : w75.cell? ⟨gb136, 3, none⟩ = some (.int .i64 0) := (blk_cell BK136.out 3).trans rfl; have hcz76_4 : w75.cell? ⟨gb136, 4, none⟩ = some (.int .i64 0) := (blk_cell BK136.out 4).trans rfl; have hfz76_0 := blk_frozen BK136.out 0; have hfz76_1 := blk_frozen BK136.out 1; have hfz76_2 := blk_frozen BK136.out 2; have hfz76_3 := blk_frozen BK136.out 3; have hfz76_4 := blk_frozen BK136.out 4))
                                  refine bodyPost_ret (results_ct rfl _ _ gb136 24 #[.int .i64 0, .int .i64 0, .int .i64 0, .int .i64 0, .int .i64 0] (0, 0) _ rfl (by (with_reducible repeat (first | refine blk_drewN ?_ _ | refine blk_drew ?_ | refine blk_alloc ?_ _)); refine blk_put (cs := #[.int .i64 0, .int .i64 0, .int .i64 0, .int .i64 0, .int .i64 0]) ?_ 4 _ rfl; (with_reducible repeat (first | refine blk_drewN ?_ _ | refine blk_drew ?_ | refine blk_alloc ?_ _)); refine blk_put (cs := #[.int .i64 0, .int .i64 0, .int .i64 0, .int .i64 0, .int .i64 0]) ?_ 3 _ rfl; (with_reducible repeat (first | refine blk_drewN ?_ _ | refine blk_drew ?_ | refine blk_alloc ?_ _)); refine blk_put (cs := #[.int .i64 0, .int .i64 0, .int .i64 0, .int .i64 0, .int .i64 0]) ?_ 2 _ rfl; (with_reducible repeat (first | refine blk_drewN ?_ _ | refine blk_drew ?_ | refine blk_alloc ?_ _)); refine blk_put (cs := #[.int .i64 0, .int .i64 0, .int .i64 0, .int .i64 0, .int .i64 0]) ?_ 1 _ rfl; (with_reducible repeat (first | refine blk_drewN ?_ _ | refine blk_drew ?_ | refine blk_alloc ?_ _)); refine blk_put (cs := #[.int .i64 0, .int .i64 0, .int .i64 0, .int .i64 0, .int .i64 0]) ?_ 0 _ rfl; (with_reducible repeat (first | refine blk_drewN ?_ _ | refine blk_drew ?_ | refine blk_alloc ?_ _)); exact BK136.out) Tryd.underlying24 rfl (by kernel_rfl)) rfl ?_
                                  exact ⟨by first | rfl | (simp [errW_none, errW_some] <;> rfl) | (simp [*, errW_none, errW_some] <;> rfl), by repeat (first | (with_reducible first | exact HB.out | apply below_alloc | apply pw_below_drewN | apply below_drew1 | refine below_set ?_ GE136.out | refine below_set ?_ GE138.out) | exact HB.out)⟩
                              · rw [if_neg c66] at H
                                have c66b0 : (t151 == 0) = false := beq_eq_false_iff_ne.mpr c66
                                have c66b1 : (t151 != 0) = true := bne_iff_ne.mpr c66
                                simp only [Option.some.injEq, Prod.mk.injEq] at H
                                obtain ⟨rfl, rfl, rfl, rfl, rfl, rfl⟩ := H
                                have hnb77 := NB138_136.out
                                have hnc77 := NB136_138.out
                                have hcz78_0 : wr.cell? ⟨gb138, 0, none⟩ = some (.int .i64 x139000_5) := (blk_cell BK138.out 0).trans rfl
                                have hcz78_1 : wr.cell? ⟨gb138, 1, none⟩ = some (.int .i64 x139001_5) := (blk_cell BK138.out 1).trans rfl
                                have hcz78_2 : wr.cell? ⟨gb138, 2, none⟩ = some (.int .i64 x139002_5) := (blk_cell BK138.out 2).trans rfl
                                have hcz78_3 : wr.cell? ⟨gb138, 3, none⟩ = some (.int .i64 x139003_5) := (blk_cell BK138.out 3).trans rfl
                                have hcz78_4 : wr.cell? ⟨gb138, 4, none⟩ = some (.int .i64 x139004_5) := (blk_cell BK138.out 4).trans rfl
                                have hfz78_0 := blk_frozen BK138.out 0
                                have hfz78_1 := blk_frozen BK138.out 1
                                have hfz78_2 := blk_frozen BK138.out 2
                                have hfz78_3 := blk_frozen BK138.out 3
                                have hfz78_4 := blk_frozen BK138.out 4
                                go_wp2_with (first | (go_at_call 9; (with_reducible refine (camletref39_Put.calls k5 x139000_5 x139001_5 x139002_5 x139003_5 x139004_5 t150 t151 _ A65.out).mono ?_); rintro e w79 ⟨rfl, hb⟩; have n0_ := Aside0.mk (blk_below (g := gb136) (o := .cells #[.int .i64 0, .int .i64 0, .int .i64 0, .int .i64 0, .int .i64 0] 24 (0, 0)) (by (with_reducible repeat (first | refine blk_drewN ?_ _ | refine blk_drew ?_ | refine blk_alloc ?_ _)); exact BK136.out) hb); have n1_ := Aside0.mk (blk_below (g := gb138) (o := .cells #[.int .i64 x139000_5, .int .i64 x139001_5, .int .i64 x139002_5, .int .i64 x139003_5, .int .i64 x139004_5] 24 (0, 0)) (by (with_reducible repeat (first | refine blk_drewN ?_ _ | refine blk_drew ?_ | refine blk_alloc ?_ _)); exact BK138.out) hb); have n2_ := Aside0.mk (below_step (by repeat (first | (with_reducible first | exact HB.out | apply below_alloc | apply pw_below_drewN | apply below_drew1 | refine below_set ?_ GE136.out | refine below_set ?_ GE138.out) | exact HB.out)) hb); clear BK136; clear BK138; clear HB; have BK136 := n0_; have BK138 := n1_; have HB := n2_; clear n0_ n1_ n2_; (try clear hb); (try clear hb2); (try clear hk); (try clear hi); have hcz80_0 : w79.cell? ⟨gb136, 0, none⟩ = some (.int .i64 0) := (blk_cell BK136.out 0).trans rfl; have hcz80_1 : w79.cell? ⟨gb136, 1, none⟩ = some (.int .i64 0) := (blk_cell BK136.out 1).trans rfl; have hcz80_2 : w79.cell? ⟨gb136, 2, none⟩ = some (.int .i64 0) := (blk_cell BK136.out 2).trans rfl; have hcz80_3 : w79.cell? ⟨gb136, 3, none⟩ = some (.int .i64 0) := (blk_cell BK136.out 3).trans rfl; have hcz80_4 : w79.cell? ⟨gb136, 4, none⟩ = some (.int .i64 0) := (blk_cell BK136.out 4).trans rfl; have hfz80_0 := blk_frozen BK136.out 0; have hfz80_1 := blk_frozen BK136.out 1; have hfz80_2 := blk_frozen BK136.out 2; have hfz80_3 := blk_frozen BK136.out 3; have hfz80_4 := blk_frozen BK136.out 4))
                                refine bodyPost_ret (results_ct rfl _ _ gb136 24 #[.int .i64 0, .int .i64 0, .int .i64 0, .int .i64 0, .int .i64 0] (0, 0) _ rfl (by (with_reducible repeat (first | refine blk_drewN ?_ _ | refine blk_drew ?_ | refine blk_alloc ?_ _)); refine blk_put (cs := #[.int .i64 0, .int .i64 0, .int .i64 0, .int .i64 0, .int .i64 0]) ?_ 4 _ rfl; (with_reducible repeat (first | refine blk_drewN ?_ _ | refine blk_drew ?_ | refine blk_alloc ?_ _)); refine blk_put (cs := #[.int .i64 0, .int .i64 0, .int .i64 0, .int .i64 0, .int .i64 0]) ?_ 3 _ rfl; (with_reducible repeat (first | refine blk_drewN ?_ _ | refine blk_drew ?_ | refine blk_alloc ?_ _)); refine blk_put (cs := #[.int .i64 0, .int .i64 0, .int .i64 0, .int .i64 0, .int .i64 0]) ?_ 2 _ rfl; (with_reducible repeat (first | refine blk_drewN ?_ _ | refine blk_drew ?_ | refine blk_alloc ?_ _)); refine blk_put (cs := #[.int .i64 0, .int .i64 0, .int .i64 0, .int .i64 0, .int .i64 0]) ?_ 1 _ rfl; (with_reducible repeat (first | refine blk_drewN ?_ _ | refine blk_drew ?_ | refine blk_alloc ?_ _)); refine blk_put (cs := #[.int .i64 0, .int .i64 0, .int .i64 0, .int .i64 0, .int .i64 0]) ?_ 0 _ rfl; (with_reducible repeat (first | refine blk_drewN ?_ _ | refine blk_drew ?_ | refine blk_alloc ?_ _)); exact BK136.out) Tryd.underlying24 rfl (by kernel_rfl)) rfl ?_
                                exact ⟨by first | rfl | (simp [errW_none, errW_some] <;> rfl) | (simp [*, errW_none, errW_some] <;> rfl), by repeat (first | (with_reducible first | exact HB.out | apply below_alloc | apply pw_below_drewN | apply below_drew1 | refine below_set ?_ GE136.out | refine below_set ?_ GE138.out) | exact HB.out)⟩

end Go.Proofs.YtcdeekfgdmckmaaDoor.Q
