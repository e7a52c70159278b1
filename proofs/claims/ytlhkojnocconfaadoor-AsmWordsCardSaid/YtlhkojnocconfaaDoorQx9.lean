-- Made by a program of this session (wip/tools/pr.py) out of the translation, over the kit's printer. Not trusted: Lean checks it.
import Derived.Test.YtlhkojnocconfaaDoorQx0
import Derived.Test.YtlhkojnocconfaaDoorQx4
import Derived.Test.YtlhkojnocconfaaDoorQx8
namespace Go.Proofs.YtlhkojnocconfaaDoor.Q
open Go.RowKit Go.Proofs.YtlhkojnocconfaaDoorW.PrintWords Go.Proofs.YtlhkojnocconfaaDoorW.PrintLast Go.Proofs.YtlhkojnocconfaaDoorW.PrintMore
attribute [local go_sem] max2_int min2_int max_two min_two max_three min_three max_four min_four   -- for this text's walks alone
set_option linter.unusedVariables false
set_option linter.unusedSimpArgs false

/-! ### camletref40_one: function 22 -/
mutual
def camletref40_one.j0 : Nat → List (S36) → Int → Bool → ByteArray → Int → Int → Int → Int → Int → ByteArray → Option (Int × Int)
  | 0, _, _, _, _, _, _, _, _, _, _ => none
  | k + 1, x0, x1, x31, x144000, x144001, x144002, x144003, x144004, x144005, x144006 => if x31 = true then (some (0, 3)) else (if x144000.toList = ([] : List UInt8) then (camletref40_one.j1 k x0 x1 false x144000 x144001 x144002 x144003 x144004 x144005 x144006) else ((camletref40_Labels.f k x0 x144000).bind fun t147 => (camletref40_one.j1 k x0 x1 (decide (t147 < x1)) x144000 x144001 x144002 x144003 x144004 x144005 x144006)))
def camletref40_one.j1 : Nat → List (S36) → Int → Bool → ByteArray → Int → Int → Int → Int → Int → ByteArray → Option (Int × Int)
  | 0, _, _, _, _, _, _, _, _, _, _ => none
  | k + 1, x0, x1, x42, x144000, x144001, x144002, x144003, x144004, x144005, x144006 => if x42 = true then (some (0, 9)) else (if x144006.toList = ([] : List UInt8) then ((camletref39_Put.f k x144001 x144002 x144003 x144004 x144005).bind fun bt148 => (some (bt148.1, bt148.2))) else ((camletref40_ways.f x144001).bind fun t150 => (if t150 = true then ((camletref40_Labels.f k x0 x144006).bind fun t151 => (if t151 < 0 then (some (0, 25)) else (if x144001 = 1 then ((camletref39_Put.f k x144001 x144002 x144003 x144004 (wrap64 ((wrap64 (2 * t151)) + 1))).bind fun bt152 => (some (bt152.1, bt152.2))) else ((camletref39_Put.f k x144001 x144002 x144003 x144004 (wrap64 ((wrap64 (t151 - x1)) - 1))).bind fun bt154 => (some (bt154.1, bt154.2)))))) else (some (0, 1)))))
end
def camletref40_one.f (k : Nat) (l0 : List (S36)) (a1 : Int) : Option (Int × Int) := if 0 ≤ a1 then (if a1 < (l0.length : Int) then (if ((rd_T36 l0 a1).f0).toList = ([] : List UInt8) then (if ((rd_T36 l0 a1).f2).toList = ([] : List UInt8) then (camletref40_one.j0 k l0 a1 false ((rd_T36 l0 a1).f0) ((rd_T36 l0 a1).f1.f0) ((rd_T36 l0 a1).f1.f1) ((rd_T36 l0 a1).f1.f2) ((rd_T36 l0 a1).f1.f3) ((rd_T36 l0 a1).f1.f4) ((rd_T36 l0 a1).f2)) else ((camletref40_Label.f k ((rd_T36 l0 a1).f2)).bind fun t144 => (camletref40_one.j0 k l0 a1 (!t144) ((rd_T36 l0 a1).f0) ((rd_T36 l0 a1).f1.f0) ((rd_T36 l0 a1).f1.f1) ((rd_T36 l0 a1).f1.f2) ((rd_T36 l0 a1).f1.f3) ((rd_T36 l0 a1).f1.f4) ((rd_T36 l0 a1).f2)))) else ((camletref40_Label.f k ((rd_T36 l0 a1).f0)).bind fun t145 => (if t145 = true then (if ((rd_T36 l0 a1).f2).toList = ([] : List UInt8) then (camletref40_one.j0 k l0 a1 false ((rd_T36 l0 a1).f0) ((rd_T36 l0 a1).f1.f0) ((rd_T36 l0 a1).f1.f1) ((rd_T36 l0 a1).f1.f2) ((rd_T36 l0 a1).f1.f3) ((rd_T36 l0 a1).f1.f4) ((rd_T36 l0 a1).f2)) else ((camletref40_Label.f k ((rd_T36 l0 a1).f2)).bind fun t146 => (camletref40_one.j0 k l0 a1 (!t146) ((rd_T36 l0 a1).f0) ((rd_T36 l0 a1).f1.f0) ((rd_T36 l0 a1).f1.f1) ((rd_T36 l0 a1).f1.f2) ((rd_T36 l0 a1).f1.f3) ((rd_T36 l0 a1).f1.f4) ((rd_T36 l0 a1).f2)))) else (camletref40_one.j0 k l0 a1 true ((rd_T36 l0 a1).f0) ((rd_T36 l0 a1).f1.f0) ((rd_T36 l0 a1).f1.f1) ((rd_T36 l0 a1).f1.f2) ((rd_T36 l0 a1).f1.f3) ((rd_T36 l0 a1).f1.f4) ((rd_T36 l0 a1).f2))))) else (none)) else (none)
theorem camletref40_one.mono_l : ∀ k, (∀ y0 y1 y2 y3 y4 y5 y6 y7 y8 y9, LeO (camletref40_one.j0 k y0 y1 y2 y3 y4 y5 y6 y7 y8 y9) (camletref40_one.j0 (k + 1) y0 y1 y2 y3 y4 y5 y6 y7 y8 y9)) ∧ (∀ y0 y1 y2 y3 y4 y5 y6 y7 y8 y9, LeO (camletref40_one.j1 k y0 y1 y2 y3 y4 y5 y6 y7 y8 y9) (camletref40_one.j1 (k + 1) y0 y1 y2 y3 y4 y5 y6 y7 y8 y9))
  | 0 => ⟨fun _ _ _ _ _ _ _ _ _ _ r h => by simp [camletref40_one.j0] at h, fun _ _ _ _ _ _ _ _ _ _ r h => by simp [camletref40_one.j1] at h⟩
  | k + 1 => by
    obtain ⟨ih0, ih1⟩ := camletref40_one.mono_l k
    refine ⟨?_, ?_⟩
    · intro y0 y1 y2 y3 y4 y5 y6 y7 y8 y9
      unfold camletref40_one.j0
      repeat' first
      | (with_reducible exact ih0 _ _ _ _ _ _ _ _ _ _)
      | (with_reducible exact ih1 _ _ _ _ _ _ _ _ _ _)
      | (with_reducible exact camletref39_Put.mono _ _ _ _ _ _)
      | (with_reducible exact camletref40_Label.mono _ _)
      | (with_reducible exact camletref40_Labels.mono _ _ _)
      | (with_reducible exact LeO.refl _)
      | (with_reducible exact LeO.none _)
      | (with_reducible refine LeO.ite ?_ ?_)
      | (with_reducible refine LeO.bind ?_ (fun _ => ?_))
      | exact ih0 _ _ _ _ _ _ _ _ _ _
      | exact ih1 _ _ _ _ _ _ _ _ _ _
      | exact camletref39_Put.mono _ _ _ _ _ _
      | exact camletref40_Label.mono _ _
      | exact camletref40_Labels.mono _ _ _
      | exact LeO.none _
      | refine LeO.ite ?_ ?_
      | refine LeO.bind ?_ (fun _ => ?_)
    · intro y0 y1 y2 y3 y4 y5 y6 y7 y8 y9
      unfold camletref40_one.j1
      repeat' first
      | (with_reducible exact ih0 _ _ _ _ _ _ _ _ _ _)
      | (with_reducible exact ih1 _ _ _ _ _ _ _ _ _ _)
      | (with_reducible exact camletref39_Put.mono _ _ _ _ _ _)
      | (with_reducible exact camletref40_Label.mono _ _)
      | (with_reducible exact camletref40_Labels.mono _ _ _)
      | (with_reducible exact LeO.refl _)
      | (with_reducible exact LeO.none _)
      | (with_reducible refine LeO.ite ?_ ?_)
      | (with_reducible refine LeO.bind ?_ (fun _ => ?_))
      | exact ih0 _ _ _ _ _ _ _ _ _ _
      | exact ih1 _ _ _ _ _ _ _ _ _ _
      | exact camletref39_Put.mono _ _ _ _ _ _
      | exact camletref40_Label.mono _ _
      | exact camletref40_Labels.mono _ _ _
      | exact LeO.none _
      | refine LeO.ite ?_ ?_
      | refine LeO.bind ?_ (fun _ => ?_)
theorem camletref40_one.mono : ∀ a0 a1 k, LeO (camletref40_one.f k a0 a1) (camletref40_one.f (k + 1) a0 a1) := by
  intro a0 a1 k
  obtain ⟨ih0, ih1⟩ := camletref40_one.mono_l k
  unfold camletref40_one.f
  repeat' first
      | (with_reducible exact ih0 _ _ _ _ _ _ _ _ _ _)
      | (with_reducible exact ih1 _ _ _ _ _ _ _ _ _ _)
      | (with_reducible exact camletref39_Put.mono _ _ _ _ _ _)
      | (with_reducible exact camletref40_Label.mono _ _)
      | (with_reducible exact camletref40_Labels.mono _ _ _)
      | (with_reducible exact LeO.refl _)
      | (with_reducible exact LeO.none _)
      | (with_reducible refine LeO.ite ?_ ?_)
      | (with_reducible refine LeO.bind ?_ (fun _ => ?_))
      | exact ih0 _ _ _ _ _ _ _ _ _ _
      | exact ih1 _ _ _ _ _ _ _ _ _ _
      | exact camletref39_Put.mono _ _ _ _ _ _
      | exact camletref40_Label.mono _ _
      | exact camletref40_Labels.mono _ _ _
      | exact LeO.none _
      | refine LeO.ite ?_ ?_
      | refine LeO.bind ?_ (fun _ => ?_)
set_option maxHeartbeats 8000000 in
set_option maxRecDepth 100000 in
theorem camletref40_one.calls (k : Nat) (A0 : Option Addr) (c0 : Nat) (l0 : List (S36)) (a1 : Int) (r1 : Int) (r2 : Int) (w : World) (hr0 : Kd.C k36 w A0 l0.length l0) (hc0 : l0.length ≤ c0) (h : camletref40_one.f k l0 a1 = some (r1, r2)) :
    Calls Tryd.prog 22 #[.slice A0 l0.length c0, .int .i64 a1] w fun e w' => e = .returned (.tuple #[.int .u32 r1, .int .i64 r2]) ∧ Below w.heap.size w w' := by
  have hu36 := Tryd.underlying36
  have hu34 := Tryd.underlying34
  have HR0 := Aside0.mk hr0
  have HC0 := Aside0.mk hc0
  clear hr0 hc0
  have HB := Aside0.mk (Below.refl w.heap.size w)
  have H : (if 0 ≤ a1 then (if a1 < (l0.length : Int) then (if ((rd_T36 l0 a1).f0).toList = ([] : List UInt8) then (if ((rd_T36 l0 a1).f2).toList = ([] : List UInt8) then (camletref40_one.j0 k l0 a1 false ((rd_T36 l0 a1).f0) ((rd_T36 l0 a1).f1.f0) ((rd_T36 l0 a1).f1.f1) ((rd_T36 l0 a1).f1.f2) ((rd_T36 l0 a1).f1.f3) ((rd_T36 l0 a1).f1.f4) ((rd_T36 l0 a1).f2)) else ((camletref40_Label.f k ((rd_T36 l0 a1).f2)).bind fun t144 => (camletref40_one.j0 k l0 a1 (!t144) ((rd_T36 l0 a1).f0) ((rd_T36 l0 a1).f1.f0) ((rd_T36 l0 a1).f1.f1) ((rd_T36 l0 a1).f1.f2) ((rd_T36 l0 a1).f1.f3) ((rd_T36 l0 a1).f1.f4) ((rd_T36 l0 a1).f2)))) else ((camletref40_Label.f k ((rd_T36 l0 a1).f0)).bind fun t145 => (if t145 = true then (if ((rd_T36 l0 a1).f2).toList = ([] : List UInt8) then (camletref40_one.j0 k l0 a1 false ((rd_T36 l0 a1).f0) ((rd_T36 l0 a1).f1.f0) ((rd_T36 l0 a1).f1.f1) ((rd_T36 l0 a1).f1.f2) ((rd_T36 l0 a1).f1.f3) ((rd_T36 l0 a1).f1.f4) ((rd_T36 l0 a1).f2)) else ((camletref40_Label.f k ((rd_T36 l0 a1).f2)).bind fun t146 => (camletref40_one.j0 k l0 a1 (!t146) ((rd_T36 l0 a1).f0) ((rd_T36 l0 a1).f1.f0) ((rd_T36 l0 a1).f1.f1) ((rd_T36 l0 a1).f1.f2) ((rd_T36 l0 a1).f1.f3) ((rd_T36 l0 a1).f1.f4) ((rd_T36 l0 a1).f2)))) else (camletref40_one.j0 k l0 a1 true ((rd_T36 l0 a1).f0) ((rd_T36 l0 a1).f1.f0) ((rd_T36 l0 a1).f1.f1) ((rd_T36 l0 a1).f1.f2) ((rd_T36 l0 a1).f1.f3) ((rd_T36 l0 a1).f1.f4) ((rd_T36 l0 a1).f2))))) else (none)) else (none)) = some (r1, r2) := h
  clear h
  by_cases c3 : 0 ≤ a1
  · rw [if_pos c3] at H
    have c3b0 : decide (0 ≤ a1) = true := decide_eq_true c3
    clear c3
    by_cases c4 : a1 < (l0.length : Int)
    · rw [if_pos c4] at H
      have c4b0 : decide (a1 < (l0.length : Int)) = true := decide_eq_true c4
      clear c4
      have HC5 := Aside0.mk H
      clear H
      have p142 : 0 ≤ (a1 : Int) := of_decide_eq_true (by first | (with_reducible assumption) | assumption)
      have q142 : a1 < (l0.length : Int) := of_decide_eq_true (by first | (with_reducible assumption) | assumption)
      obtain ⟨ad142, e142, hx142_0, hx142_1, hx142_2, hx142_3, hx142_4, hx142_5, hx142_6⟩ := at_T36 HR0.out a1 p142 q142
      cases e142
      replace p142 := eq_true p142
      replace q142 := eq_true q142
      go_enter Tryd.func22, Tryd.ntmps22
      go_upto_region 2 with (first | ((with_reducible refine gate_dst (N := 6) rfl ?_); refine box_event ?hg (N := 6) ?hd (cs := #[.string (⟨#[]⟩ : ByteArray), .int .i64 0, .int .i64 0, .int .i64 0, .int .i64 0, .int .i64 0, .string (⟨#[]⟩ : ByteArray)]) (t := 36) ?hr ?_; (case hd => rfl); (case hg => rfl); (case hr => first | (go_simp; done) | (go_simp; rfl)); intro gb143 hg w6 hbox hb; have n0_ := Aside0.mk (below_step (by repeat (first | (with_reducible first | exact HB.out | apply below_alloc | apply pw_below_drewN | apply below_drew1) | exact HB.out)) hb); have n1_ := Aside0.mk (hbox); have n2_ := Aside0.mk ((by rw [hg]; exact (below_size (by repeat (first | (with_reducible first | exact HB.out | apply below_alloc | apply pw_below_drewN | apply below_drew1) | exact HB.out))) : w.heap.size ≤ gb143)); have n3_ := Aside0.mk ((by rw [hg]; exact (below_size (by repeat (first | (with_reducible first | exact HB.out | apply below_alloc | apply pw_below_drewN | apply below_drew1) | exact HB.out))) : w.heap.size ≤ gb143)); clear HB; have HB := n0_; have BK143 := n1_; have GW143 := n2_; have GE143 := n3_; clear n0_ n1_ n2_ n3_; clear hb hbox hg; have hcz7_0 : w6.cell? ⟨gb143, 0, none⟩ = some (.string (⟨#[]⟩ : ByteArray)) := (blk_cell BK143.out 0).trans rfl; have hcz7_1 : w6.cell? ⟨gb143, 1, none⟩ = some (.int .i64 0) := (blk_cell BK143.out 1).trans rfl; have hcz7_2 : w6.cell? ⟨gb143, 2, none⟩ = some (.int .i64 0) := (blk_cell BK143.out 2).trans rfl; have hcz7_3 : w6.cell? ⟨gb143, 3, none⟩ = some (.int .i64 0) := (blk_cell BK143.out 3).trans rfl; have hcz7_4 : w6.cell? ⟨gb143, 4, none⟩ = some (.int .i64 0) := (blk_cell BK143.out 4).trans rfl; have hcz7_5 : w6.cell? ⟨gb143, 5, none⟩ = some (.int .i64 0) := (blk_cell BK143.out 5).trans rfl; have hcz7_6 : w6.cell? ⟨gb143, 6, none⟩ = some (.string (⟨#[]⟩ : ByteArray)) := (blk_cell BK143.out 6).trans rfl; have hfz7_0 := blk_frozen BK143.out 0; have hfz7_1 := blk_frozen BK143.out 1; have hfz7_2 := blk_frozen BK143.out 2; have hfz7_3 := blk_frozen BK143.out 3; have hfz7_4 := blk_frozen BK143.out 4; have hfz7_5 := blk_frozen BK143.out 5; have hfz7_6 := blk_frozen BK143.out 6))
      (try simp only [Act.put, List.setIfInBounds_toArray, List.set_cons_zero, List.set_cons_succ])
      go_cut [31] (fun v31 wc => ∃ (kq : Nat) (x31_4 : Bool), v31 = .bool x31_4 ∧ Aside0 (camletref40_one.j0 kq l0 a1 x31_4 ((rd_T36 l0 a1).f0) ((rd_T36 l0 a1).f1.f0) ((rd_T36 l0 a1).f1.f1) ((rd_T36 l0 a1).f1.f2) ((rd_T36 l0 a1).f1.f3) ((rd_T36 l0 a1).f1.f4) ((rd_T36 l0 a1).f2) = some (r1, r2)) ∧ Aside0 (kq ≤ k) ∧ Aside0 (wc.heap[gb143]? = some (.cells #[.string ((rd_T36 l0 a1).f0), .int .i64 ((rd_T36 l0 a1).f1.f0), .int .i64 ((rd_T36 l0 a1).f1.f1), .int .i64 ((rd_T36 l0 a1).f1.f2), .int .i64 ((rd_T36 l0 a1).f1.f3), .int .i64 ((rd_T36 l0 a1).f1.f4), .string ((rd_T36 l0 a1).f2)] 36 (0, 0))) ∧ Aside0 (Below w.heap.size w wc))
      case first =>
        have H := HC5.out
        clear HC5
        by_cases c8 : ((rd_T36 l0 a1).f0).toList = ([] : List UInt8)
        · rw [if_pos c8] at H
          have c8b0 : (((rd_T36 l0 a1).f0).toList == ([] : List UInt8)) = true := beq_iff_eq.mpr c8
          have c8b1 : (((rd_T36 l0 a1).f0).toList != ([] : List UInt8)) = false := bne_eq_false_iff_eq.mpr c8
          clear c8
          (first | rw [c8b0] | (simp only [i64_w, i32_w]; rw [c8b0]) | skip)
          by_cases c9 : ((rd_T36 l0 a1).f2).toList = ([] : List UInt8)
          · rw [if_pos c9] at H
            have c9b0 : (((rd_T36 l0 a1).f2).toList == ([] : List UInt8)) = true := beq_iff_eq.mpr c9
            have c9b1 : (((rd_T36 l0 a1).f2).toList != ([] : List UInt8)) = false := bne_eq_false_iff_eq.mpr c9
            clear c9
            have H' := Aside0.mk H
            clear H
            have hcz10_0 : w6.cell? ⟨gb143, 0, none⟩ = some (.string (⟨#[]⟩ : ByteArray)) := (blk_cell BK143.out 0).trans rfl
            have hcz10_1 : w6.cell? ⟨gb143, 1, none⟩ = some (.int .i64 0) := (blk_cell BK143.out 1).trans rfl
            have hcz10_2 : w6.cell? ⟨gb143, 2, none⟩ = some (.int .i64 0) := (blk_cell BK143.out 2).trans rfl
            have hcz10_3 : w6.cell? ⟨gb143, 3, none⟩ = some (.int .i64 0) := (blk_cell BK143.out 3).trans rfl
            have hcz10_4 : w6.cell? ⟨gb143, 4, none⟩ = some (.int .i64 0) := (blk_cell BK143.out 4).trans rfl
            have hcz10_5 : w6.cell? ⟨gb143, 5, none⟩ = some (.int .i64 0) := (blk_cell BK143.out 5).trans rfl
            have hcz10_6 : w6.cell? ⟨gb143, 6, none⟩ = some (.string (⟨#[]⟩ : ByteArray)) := (blk_cell BK143.out 6).trans rfl
            have hfz10_0 := blk_frozen BK143.out 0
            have hfz10_1 := blk_frozen BK143.out 1
            have hfz10_2 := blk_frozen BK143.out 2
            have hfz10_3 := blk_frozen BK143.out 3
            have hfz10_4 := blk_frozen BK143.out 4
            have hfz10_5 := blk_frozen BK143.out 5
            have hfz10_6 := blk_frozen BK143.out 6
            go_wp2
            go_meet
            case rel => exact ⟨_, (false), (by first | rfl | (simp; done) | (simp [*]; done) | (simp; generalize ByteArray.toList _ = z_; cases z_ <;> first | rfl | simp)), H', ⟨by first | omega | exact Nat.le_refl _⟩, ⟨by (with_reducible repeat (first | refine blk_drewN ?_ _ | refine blk_drew ?_ | refine blk_alloc ?_ _)); refine blk_put (cs := #[.string ((rd_T36 l0 a1).f0), .int .i64 ((rd_T36 l0 a1).f1.f0), .int .i64 ((rd_T36 l0 a1).f1.f1), .int .i64 ((rd_T36 l0 a1).f1.f2), .int .i64 ((rd_T36 l0 a1).f1.f3), .int .i64 ((rd_T36 l0 a1).f1.f4), .string (⟨#[]⟩ : ByteArray)]) ?_ 6 _ rfl; (with_reducible repeat (first | refine blk_drewN ?_ _ | refine blk_drew ?_ | refine blk_alloc ?_ _)); refine blk_put (cs := #[.string ((rd_T36 l0 a1).f0), .int .i64 ((rd_T36 l0 a1).f1.f0), .int .i64 ((rd_T36 l0 a1).f1.f1), .int .i64 ((rd_T36 l0 a1).f1.f2), .int .i64 ((rd_T36 l0 a1).f1.f3), .int .i64 0, .string (⟨#[]⟩ : ByteArray)]) ?_ 5 _ rfl; (with_reducible repeat (first | refine blk_drewN ?_ _ | refine blk_drew ?_ | refine blk_alloc ?_ _)); refine blk_put (cs := #[.string ((rd_T36 l0 a1).f0), .int .i64 ((rd_T36 l0 a1).f1.f0), .int .i64 ((rd_T36 l0 a1).f1.f1), .int .i64 ((rd_T36 l0 a1).f1.f2), .int .i64 0, .int .i64 0, .string (⟨#[]⟩ : ByteArray)]) ?_ 4 _ rfl; (with_reducible repeat (first | refine blk_drewN ?_ _ | refine blk_drew ?_ | refine blk_alloc ?_ _)); refine blk_put (cs := #[.string ((rd_T36 l0 a1).f0), .int .i64 ((rd_T36 l0 a1).f1.f0), .int .i64 ((rd_T36 l0 a1).f1.f1), .int .i64 0, .int .i64 0, .int .i64 0, .string (⟨#[]⟩ : ByteArray)]) ?_ 3 _ rfl; (with_reducible repeat (first | refine blk_drewN ?_ _ | refine blk_drew ?_ | refine blk_alloc ?_ _)); refine blk_put (cs := #[.string ((rd_T36 l0 a1).f0), .int .i64 ((rd_T36 l0 a1).f1.f0), .int .i64 0, .int .i64 0, .int .i64 0, .int .i64 0, .string (⟨#[]⟩ : ByteArray)]) ?_ 2 _ rfl; (with_reducible repeat (first | refine blk_drewN ?_ _ | refine blk_drew ?_ | refine blk_alloc ?_ _)); refine blk_put (cs := #[.string ((rd_T36 l0 a1).f0), .int .i64 0, .int .i64 0, .int .i64 0, .int .i64 0, .int .i64 0, .string (⟨#[]⟩ : ByteArray)]) ?_ 1 _ rfl; (with_reducible repeat (first | refine blk_drewN ?_ _ | refine blk_drew ?_ | refine blk_alloc ?_ _)); refine blk_put (cs := #[.string (⟨#[]⟩ : ByteArray), .int .i64 0, .int .i64 0, .int .i64 0, .int .i64 0, .int .i64 0, .string (⟨#[]⟩ : ByteArray)]) ?_ 0 _ rfl; (with_reducible repeat (first | refine blk_drewN ?_ _ | refine blk_drew ?_ | refine blk_alloc ?_ _)); exact BK143.out⟩, ⟨by repeat (first | (with_reducible first | exact HB.out | apply below_alloc | apply pw_below_drewN | apply below_drew1 | refine below_set ?_ GE143.out) | exact HB.out)⟩⟩
          · rw [if_neg c9] at H
            have c9b0 : (((rd_T36 l0 a1).f2).toList == ([] : List UInt8)) = false := beq_eq_false_iff_ne.mpr c9
            have c9b1 : (((rd_T36 l0 a1).f2).toList != ([] : List UInt8)) = true := bne_iff_ne.mpr c9
            replace H := Option.bind_eq_some_iff.mp H
            obtain ⟨t144, A110, H⟩ := H
            replace H : (camletref40_one.j0 k l0 a1 (!t144) ((rd_T36 l0 a1).f0) ((rd_T36 l0 a1).f1.f0) ((rd_T36 l0 a1).f1.f1) ((rd_T36 l0 a1).f1.f2) ((rd_T36 l0 a1).f1.f3) ((rd_T36 l0 a1).f1.f4) ((rd_T36 l0 a1).f2)) = some (r1, r2) := H
            have A11 := Aside0.mk A110
            clear A110
            have H' := Aside0.mk H
            clear H
            have hcz12_0 : w6.cell? ⟨gb143, 0, none⟩ = some (.string (⟨#[]⟩ : ByteArray)) := (blk_cell BK143.out 0).trans rfl
            have hcz12_1 : w6.cell? ⟨gb143, 1, none⟩ = some (.int .i64 0) := (blk_cell BK143.out 1).trans rfl
            have hcz12_2 : w6.cell? ⟨gb143, 2, none⟩ = some (.int .i64 0) := (blk_cell BK143.out 2).trans rfl
            have hcz12_3 : w6.cell? ⟨gb143, 3, none⟩ = some (.int .i64 0) := (blk_cell BK143.out 3).trans rfl
            have hcz12_4 : w6.cell? ⟨gb143, 4, none⟩ = some (.int .i64 0) := (blk_cell BK143.out 4).trans rfl
            have hcz12_5 : w6.cell? ⟨gb143, 5, none⟩ = some (.int .i64 0) := (blk_cell BK143.out 5).trans rfl
            have hcz12_6 : w6.cell? ⟨gb143, 6, none⟩ = some (.string (⟨#[]⟩ : ByteArray)) := (blk_cell BK143.out 6).trans rfl
            have hfz12_0 := blk_frozen BK143.out 0
            have hfz12_1 := blk_frozen BK143.out 1
            have hfz12_2 := blk_frozen BK143.out 2
            have hfz12_3 := blk_frozen BK143.out 3
            have hfz12_4 := blk_frozen BK143.out 4
            have hfz12_5 := blk_frozen BK143.out 5
            have hfz12_6 := blk_frozen BK143.out 6
            go_wp2_with (first | (go_at_call 36; (with_reducible refine (camletref40_Label.calls k ((rd_T36 l0 a1).f2) t144 _ A11.out).mono ?_); rintro e w' ⟨rfl, ⟨nd, rfl⟩⟩))
            go_meet
            case rel => exact ⟨_, (!t144), (by first | rfl | (simp; done) | (simp [*]; done) | (simp; generalize ByteArray.toList _ = z_; cases z_ <;> first | rfl | simp)), H', ⟨by first | omega | exact Nat.le_refl _⟩, ⟨by (with_reducible repeat (first | refine blk_drewN ?_ _ | refine blk_drew ?_ | refine blk_alloc ?_ _)); refine blk_put (cs := #[.string ((rd_T36 l0 a1).f0), .int .i64 ((rd_T36 l0 a1).f1.f0), .int .i64 ((rd_T36 l0 a1).f1.f1), .int .i64 ((rd_T36 l0 a1).f1.f2), .int .i64 ((rd_T36 l0 a1).f1.f3), .int .i64 ((rd_T36 l0 a1).f1.f4), .string (⟨#[]⟩ : ByteArray)]) ?_ 6 _ rfl; (with_reducible repeat (first | refine blk_drewN ?_ _ | refine blk_drew ?_ | refine blk_alloc ?_ _)); refine blk_put (cs := #[.string ((rd_T36 l0 a1).f0), .int .i64 ((rd_T36 l0 a1).f1.f0), .int .i64 ((rd_T36 l0 a1).f1.f1), .int .i64 ((rd_T36 l0 a1).f1.f2), .int .i64 ((rd_T36 l0 a1).f1.f3), .int .i64 0, .string (⟨#[]⟩ : ByteArray)]) ?_ 5 _ rfl; (with_reducible repeat (first | refine blk_drewN ?_ _ | refine blk_drew ?_ | refine blk_alloc ?_ _)); refine blk_put (cs := #[.string ((rd_T36 l0 a1).f0), .int .i64 ((rd_T36 l0 a1).f1.f0), .int .i64 ((rd_T36 l0 a1).f1.f1), .int .i64 ((rd_T36 l0 a1).f1.f2), .int .i64 0, .int .i64 0, .string (⟨#[]⟩ : ByteArray)]) ?_ 4 _ rfl; (with_reducible repeat (first | refine blk_drewN ?_ _ | refine blk_drew ?_ | refine blk_alloc ?_ _)); refine blk_put (cs := #[.string ((rd_T36 l0 a1).f0), .int .i64 ((rd_T36 l0 a1).f1.f0), .int .i64 ((rd_T36 l0 a1).f1.f1), .int .i64 0, .int .i64 0, .int .i64 0, .string (⟨#[]⟩ : ByteArray)]) ?_ 3 _ rfl; (with_reducible repeat (first | refine blk_drewN ?_ _ | refine blk_drew ?_ | refine blk_alloc ?_ _)); refine blk_put (cs := #[.string ((rd_T36 l0 a1).f0), .int .i64 ((rd_T36 l0 a1).f1.f0), .int .i64 0, .int .i64 0, .int .i64 0, .int .i64 0, .string (⟨#[]⟩ : ByteArray)]) ?_ 2 _ rfl; (with_reducible repeat (first | refine blk_drewN ?_ _ | refine blk_drew ?_ | refine blk_alloc ?_ _)); refine blk_put (cs := #[.string ((rd_T36 l0 a1).f0), .int .i64 0, .int .i64 0, .int .i64 0, .int .i64 0, .int .i64 0, .string (⟨#[]⟩ : ByteArray)]) ?_ 1 _ rfl; (with_reducible repeat (first | refine blk_drewN ?_ _ | refine blk_drew ?_ | refine blk_alloc ?_ _)); refine blk_put (cs := #[.string (⟨#[]⟩ : ByteArray), .int .i64 0, .int .i64 0, .int .i64 0, .int .i64 0, .int .i64 0, .string (⟨#[]⟩ : ByteArray)]) ?_ 0 _ rfl; (with_reducible repeat (first | refine blk_drewN ?_ _ | refine blk_drew ?_ | refine blk_alloc ?_ _)); exact BK143.out⟩, ⟨by repeat (first | (with_reducible first | exact HB.out | apply below_alloc | apply pw_below_drewN | apply below_drew1 | refine below_set ?_ GE143.out) | exact HB.out)⟩⟩
        · rw [if_neg c8] at H
          have c8b0 : (((rd_T36 l0 a1).f0).toList == ([] : List UInt8)) = false := beq_eq_false_iff_ne.mpr c8
          have c8b1 : (((rd_T36 l0 a1).f0).toList != ([] : List UInt8)) = true := bne_iff_ne.mpr c8
          (first | rw [c8b0] | (simp only [i64_w, i32_w]; rw [c8b0]) | skip)
          replace H := Option.bind_eq_some_iff.mp H
          obtain ⟨t145, A130, H⟩ := H
          replace H : (if t145 = true then (if ((rd_T36 l0 a1).f2).toList = ([] : List UInt8) then (camletref40_one.j0 k l0 a1 false ((rd_T36 l0 a1).f0) ((rd_T36 l0 a1).f1.f0) ((rd_T36 l0 a1).f1.f1) ((rd_T36 l0 a1).f1.f2) ((rd_T36 l0 a1).f1.f3) ((rd_T36 l0 a1).f1.f4) ((rd_T36 l0 a1).f2)) else ((camletref40_Label.f k ((rd_T36 l0 a1).f2)).bind fun t146 => (camletref40_one.j0 k l0 a1 (!t146) ((rd_T36 l0 a1).f0) ((rd_T36 l0 a1).f1.f0) ((rd_T36 l0 a1).f1.f1) ((rd_T36 l0 a1).f1.f2) ((rd_T36 l0 a1).f1.f3) ((rd_T36 l0 a1).f1.f4) ((rd_T36 l0 a1).f2)))) else (camletref40_one.j0 k l0 a1 true ((rd_T36 l0 a1).f0) ((rd_T36 l0 a1).f1.f0) ((rd_T36 l0 a1).f1.f1) ((rd_T36 l0 a1).f1.f2) ((rd_T36 l0 a1).f1.f3) ((rd_T36 l0 a1).f1.f4) ((rd_T36 l0 a1).f2))) = some (r1, r2) := H
          have A13 := Aside0.mk A130
          clear A130
          by_cases c14 : t145 = true
          · subst c14
            have H1 : (if ((rd_T36 l0 a1).f2).toList = ([] : List UInt8) then (camletref40_one.j0 k l0 a1 false ((rd_T36 l0 a1).f0) ((rd_T36 l0 a1).f1.f0) ((rd_T36 l0 a1).f1.f1) ((rd_T36 l0 a1).f1.f2) ((rd_T36 l0 a1).f1.f3) ((rd_T36 l0 a1).f1.f4) ((rd_T36 l0 a1).f2)) else ((camletref40_Label.f k ((rd_T36 l0 a1).f2)).bind fun t146 => (camletref40_one.j0 k l0 a1 (!t146) ((rd_T36 l0 a1).f0) ((rd_T36 l0 a1).f1.f0) ((rd_T36 l0 a1).f1.f1) ((rd_T36 l0 a1).f1.f2) ((rd_T36 l0 a1).f1.f3) ((rd_T36 l0 a1).f1.f4) ((rd_T36 l0 a1).f2)))) = some (r1, r2) := by rw [if_pos rfl] at H; exact H
            clear H
            have H := H1
            clear H1
            by_cases c15 : ((rd_T36 l0 a1).f2).toList = ([] : List UInt8)
            · rw [if_pos c15] at H
              have c15b0 : (((rd_T36 l0 a1).f2).toList == ([] : List UInt8)) = true := beq_iff_eq.mpr c15
              have c15b1 : (((rd_T36 l0 a1).f2).toList != ([] : List UInt8)) = false := bne_eq_false_iff_eq.mpr c15
              clear c15
              have H' := Aside0.mk H
              clear H
              have hcz16_0 : w6.cell? ⟨gb143, 0, none⟩ = some (.string (⟨#[]⟩ : ByteArray)) := (blk_cell BK143.out 0).trans rfl
              have hcz16_1 : w6.cell? ⟨gb143, 1, none⟩ = some (.int .i64 0) := (blk_cell BK143.out 1).trans rfl
              have hcz16_2 : w6.cell? ⟨gb143, 2, none⟩ = some (.int .i64 0) := (blk_cell BK143.out 2).trans rfl
              have hcz16_3 : w6.cell? ⟨gb143, 3, none⟩ = some (.int .i64 0) := (blk_cell BK143.out 3).trans rfl
              have hcz16_4 : w6.cell? ⟨gb143, 4, none⟩ = some (.int .i64 0) := (blk_cell BK143.out 4).trans rfl
              have hcz16_5 : w6.cell? ⟨gb143, 5, none⟩ = some (.int .i64 0) := (blk_cell BK143.out 5).trans rfl
              have hcz16_6 : w6.cell? ⟨gb143, 6, none⟩ = some (.string (⟨#[]⟩ : ByteArray)) := (blk_cell BK143.out 6).trans rfl
              have hfz16_0 := blk_frozen BK143.out 0
              have hfz16_1 := blk_frozen BK143.out 1
              have hfz16_2 := blk_frozen BK143.out 2
              have hfz16_3 := blk_frozen BK143.out 3
              have hfz16_4 := blk_frozen BK143.out 4
              have hfz16_5 := blk_frozen BK143.out 5
              have hfz16_6 := blk_frozen BK143.out 6
              go_wp2_with (first | (go_at_call 36; (with_reducible refine (camletref40_Label.calls k ((rd_T36 l0 a1).f0) true _ A13.out).mono ?_); rintro e w' ⟨rfl, ⟨nd, rfl⟩⟩))
              go_meet
              case rel => exact ⟨_, (false), (by first | rfl | (simp; done) | (simp [*]; done) | (simp; generalize ByteArray.toList _ = z_; cases z_ <;> first | rfl | simp)), H', ⟨by first | omega | exact Nat.le_refl _⟩, ⟨by (with_reducible repeat (first | refine blk_drewN ?_ _ | refine blk_drew ?_ | refine blk_alloc ?_ _)); refine blk_put (cs := #[.string ((rd_T36 l0 a1).f0), .int .i64 ((rd_T36 l0 a1).f1.f0), .int .i64 ((rd_T36 l0 a1).f1.f1), .int .i64 ((rd_T36 l0 a1).f1.f2), .int .i64 ((rd_T36 l0 a1).f1.f3), .int .i64 ((rd_T36 l0 a1).f1.f4), .string (⟨#[]⟩ : ByteArray)]) ?_ 6 _ rfl; (with_reducible repeat (first | refine blk_drewN ?_ _ | refine blk_drew ?_ | refine blk_alloc ?_ _)); refine blk_put (cs := #[.string ((rd_T36 l0 a1).f0), .int .i64 ((rd_T36 l0 a1).f1.f0), .int .i64 ((rd_T36 l0 a1).f1.f1), .int .i64 ((rd_T36 l0 a1).f1.f2), .int .i64 ((rd_T36 l0 a1).f1.f3), .int .i64 0, .string (⟨#[]⟩ : ByteArray)]) ?_ 5 _ rfl; (with_reducible repeat (first | refine blk_drewN ?_ _ | refine blk_drew ?_ | refine blk_alloc ?_ _)); refine blk_put (cs := #[.string ((rd_T36 l0 a1).f0), .int .i64 ((rd_T36 l0 a1).f1.f0), .int .i64 ((rd_T36 l0 a1).f1.f1), .int .i64 ((rd_T36 l0 a1).f1.f2), .int .i64 0, .int .i64 0, .string (⟨#[]⟩ : ByteArray)]) ?_ 4 _ rfl; (with_reducible repeat (first | refine blk_drewN ?_ _ | refine blk_drew ?_ | refine blk_alloc ?_ _)); refine blk_put (cs := #[.string ((rd_T36 l0 a1).f0), .int .i64 ((rd_T36 l0 a1).f1.f0), .int .i64 ((rd_T36 l0 a1).f1.f1), .int .i64 0, .int .i64 0, .int .i64 0, .string (⟨#[]⟩ : ByteArray)]) ?_ 3 _ rfl; (with_reducible repeat (first | refine blk_drewN ?_ _ | refine blk_drew ?_ | refine blk_alloc ?_ _)); refine blk_put (cs := #[.string ((rd_T36 l0 a1).f0), .int .i64 ((rd_T36 l0 a1).f1.f0), .int .i64 0, .int .i64 0, .int .i64 0, .int .i64 0, .string (⟨#[]⟩ : ByteArray)]) ?_ 2 _ rfl; (with_reducible repeat (first | refine blk_drewN ?_ _ | refine blk_drew ?_ | refine blk_alloc ?_ _)); refine blk_put (cs := #[.string ((rd_T36 l0 a1).f0), .int .i64 0, .int .i64 0, .int .i64 0, .int .i64 0, .int .i64 0, .string (⟨#[]⟩ : ByteArray)]) ?_ 1 _ rfl; (with_reducible repeat (first | refine blk_drewN ?_ _ | refine blk_drew ?_ | refine blk_alloc ?_ _)); refine blk_put (cs := #[.string (⟨#[]⟩ : ByteArray), .int .i64 0, .int .i64 0, .int .i64 0, .int .i64 0, .int .i64 0, .string (⟨#[]⟩ : ByteArray)]) ?_ 0 _ rfl; (with_reducible repeat (first | refine blk_drewN ?_ _ | refine blk_drew ?_ | refine blk_alloc ?_ _)); exact BK143.out⟩, ⟨by repeat (first | (with_reducible first | exact HB.out | apply below_alloc | apply pw_below_drewN | apply below_drew1 | refine below_set ?_ GE143.out) | exact HB.out)⟩⟩
            · rw [if_neg c15] at H
              have c15b0 : (((rd_T36 l0 a1).f2).toList == ([] : List UInt8)) = false := beq_eq_false_iff_ne.mpr c15
              have c15b1 : (((rd_T36 l0 a1).f2).toList != ([] : List UInt8)) = true := bne_iff_ne.mpr c15
              replace H := Option.bind_eq_some_iff.mp H
              obtain ⟨t146, A170, H⟩ := H
              replace H : (camletref40_one.j0 k l0 a1 (!t146) ((rd_T36 l0 a1).f0) ((rd_T36 l0 a1).f1.f0) ((rd_T36 l0 a1).f1.f1) ((rd_T36 l0 a1).f1.f2) ((rd_T36 l0 a1).f1.f3) ((rd_T36 l0 a1).f1.f4) ((rd_T36 l0 a1).f2)) = some (r1, r2) := H
              have A17 := Aside0.mk A170
              clear A170
              have H' := Aside0.mk H
              clear H
              have hcz18_0 : w6.cell? ⟨gb143, 0, none⟩ = some (.string (⟨#[]⟩ : ByteArray)) := (blk_cell BK143.out 0).trans rfl
              have hcz18_1 : w6.cell? ⟨gb143, 1, none⟩ = some (.int .i64 0) := (blk_cell BK143.out 1).trans rfl
              have hcz18_2 : w6.cell? ⟨gb143, 2, none⟩ = some (.int .i64 0) := (blk_cell BK143.out 2).trans rfl
              have hcz18_3 : w6.cell? ⟨gb143, 3, none⟩ = some (.int .i64 0) := (blk_cell BK143.out 3).trans rfl
              have hcz18_4 : w6.cell? ⟨gb143, 4, none⟩ = some (.int .i64 0) := (blk_cell BK143.out 4).trans rfl
              have hcz18_5 : w6.cell? ⟨gb143, 5, none⟩ = some (.int .i64 0) := (blk_cell BK143.out 5).trans rfl
              have hcz18_6 : w6.cell? ⟨gb143, 6, none⟩ = some (.string (⟨#[]⟩ : ByteArray)) := (blk_cell BK143.out 6).trans rfl
              have hfz18_0 := blk_frozen BK143.out 0
              have hfz18_1 := blk_frozen BK143.out 1
              have hfz18_2 := blk_frozen BK143.out 2
              have hfz18_3 := blk_frozen BK143.out 3
              have hfz18_4 := blk_frozen BK143.out 4
              have hfz18_5 := blk_frozen BK143.out 5
              have hfz18_6 := blk_frozen BK143.out 6
              go_wp2_with (first | (go_at_call 36; (with_reducible refine (camletref40_Label.calls k ((rd_T36 l0 a1).f0) true _ A13.out).mono ?_); rintro e w' ⟨rfl, ⟨nd, rfl⟩⟩) | (go_at_call 36; (with_reducible refine (camletref40_Label.calls k ((rd_T36 l0 a1).f2) t146 _ A17.out).mono ?_); rintro e w' ⟨rfl, ⟨nd, rfl⟩⟩))
              go_meet
              case rel => exact ⟨_, (!t146), (by first | rfl | (simp; done) | (simp [*]; done) | (simp; generalize ByteArray.toList _ = z_; cases z_ <;> first | rfl | simp)), H', ⟨by first | omega | exact Nat.le_refl _⟩, ⟨by (with_reducible repeat (first | refine blk_drewN ?_ _ | refine blk_drew ?_ | refine blk_alloc ?_ _)); refine blk_put (cs := #[.string ((rd_T36 l0 a1).f0), .int .i64 ((rd_T36 l0 a1).f1.f0), .int .i64 ((rd_T36 l0 a1).f1.f1), .int .i64 ((rd_T36 l0 a1).f1.f2), .int .i64 ((rd_T36 l0 a1).f1.f3), .int .i64 ((rd_T36 l0 a1).f1.f4), .string (⟨#[]⟩ : ByteArray)]) ?_ 6 _ rfl; (with_reducible repeat (first | refine blk_drewN ?_ _ | refine blk_drew ?_ | refine blk_alloc ?_ _)); refine blk_put (cs := #[.string ((rd_T36 l0 a1).f0), .int .i64 ((rd_T36 l0 a1).f1.f0), .int .i64 ((rd_T36 l0 a1).f1.f1), .int .i64 ((rd_T36 l0 a1).f1.f2), .int .i64 ((rd_T36 l0 a1).f1.f3), .int .i64 0, .string (⟨#[]⟩ : ByteArray)]) ?_ 5 _ rfl; (with_reducible repeat (first | refine blk_drewN ?_ _ | refine blk_drew ?_ | refine blk_alloc ?_ _)); refine blk_put (cs := #[.string ((rd_T36 l0 a1).f0), .int .i64 ((rd_T36 l0 a1).f1.f0), .int .i64 ((rd_T36 l0 a1).f1.f1), .int .i64 ((rd_T36 l0 a1).f1.f2), .int .i64 0, .int .i64 0, .string (⟨#[]⟩ : ByteArray)]) ?_ 4 _ rfl; (with_reducible repeat (first | refine blk_drewN ?_ _ | refine blk_drew ?_ | refine blk_alloc ?_ _)); refine blk_put (cs := #[.string ((rd_T36 l0 a1).f0), .int .i64 ((rd_T36 l0 a1).f1.f0), .int .i64 ((rd_T36 l0 a1).f1.f1), .int .i64 0, .int .i64 0, .int .i64 0, .string (⟨#[]⟩ : ByteArray)]) ?_ 3 _ rfl; (with_reducible repeat (first | refine blk_drewN ?_ _ | refine blk_drew ?_ | refine blk_alloc ?_ _)); refine blk_put (cs := #[.string ((rd_T36 l0 a1).f0), .int .i64 ((rd_T36 l0 a1).f1.f0), .int .i64 0, .int .i64 0, .int .i64 0, .int .i64 0, .string (⟨#[]⟩ : ByteArray)]) ?_ 2 _ rfl; (with_reducible repeat (first | refine blk_drewN ?_ _ | refine blk_drew ?_ | refine blk_alloc ?_ _)); refine blk_put (cs := #[.string ((rd_T36 l0 a1).f0), .int .i64 0, .int .i64 0, .int .i64 0, .int .i64 0, .int .i64 0, .string (⟨#[]⟩ : ByteArray)]) ?_ 1 _ rfl; (with_reducible repeat (first | refine blk_drewN ?_ _ | refine blk_drew ?_ | refine blk_alloc ?_ _)); refine blk_put (cs := #[.string (⟨#[]⟩ : ByteArray), .int .i64 0, .int .i64 0, .int .i64 0, .int .i64 0, .int .i64 0, .string (⟨#[]⟩ : ByteArray)]) ?_ 0 _ rfl; (with_reducible repeat (first | refine blk_drewN ?_ _ | refine blk_drew ?_ | refine blk_alloc ?_ _)); exact BK143.out⟩, ⟨by repeat (first | (with_reducible first | exact HB.out | apply below_alloc | apply pw_below_drewN | apply below_drew1 | refine below_set ?_ GE143.out) | exact HB.out)⟩⟩
          · replace c14 := Bool.eq_false_iff.mpr c14
            subst c14
            have H1 : (camletref40_one.j0 k l0 a1 true ((rd_T36 l0 a1).f0) ((rd_T36 l0 a1).f1.f0) ((rd_T36 l0 a1).f1.f1) ((rd_T36 l0 a1).f1.f2) ((rd_T36 l0 a1).f1.f3) ((rd_T36 l0 a1).f1.f4) ((rd_T36 l0 a1).f2)) = some (r1, r2) := by rw [if_neg (show ¬ (false = true) by decide)] at H; exact H
            clear H
            have H := H1
            clear H1
            have H' := Aside0.mk H
            clear H
            have hcz19_0 : w6.cell? ⟨gb143, 0, none⟩ = some (.string (⟨#[]⟩ : ByteArray)) := (blk_cell BK143.out 0).trans rfl
            have hcz19_1 : w6.cell? ⟨gb143, 1, none⟩ = some (.int .i64 0) := (blk_cell BK143.out 1).trans rfl
            have hcz19_2 : w6.cell? ⟨gb143, 2, none⟩ = some (.int .i64 0) := (blk_cell BK143.out 2).trans rfl
            have hcz19_3 : w6.cell? ⟨gb143, 3, none⟩ = some (.int .i64 0) := (blk_cell BK143.out 3).trans rfl
            have hcz19_4 : w6.cell? ⟨gb143, 4, none⟩ = some (.int .i64 0) := (blk_cell BK143.out 4).trans rfl
            have hcz19_5 : w6.cell? ⟨gb143, 5, none⟩ = some (.int .i64 0) := (blk_cell BK143.out 5).trans rfl
            have hcz19_6 : w6.cell? ⟨gb143, 6, none⟩ = some (.string (⟨#[]⟩ : ByteArray)) := (blk_cell BK143.out 6).trans rfl
            have hfz19_0 := blk_frozen BK143.out 0
            have hfz19_1 := blk_frozen BK143.out 1
            have hfz19_2 := blk_frozen BK143.out 2
            have hfz19_3 := blk_frozen BK143.out 3
            have hfz19_4 := blk_frozen BK143.out 4
            have hfz19_5 := blk_frozen BK143.out 5
            have hfz19_6 := blk_frozen BK143.out 6
            go_wp2_with (first | (go_at_call 36; (with_reducible refine (camletref40_Label.calls k ((rd_T36 l0 a1).f0) false _ A13.out).mono ?_); rintro e w' ⟨rfl, ⟨nd, rfl⟩⟩))
            go_meet
            case rel => exact ⟨_, (true), (by first | rfl | (simp; done) | (simp [*]; done) | (simp; generalize ByteArray.toList _ = z_; cases z_ <;> first | rfl | simp)), H', ⟨by first | omega | exact Nat.le_refl _⟩, ⟨by (with_reducible repeat (first | refine blk_drewN ?_ _ | refine blk_drew ?_ | refine blk_alloc ?_ _)); refine blk_put (cs := #[.string ((rd_T36 l0 a1).f0), .int .i64 ((rd_T36 l0 a1).f1.f0), .int .i64 ((rd_T36 l0 a1).f1.f1), .int .i64 ((rd_T36 l0 a1).f1.f2), .int .i64 ((rd_T36 l0 a1).f1.f3), .int .i64 ((rd_T36 l0 a1).f1.f4), .string (⟨#[]⟩ : ByteArray)]) ?_ 6 _ rfl; (with_reducible repeat (first | refine blk_drewN ?_ _ | refine blk_drew ?_ | refine blk_alloc ?_ _)); refine blk_put (cs := #[.string ((rd_T36 l0 a1).f0), .int .i64 ((rd_T36 l0 a1).f1.f0), .int .i64 ((rd_T36 l0 a1).f1.f1), .int .i64 ((rd_T36 l0 a1).f1.f2), .int .i64 ((rd_T36 l0 a1).f1.f3), .int .i64 0, .string (⟨#[]⟩ : ByteArray)]) ?_ 5 _ rfl; (with_reducible repeat (first | refine blk_drewN ?_ _ | refine blk_drew ?_ | refine blk_alloc ?_ _)); refine blk_put (cs := #[.string ((rd_T36 l0 a1).f0), .int .i64 ((rd_T36 l0 a1).f1.f0), .int .i64 ((rd_T36 l0 a1).f1.f1), .int .i64 ((rd_T36 l0 a1).f1.f2), .int .i64 0, .int .i64 0, .string (⟨#[]⟩ : ByteArray)]) ?_ 4 _ rfl; (with_reducible repeat (first | refine blk_drewN ?_ _ | refine blk_drew ?_ | refine blk_alloc ?_ _)); refine blk_put (cs := #[.string ((rd_T36 l0 a1).f0), .int .i64 ((rd_T36 l0 a1).f1.f0), .int .i64 ((rd_T36 l0 a1).f1.f1), .int .i64 0, .int .i64 0, .int .i64 0, .string (⟨#[]⟩ : ByteArray)]) ?_ 3 _ rfl; (with_reducible repeat (first | refine blk_drewN ?_ _ | refine blk_drew ?_ | refine blk_alloc ?_ _)); refine blk_put (cs := #[.string ((rd_T36 l0 a1).f0), .int .i64 ((rd_T36 l0 a1).f1.f0), .int .i64 0, .int .i64 0, .int .i64 0, .int .i64 0, .string (⟨#[]⟩ : ByteArray)]) ?_ 2 _ rfl; (with_reducible repeat (first | refine blk_drewN ?_ _ | refine blk_drew ?_ | refine blk_alloc ?_ _)); refine blk_put (cs := #[.string ((rd_T36 l0 a1).f0), .int .i64 0, .int .i64 0, .int .i64 0, .int .i64 0, .int .i64 0, .string (⟨#[]⟩ : ByteArray)]) ?_ 1 _ rfl; (with_reducible repeat (first | refine blk_drewN ?_ _ | refine blk_drew ?_ | refine blk_alloc ?_ _)); refine blk_put (cs := #[.string (⟨#[]⟩ : ByteArray), .int .i64 0, .int .i64 0, .int .i64 0, .int .i64 0, .int .i64 0, .string (⟨#[]⟩ : ByteArray)]) ?_ 0 _ rfl; (with_reducible repeat (first | refine blk_drewN ?_ _ | refine blk_drew ?_ | refine blk_alloc ?_ _)); exact BK143.out⟩, ⟨by repeat (first | (with_reducible first | exact HB.out | apply below_alloc | apply pw_below_drewN | apply below_drew1 | refine below_set ?_ GE143.out) | exact HB.out)⟩⟩
      case rest =>
        clear HC5
        try clear c1
        try clear p1
        try clear q1
        try clear hx1
        try clear c2
        try clear p2
        try clear c3
        try clear c3b0
        try clear c4
        try clear c4b0
        try clear c8
        try clear c8b0
        try clear c8b1
        try clear c9
        try clear c9b0
        try clear c9b1
        try clear c14
        try clear p14
        try clear q14
        try clear hx14
        try clear c15
        try clear c15b0
        try clear c15b1
        try clear hcz10_0
        try clear hcz10_1
        try clear hcz10_2
        try clear hcz10_3
        try clear hcz10_4
        try clear hcz10_5
        try clear hcz10_6
        try clear hcz12_0
        try clear hcz12_1
        try clear hcz12_2
        try clear hcz12_3
        try clear hcz12_4
        try clear hcz12_5
        try clear hcz12_6
        try clear hcz16_0
        try clear hcz16_1
        try clear hcz16_2
        try clear hcz16_3
        try clear hcz16_4
        try clear hcz16_5
        try clear hcz16_6
        try clear hcz18_0
        try clear hcz18_1
        try clear hcz18_2
        try clear hcz18_3
        try clear hcz18_4
        try clear hcz18_5
        try clear hcz18_6
        try clear hcz19_0
        try clear hcz19_1
        try clear hcz19_2
        try clear hcz19_3
        try clear hcz19_4
        try clear hcz19_5
        try clear hcz19_6
        try clear hcz7_0
        try clear hcz7_1
        try clear hcz7_2
        try clear hcz7_3
        try clear hcz7_4
        try clear hcz7_5
        try clear hcz7_6
        try clear hfz10_0
        try clear hfz10_1
        try clear hfz10_2
        try clear hfz10_3
        try clear hfz10_4
        try clear hfz10_5
        try clear hfz10_6
        try clear hfz12_0
        try clear hfz12_1
        try clear hfz12_2
        try clear hfz12_3
        try clear hfz12_4
        try clear hfz12_5
        try clear hfz12_6
        try clear hfz16_0
        try clear hfz16_1
        try clear hfz16_2
        try clear hfz16_3
        try clear hfz16_4
        try clear hfz16_5
        try clear hfz16_6
        try clear hfz18_0
        try clear hfz18_1
        try clear hfz18_2
        try clear hfz18_3
        try clear hfz18_4
        try clear hfz18_5
        try clear hfz18_6
        try clear hfz19_0
        try clear hfz19_1
        try clear hfz19_2
        try clear hfz19_3
        try clear hfz19_4
        try clear hfz19_5
        try clear hfz19_6
        try clear hfz7_0
        try clear hfz7_1
        try clear hfz7_2
        try clear hfz7_3
        try clear hfz7_4
        try clear hfz7_5
        try clear hfz7_6
        try clear hx142_0
        try clear hx142_1
        try clear hx142_2
        try clear hx142_3
        try clear hx142_4
        try clear hx142_5
        try clear hx142_6
        try clear p142
        try clear q142
        obtain ⟨kq, x31_4, rfl, HA, HJ4, BK143, HB⟩ := hcut
        cases kq with
        | zero => exact absurd HA.out (by simp [camletref40_one.j0])
        | succ kj4 =>
          have H := HA.out
          clear HA
          simp only [camletref40_one.j0] at H
          by_cases c20 : x31_4 = true
          · subst c20
            have H1 : (some (0, 3)) = some (r1, r2) := by rw [if_pos rfl] at H; exact H
            clear H
            have H := H1
            clear H1
            simp only [Option.some.injEq, Prod.mk.injEq] at H
            obtain ⟨rfl, rfl⟩ := H
            go_wp2
            go_ret2
            exact ⟨by first | rfl | (simp [errW_none, errW_some] <;> rfl) | (simp [*, errW_none, errW_some] <;> rfl), by repeat (first | (with_reducible first | exact HB.out | apply below_alloc | apply pw_below_drewN | apply below_drew1 | refine below_set ?_ GE143.out) | exact HB.out)⟩
          · replace c20 := Bool.eq_false_iff.mpr c20
            subst c20
            have H1 : (if ((rd_T36 l0 a1).f0).toList = ([] : List UInt8) then (camletref40_one.j1 kj4 l0 a1 false ((rd_T36 l0 a1).f0) ((rd_T36 l0 a1).f1.f0) ((rd_T36 l0 a1).f1.f1) ((rd_T36 l0 a1).f1.f2) ((rd_T36 l0 a1).f1.f3) ((rd_T36 l0 a1).f1.f4) ((rd_T36 l0 a1).f2)) else ((camletref40_Labels.f kj4 l0 ((rd_T36 l0 a1).f0)).bind fun t147 => (camletref40_one.j1 kj4 l0 a1 (decide (t147 < a1)) ((rd_T36 l0 a1).f0) ((rd_T36 l0 a1).f1.f0) ((rd_T36 l0 a1).f1.f1) ((rd_T36 l0 a1).f1.f2) ((rd_T36 l0 a1).f1.f3) ((rd_T36 l0 a1).f1.f4) ((rd_T36 l0 a1).f2)))) = some (r1, r2) := by rw [if_neg (show ¬ (false = true) by decide)] at H; exact H
            clear H
            have H := H1
            clear H1
            have HC21 := Aside0.mk H
            clear H
            go_upto_region 4 with (fail)
            go_cut [42] (fun v42 wc => ∃ (kq : Nat) (x42_20 : Bool), v42 = .bool x42_20 ∧ Aside0 (camletref40_one.j1 kq l0 a1 x42_20 ((rd_T36 l0 a1).f0) ((rd_T36 l0 a1).f1.f0) ((rd_T36 l0 a1).f1.f1) ((rd_T36 l0 a1).f1.f2) ((rd_T36 l0 a1).f1.f3) ((rd_T36 l0 a1).f1.f4) ((rd_T36 l0 a1).f2) = some (r1, r2)) ∧ Aside0 (kq ≤ kj4) ∧ Aside0 (wc.heap[gb143]? = some (.cells #[.string ((rd_T36 l0 a1).f0), .int .i64 ((rd_T36 l0 a1).f1.f0), .int .i64 ((rd_T36 l0 a1).f1.f1), .int .i64 ((rd_T36 l0 a1).f1.f2), .int .i64 ((rd_T36 l0 a1).f1.f3), .int .i64 ((rd_T36 l0 a1).f1.f4), .string ((rd_T36 l0 a1).f2)] 36 (0, 0))) ∧ Aside0 (Below w.heap.size w wc))
            case first =>
              have H := HC21.out
              clear HC21
              by_cases c22 : ((rd_T36 l0 a1).f0).toList = ([] : List UInt8)
              · rw [if_pos c22] at H
                have c22b0 : (((rd_T36 l0 a1).f0).toList == ([] : List UInt8)) = true := beq_iff_eq.mpr c22
                have c22b1 : (((rd_T36 l0 a1).f0).toList != ([] : List UInt8)) = false := bne_eq_false_iff_eq.mpr c22
                clear c22
                (first | rw [c22b0] | (simp only [i64_w, i32_w]; rw [c22b0]) | skip)
                have H' := Aside0.mk H
                clear H
                have hcz23_0 : wc.cell? ⟨gb143, 0, none⟩ = some (.string ((rd_T36 l0 a1).f0)) := (blk_cell BK143.out 0).trans rfl
                have hcz23_1 : wc.cell? ⟨gb143, 1, none⟩ = some (.int .i64 ((rd_T36 l0 a1).f1.f0)) := (blk_cell BK143.out 1).trans rfl
                have hcz23_2 : wc.cell? ⟨gb143, 2, none⟩ = some (.int .i64 ((rd_T36 l0 a1).f1.f1)) := (blk_cell BK143.out 2).trans rfl
                have hcz23_3 : wc.cell? ⟨gb143, 3, none⟩ = some (.int .i64 ((rd_T36 l0 a1).f1.f2)) := (blk_cell BK143.out 3).trans rfl
                have hcz23_4 : wc.cell? ⟨gb143, 4, none⟩ = some (.int .i64 ((rd_T36 l0 a1).f1.f3)) := (blk_cell BK143.out 4).trans rfl
                have hcz23_5 : wc.cell? ⟨gb143, 5, none⟩ = some (.int .i64 ((rd_T36 l0 a1).f1.f4)) := (blk_cell BK143.out 5).trans rfl
                have hcz23_6 : wc.cell? ⟨gb143, 6, none⟩ = some (.string ((rd_T36 l0 a1).f2)) := (blk_cell BK143.out 6).trans rfl
                have hfz23_0 := blk_frozen BK143.out 0
                have hfz23_1 := blk_frozen BK143.out 1
                have hfz23_2 := blk_frozen BK143.out 2
                have hfz23_3 := blk_frozen BK143.out 3
                have hfz23_4 := blk_frozen BK143.out 4
                have hfz23_5 := blk_frozen BK143.out 5
                have hfz23_6 := blk_frozen BK143.out 6
                go_wp2
                go_meet
                case rel => exact ⟨_, (false), (by first | rfl | (simp; done) | (simp [*]; done) | (simp; generalize ByteArray.toList _ = z_; cases z_ <;> first | rfl | simp)), H', ⟨by have := HJ4.out; first | omega | exact Nat.le_refl _⟩, ⟨by (with_reducible repeat (first | refine blk_drewN ?_ _ | refine blk_drew ?_ | refine blk_alloc ?_ _)); exact BK143.out⟩, ⟨by repeat (first | (with_reducible first | exact HB.out | apply below_alloc | apply pw_below_drewN | apply below_drew1 | refine below_set ?_ GE143.out) | exact HB.out)⟩⟩
              · rw [if_neg c22] at H
                have c22b0 : (((rd_T36 l0 a1).f0).toList == ([] : List UInt8)) = false := beq_eq_false_iff_ne.mpr c22
                have c22b1 : (((rd_T36 l0 a1).f0).toList != ([] : List UInt8)) = true := bne_iff_ne.mpr c22
                (first | rw [c22b0] | (simp only [i64_w, i32_w]; rw [c22b0]) | skip)
                replace H := Option.bind_eq_some_iff.mp H
                obtain ⟨t147, A240, H⟩ := H
                replace H : (camletref40_one.j1 kj4 l0 a1 (decide (t147 < a1)) ((rd_T36 l0 a1).f0) ((rd_T36 l0 a1).f1.f0) ((rd_T36 l0 a1).f1.f1) ((rd_T36 l0 a1).f1.f2) ((rd_T36 l0 a1).f1.f3) ((rd_T36 l0 a1).f1.f4) ((rd_T36 l0 a1).f2)) = some (r1, r2) := H
                have A24 := Aside0.mk A240
                clear A240
                have H' := Aside0.mk H
                clear H
                have hcz25_0 : wc.cell? ⟨gb143, 0, none⟩ = some (.string ((rd_T36 l0 a1).f0)) := (blk_cell BK143.out 0).trans rfl
                have hcz25_1 : wc.cell? ⟨gb143, 1, none⟩ = some (.int .i64 ((rd_T36 l0 a1).f1.f0)) := (blk_cell BK143.out 1).trans rfl
                have hcz25_2 : wc.cell? ⟨gb143, 2, none⟩ = some (.int .i64 ((rd_T36 l0 a1).f1.f1)) := (blk_cell BK143.out 2).trans rfl
                have hcz25_3 : wc.cell? ⟨gb143, 3, none⟩ = some (.int .i64 ((rd_T36 l0 a1).f1.f2)) := (blk_cell BK143.out 3).trans rfl
                have hcz25_4 : wc.cell? ⟨gb143, 4, none⟩ = some (.int .i64 ((rd_T36 l0 a1).f1.f3)) := (blk_cell BK143.out 4).trans rfl
                have hcz25_5 : wc.cell? ⟨gb143, 5, none⟩ = some (.int .i64 ((rd_T36 l0 a1).f1.f4)) := (blk_cell BK143.out 5).trans rfl
                have hcz25_6 : wc.cell? ⟨gb143, 6, none⟩ = some (.string ((rd_T36 l0 a1).f2)) := (blk_cell BK143.out 6).trans rfl
                have hfz25_0 := blk_frozen BK143.out 0
                have hfz25_1 := blk_frozen BK143.out 1
                have hfz25_2 := blk_frozen BK143.out 2
                have hfz25_3 := blk_frozen BK143.out 3
                have hfz25_4 := blk_frozen BK143.out 4
                have hfz25_5 := blk_frozen BK143.out 5
                have hfz25_6 := blk_frozen BK143.out 6
                go_wp2_with (first | (go_at_call 14; (with_reducible refine (camletref40_Labels.calls kj4 _ _ l0 ((rd_T36 l0 a1).f0) t147 _ ?side1 ?side2 A24.out).mono ?_); (case side1 => repeat (first | exact (Kd.C_below HR0.out HB.out) | (with_reducible refine Kd.C_alloc ?_ _) | (with_reducible refine Kd.C_drewN ?_ _) | (with_reducible refine Kd.C_drew ?_))); (case side2 => exact HC0.out); rintro e w' ⟨rfl, ⟨nd, rfl⟩⟩))
                go_meet
                case rel => exact ⟨_, (decide (t147 < a1)), (by first | rfl | (simp; done) | (simp [*]; done) | (simp; generalize ByteArray.toList _ = z_; cases z_ <;> first | rfl | simp)), H', ⟨by have := HJ4.out; first | omega | exact Nat.le_refl _⟩, ⟨by (with_reducible repeat (first | refine blk_drewN ?_ _ | refine blk_drew ?_ | refine blk_alloc ?_ _)); exact BK143.out⟩, ⟨by repeat (first | (with_reducible first | exact HB.out | apply below_alloc | apply pw_below_drewN | apply below_drew1 | refine below_set ?_ GE143.out) | exact HB.out)⟩⟩
            case rest =>
              clear HC21
              try clear c1
              try clear p1
              try clear q1
              try clear hx1
              try clear c2
              try clear p2
              try clear c3
              try clear c3b0
              try clear c4
              try clear c4b0
              try clear c8
              try clear c8b0
              try clear c8b1
              try clear c9
              try clear c9b0
              try clear c9b1
              try clear c14
              try clear p14
              try clear q14
              try clear hx14
              try clear c15
              try clear c15b0
              try clear c15b1
              try clear c20
              try clear c22
              try clear c22b0
              try clear c22b1
              try clear hcz10_0
              try clear hcz10_1
              try clear hcz10_2
              try clear hcz10_3
              try clear hcz10_4
              try clear hcz10_5
              try clear hcz10_6
              try clear hcz12_0
              try clear hcz12_1
              try clear hcz12_2
              try clear hcz12_3
              try clear hcz12_4
              try clear hcz12_5
              try clear hcz12_6
              try clear hcz16_0
              try clear hcz16_1
              try clear hcz16_2
              try clear hcz16_3
              try clear hcz16_4
              try clear hcz16_5
              try clear hcz16_6
              try clear hcz18_0
              try clear hcz18_1
              try clear hcz18_2
              try clear hcz18_3
              try clear hcz18_4
              try clear hcz18_5
              try clear hcz18_6
              try clear hcz19_0
              try clear hcz19_1
              try clear hcz19_2
              try clear hcz19_3
              try clear hcz19_4
              try clear hcz19_5
              try clear hcz19_6
              try clear hcz23_0
              try clear hcz23_1
              try clear hcz23_2
              try clear hcz23_3
              try clear hcz23_4
              try clear hcz23_5
              try clear hcz23_6
              try clear hcz25_0
              try clear hcz25_1
              try clear hcz25_2
              try clear hcz25_3
              try clear hcz25_4
              try clear hcz25_5
              try clear hcz25_6
              try clear hcz7_0
              try clear hcz7_1
              try clear hcz7_2
              try clear hcz7_3
              try clear hcz7_4
              try clear hcz7_5
              try clear hcz7_6
              try clear hfz10_0
              try clear hfz10_1
              try clear hfz10_2
              try clear hfz10_3
              try clear hfz10_4
              try clear hfz10_5
              try clear hfz10_6
              try clear hfz12_0
              try clear hfz12_1
              try clear hfz12_2
              try clear hfz12_3
              try clear hfz12_4
              try clear hfz12_5
              try clear hfz12_6
              try clear hfz16_0
              try clear hfz16_1
              try clear hfz16_2
              try clear hfz16_3
              try clear hfz16_4
              try clear hfz16_5
              try clear hfz16_6
              try clear hfz18_0
              try clear hfz18_1
              try clear hfz18_2
              try clear hfz18_3
              try clear hfz18_4
              try clear hfz18_5
              try clear hfz18_6
              try clear hfz19_0
              try clear hfz19_1
              try clear hfz19_2
              try clear hfz19_3
              try clear hfz19_4
              try clear hfz19_5
              try clear hfz19_6
              try clear hfz23_0
              try clear hfz23_1
              try clear hfz23_2
              try clear hfz23_3
              try clear hfz23_4
              try clear hfz23_5
              try clear hfz23_6
              try clear hfz25_0
              try clear hfz25_1
              try clear hfz25_2
              try clear hfz25_3
              try clear hfz25_4
              try clear hfz25_5
              try clear hfz25_6
              try clear hfz7_0
              try clear hfz7_1
              try clear hfz7_2
              try clear hfz7_3
              try clear hfz7_4
              try clear hfz7_5
              try clear hfz7_6
              try clear hx142_0
              try clear hx142_1
              try clear hx142_2
              try clear hx142_3
              try clear hx142_4
              try clear hx142_5
              try clear hx142_6
              try clear p1
              try clear p14
              try clear p142
              try clear p2
              try clear q1
              try clear q14
              try clear q142
              obtain ⟨kq, x42_20, rfl, HA, HJ20, BK143, HB⟩ := hcut
              cases kq with
              | zero => exact absurd HA.out (by simp [camletref40_one.j1])
              | succ kj20 =>
                have H := HA.out
                clear HA
                simp only [camletref40_one.j1] at H
                by_cases c26 : x42_20 = true
                · subst c26
                  have H1 : (some (0, 9)) = some (r1, r2) := by rw [if_pos rfl] at H; exact H
                  clear H
                  have H := H1
                  clear H1
                  simp only [Option.some.injEq, Prod.mk.injEq] at H
                  obtain ⟨rfl, rfl⟩ := H
                  go_wp2
                  go_ret2
                  exact ⟨by first | rfl | (simp [errW_none, errW_some] <;> rfl) | (simp [*, errW_none, errW_some] <;> rfl), by repeat (first | (with_reducible first | exact HB.out | apply below_alloc | apply pw_below_drewN | apply below_drew1 | refine below_set ?_ GE143.out) | exact HB.out)⟩
                · replace c26 := Bool.eq_false_iff.mpr c26
                  subst c26
                  have H1 : (if ((rd_T36 l0 a1).f2).toList = ([] : List UInt8) then ((camletref39_Put.f kj20 ((rd_T36 l0 a1).f1.f0) ((rd_T36 l0 a1).f1.f1) ((rd_T36 l0 a1).f1.f2) ((rd_T36 l0 a1).f1.f3) ((rd_T36 l0 a1).f1.f4)).bind fun bt148 => (some (bt148.1, bt148.2))) else ((camletref40_ways.f ((rd_T36 l0 a1).f1.f0)).bind fun t150 => (if t150 = true then ((camletref40_Labels.f kj20 l0 ((rd_T36 l0 a1).f2)).bind fun t151 => (if t151 < 0 then (some (0, 25)) else (if ((rd_T36 l0 a1).f1.f0) = 1 then ((camletref39_Put.f kj20 ((rd_T36 l0 a1).f1.f0) ((rd_T36 l0 a1).f1.f1) ((rd_T36 l0 a1).f1.f2) ((rd_T36 l0 a1).f1.f3) (wrap64 ((wrap64 (2 * t151)) + 1))).bind fun bt152 => (some (bt152.1, bt152.2))) else ((camletref39_Put.f kj20 ((rd_T36 l0 a1).f1.f0) ((rd_T36 l0 a1).f1.f1) ((rd_T36 l0 a1).f1.f2) ((rd_T36 l0 a1).f1.f3) (wrap64 ((wrap64 (t151 - a1)) - 1))).bind fun bt154 => (some (bt154.1, bt154.2)))))) else (some (0, 1))))) = some (r1, r2) := by rw [if_neg (show ¬ (false = true) by decide)] at H; exact H
                  clear H
                  have H := H1
                  clear H1
                  by_cases c27 : ((rd_T36 l0 a1).f2).toList = ([] : List UInt8)
                  · rw [if_pos c27] at H
                    have c27b0 : (((rd_T36 l0 a1).f2).toList == ([] : List UInt8)) = true := beq_iff_eq.mpr c27
                    have c27b1 : (((rd_T36 l0 a1).f2).toList != ([] : List UInt8)) = false := bne_eq_false_iff_eq.mpr c27
                    clear c27
                    replace H := Option.bind_eq_some_iff.mp H
                    obtain ⟨⟨t148, t149⟩, A280, H⟩ := H
                    replace H : (some (t148, t149)) = some (r1, r2) := H
                    have A28 := Aside0.mk A280
                    clear A280
                    simp only [Option.some.injEq, Prod.mk.injEq] at H
                    obtain ⟨rfl, rfl⟩ := H
                    have hcz29_0 : wc.cell? ⟨gb143, 0, none⟩ = some (.string ((rd_T36 l0 a1).f0)) := (blk_cell BK143.out 0).trans rfl
                    have hcz29_1 : wc.cell? ⟨gb143, 1, none⟩ = some (.int .i64 ((rd_T36 l0 a1).f1.f0)) := (blk_cell BK143.out 1).trans rfl
                    have hcz29_2 : wc.cell? ⟨gb143, 2, none⟩ = some (.int .i64 ((rd_T36 l0 a1).f1.f1)) := (blk_cell BK143.out 2).trans rfl
                    have hcz29_3 : wc.cell? ⟨gb143, 3, none⟩ = some (.int .i64 ((rd_T36 l0 a1).f1.f2)) := (blk_cell BK143.out 3).trans rfl
                    have hcz29_4 : wc.cell? ⟨gb143, 4, none⟩ = some (.int .i64 ((rd_T36 l0 a1).f1.f3)) := (blk_cell BK143.out 4).trans rfl
                    have hcz29_5 : wc.cell? ⟨gb143, 5, none⟩ = some (.int .i64 ((rd_T36 l0 a1).f1.f4)) := (blk_cell BK143.out 5).trans rfl
                    have hcz29_6 : wc.cell? ⟨gb143, 6, none⟩ = some (.string ((rd_T36 l0 a1).f2)) := (blk_cell BK143.out 6).trans rfl
                    have hfz29_0 := blk_frozen BK143.out 0
                    have hfz29_1 := blk_frozen BK143.out 1
                    have hfz29_2 := blk_frozen BK143.out 2
                    have hfz29_3 := blk_frozen BK143.out 3
                    have hfz29_4 := blk_frozen BK143.out 4
                    have hfz29_5 := blk_frozen BK143.out 5
                    have hfz29_6 := blk_frozen BK143.out 6
                    go_wp2_with (first | (go_at_call 38; (with_reducible refine (camletref39_Put.calls kj20 ((rd_T36 l0 a1).f1.f0) ((rd_T36 l0 a1).f1.f1) ((rd_T36 l0 a1).f1.f2) ((rd_T36 l0 a1).f1.f3) ((rd_T36 l0 a1).f1.f4) t148 t149 _ A28.out).mono ?_); rintro e w30 ⟨rfl, hb⟩; have n0_ := Aside0.mk (blk_below (g := gb143) (o := .cells #[.string ((rd_T36 l0 a1).f0), .int .i64 ((rd_T36 l0 a1).f1.f0), .int .i64 ((rd_T36 l0 a1).f1.f1), .int .i64 ((rd_T36 l0 a1).f1.f2), .int .i64 ((rd_T36 l0 a1).f1.f3), .int .i64 ((rd_T36 l0 a1).f1.f4), .string ((rd_T36 l0 a1).f2)] 36 (0, 0)) (by (with_reducible repeat (first | refine blk_drewN ?_ _ | refine blk_drew ?_ | refine blk_alloc ?_ _)); exact BK143.out) hb); have n1_ := Aside0.mk (below_step (by repeat (first | (with_reducible first | exact HB.out | apply below_alloc | apply pw_below_drewN | apply below_drew1 | refine below_set ?_ GE143.out) | exact HB.out)) hb); clear BK143; clear HB; have BK143 := n0_; have HB := n1_; clear n0_ n1_; (try clear hb); (try clear hb2); (try clear hk); (try clear hi)))
                    go_ret2
                    exact ⟨by first | rfl | (simp [errW_none, errW_some] <;> rfl) | (simp [*, errW_none, errW_some] <;> rfl), by repeat (first | (with_reducible first | exact HB.out | apply below_alloc | apply pw_below_drewN | apply below_drew1 | refine below_set ?_ GE143.out) | exact HB.out)⟩
                  · rw [if_neg c27] at H
                    have c27b0 : (((rd_T36 l0 a1).f2).toList == ([] : List UInt8)) = false := beq_eq_false_iff_ne.mpr c27
                    have c27b1 : (((rd_T36 l0 a1).f2).toList != ([] : List UInt8)) = true := bne_iff_ne.mpr c27
                    replace H := Option.bind_eq_some_iff.mp H
                    obtain ⟨t150, A310, H⟩ := H
                    replace H : (if t150 = true then ((camletref40_Labels.f kj20 l0 ((rd_T36 l0 a1).f2)).bind fun t151 => (if t151 < 0 then (some (0, 25)) else (if ((rd_T36 l0 a1).f1.f0) = 1 then ((camletref39_Put.f kj20 ((rd_T36 l0 a1).f1.f0) ((rd_T36 l0 a1).f1.f1) ((rd_T36 l0 a1).f1.f2) ((rd_T36 l0 a1).f1.f3) (wrap64 ((wrap64 (2 * t151)) + 1))).bind fun bt152 => (some (bt152.1, bt152.2))) else ((camletref39_Put.f kj20 ((rd_T36 l0 a1).f1.f0) ((rd_T36 l0 a1).f1.f1) ((rd_T36 l0 a1).f1.f2) ((rd_T36 l0 a1).f1.f3) (wrap64 ((wrap64 (t151 - a1)) - 1))).bind fun bt154 => (some (bt154.1, bt154.2)))))) else (some (0, 1))) = some (r1, r2) := H
                    have A31 := Aside0.mk A310
                    clear A310
                    by_cases c32 : t150 = true
                    · subst c32
                      have H1 : ((camletref40_Labels.f kj20 l0 ((rd_T36 l0 a1).f2)).bind fun t151 => (if t151 < 0 then (some (0, 25)) else (if ((rd_T36 l0 a1).f1.f0) = 1 then ((camletref39_Put.f kj20 ((rd_T36 l0 a1).f1.f0) ((rd_T36 l0 a1).f1.f1) ((rd_T36 l0 a1).f1.f2) ((rd_T36 l0 a1).f1.f3) (wrap64 ((wrap64 (2 * t151)) + 1))).bind fun bt152 => (some (bt152.1, bt152.2))) else ((camletref39_Put.f kj20 ((rd_T36 l0 a1).f1.f0) ((rd_T36 l0 a1).f1.f1) ((rd_T36 l0 a1).f1.f2) ((rd_T36 l0 a1).f1.f3) (wrap64 ((wrap64 (t151 - a1)) - 1))).bind fun bt154 => (some (bt154.1, bt154.2)))))) = some (r1, r2) := by rw [if_pos rfl] at H; exact H
                      clear H
                      have H := H1
                      clear H1
                      replace H := Option.bind_eq_some_iff.mp H
                      obtain ⟨t151, A330, H⟩ := H
                      replace H : (if t151 < 0 then (some (0, 25)) else (if ((rd_T36 l0 a1).f1.f0) = 1 then ((camletref39_Put.f kj20 ((rd_T36 l0 a1).f1.f0) ((rd_T36 l0 a1).f1.f1) ((rd_T36 l0 a1).f1.f2) ((rd_T36 l0 a1).f1.f3) (wrap64 ((wrap64 (2 * t151)) + 1))).bind fun bt152 => (some (bt152.1, bt152.2))) else ((camletref39_Put.f kj20 ((rd_T36 l0 a1).f1.f0) ((rd_T36 l0 a1).f1.f1) ((rd_T36 l0 a1).f1.f2) ((rd_T36 l0 a1).f1.f3) (wrap64 ((wrap64 (t151 - a1)) - 1))).bind fun bt154 => (some (bt154.1, bt154.2))))) = some (r1, r2) := H
                      have A33 := Aside0.mk A330
                      clear A330
                      by_cases c34 : t151 < 0
                      · rw [if_pos c34] at H
                        have c34b0 : decide (t151 < 0) = true := decide_eq_true c34
                        clear c34
                        simp only [Option.some.injEq, Prod.mk.injEq] at H
                        obtain ⟨rfl, rfl⟩ := H
                        have hcz35_0 : wc.cell? ⟨gb143, 0, none⟩ = some (.string ((rd_T36 l0 a1).f0)) := (blk_cell BK143.out 0).trans rfl
                        have hcz35_1 : wc.cell? ⟨gb143, 1, none⟩ = some (.int .i64 ((rd_T36 l0 a1).f1.f0)) := (blk_cell BK143.out 1).trans rfl
                        have hcz35_2 : wc.cell? ⟨gb143, 2, none⟩ = some (.int .i64 ((rd_T36 l0 a1).f1.f1)) := (blk_cell BK143.out 2).trans rfl
                        have hcz35_3 : wc.cell? ⟨gb143, 3, none⟩ = some (.int .i64 ((rd_T36 l0 a1).f1.f2)) := (blk_cell BK143.out 3).trans rfl
                        have hcz35_4 : wc.cell? ⟨gb143, 4, none⟩ = some (.int .i64 ((rd_T36 l0 a1).f1.f3)) := (blk_cell BK143.out 4).trans rfl
                        have hcz35_5 : wc.cell? ⟨gb143, 5, none⟩ = some (.int .i64 ((rd_T36 l0 a1).f1.f4)) := (blk_cell BK143.out 5).trans rfl
                        have hcz35_6 : wc.cell? ⟨gb143, 6, none⟩ = some (.string ((rd_T36 l0 a1).f2)) := (blk_cell BK143.out 6).trans rfl
                        have hfz35_0 := blk_frozen BK143.out 0
                        have hfz35_1 := blk_frozen BK143.out 1
                        have hfz35_2 := blk_frozen BK143.out 2
                        have hfz35_3 := blk_frozen BK143.out 3
                        have hfz35_4 := blk_frozen BK143.out 4
                        have hfz35_5 := blk_frozen BK143.out 5
                        have hfz35_6 := blk_frozen BK143.out 6
                        go_wp2_with (first | (go_at_call 37; (with_reducible refine (camletref40_ways.calls ((rd_T36 l0 a1).f1.f0) true _ A31.out).mono ?_); rintro e w' ⟨rfl, ⟨nd, rfl⟩⟩) | (go_at_call 14; (with_reducible refine (camletref40_Labels.calls kj20 _ _ l0 ((rd_T36 l0 a1).f2) t151 _ ?side1 ?side2 A33.out).mono ?_); (case side1 => repeat (first | exact (Kd.C_below HR0.out (by repeat (first | (with_reducible first | exact HB.out | apply below_alloc | apply pw_below_drewN | apply below_drew1 | refine below_set ?_ GE143.out) | exact HB.out))) | (with_reducible refine Kd.C_alloc ?_ _) | (with_reducible refine Kd.C_drewN ?_ _) | (with_reducible refine Kd.C_drew ?_))); (case side2 => exact HC0.out); rintro e w' ⟨rfl, ⟨nd, rfl⟩⟩))
                        go_ret2
                        exact ⟨by first | rfl | (simp [errW_none, errW_some] <;> rfl) | (simp [*, errW_none, errW_some] <;> rfl), by repeat (first | (with_reducible first | exact HB.out | apply below_alloc | apply pw_below_drewN | apply below_drew1 | refine below_set ?_ GE143.out) | exact HB.out)⟩
                      · rw [if_neg c34] at H
                        have c34b0 : decide (t151 < 0) = false := decide_eq_false c34
                        clear c34
                        by_cases c36 : ((rd_T36 l0 a1).f1.f0) = 1
                        · rw [if_pos c36] at H
                          have c36b0 : (((rd_T36 l0 a1).f1.f0) == 1) = true := beq_iff_eq.mpr c36
                          have c36b1 : (((rd_T36 l0 a1).f1.f0) != 1) = false := bne_eq_false_iff_eq.mpr c36
                          clear c36
                          replace H := Option.bind_eq_some_iff.mp H
                          obtain ⟨⟨t152, t153⟩, A370, H⟩ := H
                          replace H : (some (t152, t153)) = some (r1, r2) := H
                          have A37 := Aside0.mk A370
                          clear A370
                          simp only [Option.some.injEq, Prod.mk.injEq] at H
                          obtain ⟨rfl, rfl⟩ := H
                          have hcz38_0 : wc.cell? ⟨gb143, 0, none⟩ = some (.string ((rd_T36 l0 a1).f0)) := (blk_cell BK143.out 0).trans rfl
                          have hcz38_1 : wc.cell? ⟨gb143, 1, none⟩ = some (.int .i64 ((rd_T36 l0 a1).f1.f0)) := (blk_cell BK143.out 1).trans rfl
                          have hcz38_2 : wc.cell? ⟨gb143, 2, none⟩ = some (.int .i64 ((rd_T36 l0 a1).f1.f1)) := (blk_cell BK143.out 2).trans rfl
                          have hcz38_3 : wc.cell? ⟨gb143, 3, none⟩ = some (.int .i64 ((rd_T36 l0 a1).f1.f2)) := (blk_cell BK143.out 3).trans rfl
                          have hcz38_4 : wc.cell? ⟨gb143, 4, none⟩ = some (.int .i64 ((rd_T36 l0 a1).f1.f3)) := (blk_cell BK143.out 4).trans rfl
                          have hcz38_5 : wc.cell? ⟨gb143, 5, none⟩ = some (.int .i64 ((rd_T36 l0 a1).f1.f4)) := (blk_cell BK143.out 5).trans rfl
                          have hcz38_6 : wc.cell? ⟨gb143, 6, none⟩ = some (.string ((rd_T36 l0 a1).f2)) := (blk_cell BK143.out 6).trans rfl
                          have hfz38_0 := blk_frozen BK143.out 0
                          have hfz38_1 := blk_frozen BK143.out 1
                          have hfz38_2 := blk_frozen BK143.out 2
                          have hfz38_3 := blk_frozen BK143.out 3
                          have hfz38_4 := blk_frozen BK143.out 4
                          have hfz38_5 := blk_frozen BK143.out 5
                          have hfz38_6 := blk_frozen BK143.out 6
                          go_wp2_with (first | (go_at_call 37; (with_reducible refine (camletref40_ways.calls ((rd_T36 l0 a1).f1.f0) true _ A31.out).mono ?_); rintro e w' ⟨rfl, ⟨nd, rfl⟩⟩; (try (rw [drewN_self wc]; generalize hq_ : World.drewN wc _ = wc; have n0_ : Aside0 (wc.heap[gb143]? = some (.cells #[.string ((rd_T36 l0 a1).f0), .int .i64 ((rd_T36 l0 a1).f1.f0), .int .i64 ((rd_T36 l0 a1).f1.f1), .int .i64 ((rd_T36 l0 a1).f1.f2), .int .i64 ((rd_T36 l0 a1).f1.f3), .int .i64 ((rd_T36 l0 a1).f1.f4), .string ((rd_T36 l0 a1).f2)] 36 (0, 0))) := ⟨by rw [← hq_]; exact (by (with_reducible repeat (first | refine blk_drewN ?_ _ | refine blk_drew ?_ | refine blk_alloc ?_ _)); exact BK143.out)⟩; have n1_ : Aside0 (Below w.heap.size w wc) := ⟨by rw [← hq_]; exact (by repeat (first | (with_reducible first | exact HB.out | apply below_alloc | apply pw_below_drewN | apply below_drew1 | refine below_set ?_ GE143.out) | exact HB.out))⟩; clear BK143 HB hq_; have BK143 := n0_; have HB := n1_; clear n0_ n1_; (try have hcz38_0 : wc.cell? ⟨gb143, 0, none⟩ = some (.string ((rd_T36 l0 a1).f0)) := (blk_cell BK143.out 0).trans rfl); (try have hcz38_1 : wc.cell? ⟨gb143, 1, none⟩ = some (.int .i64 ((rd_T36 l0 a1).f1.f0)) := (blk_cell BK143.out 1).trans rfl); (try have hcz38_2 : wc.cell? ⟨gb143, 2, none⟩ = some (.int .i64 ((rd_T36 l0 a1).f1.f1)) := (blk_cell BK143.out 2).trans rfl); (try have hcz38_3 : wc.cell? ⟨gb143, 3, none⟩ = some (.int .i64 ((rd_T36 l0 a1).f1.f2)) := (blk_cell BK143.out 3).trans rfl); (try have hcz38_4 : wc.cell? ⟨gb143, 4, none⟩ = some (.int .i64 ((rd_T36 l0 a1).f1.f3)) := (blk_cell BK143.out 4).trans rfl); (try have hcz38_5 : wc.cell? ⟨gb143, 5, none⟩ = some (.int .i64 ((rd_T36 l0 a1).f1.f4)) := (blk_cell BK143.out 5).trans rfl); (try have hcz38_6 : wc.cell? ⟨gb143, 6, none⟩ = some (.string ((rd_T36 l0 a1).f2)) := (blk_cell BK143.out 6).trans rfl); (try have hfz38_0 := blk_frozen BK143.out 0); (try have hfz38_1 := blk_frozen BK143.out 1); (try have hfz38_2 := blk_frozen BK143.out 2); (try have hfz38_3 := blk_frozen BK143.out 3); (try have hfz38_4 := blk_frozen BK143.out 4); (try have hfz38_5 := blk_frozen BK143.out 5); (try have hfz38_6 := blk_frozen BK143.out 6)))) | (go_at_call 14; (with_reducible refine (camletref40_Labels.calls kj20 _ _ l0 ((rd_T36 l0 a1).f2) t151 _ ?side1 ?side2 A33.out).mono ?_); (case side1 => repeat (first | exact (Kd.C_below HR0.out HB.out) | (with_reducible refine Kd.C_alloc ?_ _) | (with_reducible refine Kd.C_drewN ?_ _) | (with_reducible refine Kd.C_drew ?_))); (case side2 => exact HC0.out); rintro e w' ⟨rfl, ⟨nd, rfl⟩⟩; (try (rw [drewN_self wc]; generalize hq_ : World.drewN wc _ = wc; have n0_ : Aside0 (wc.heap[gb143]? = some (.cells #[.string ((rd_T36 l0 a1).f0), .int .i64 ((rd_T36 l0 a1).f1.f0), .int .i64 ((rd_T36 l0 a1).f1.f1), .int .i64 ((rd_T36 l0 a1).f1.f2), .int .i64 ((rd_T36 l0 a1).f1.f3), .int .i64 ((rd_T36 l0 a1).f1.f4), .string ((rd_T36 l0 a1).f2)] 36 (0, 0))) := ⟨by rw [← hq_]; exact (by (with_reducible repeat (first | refine blk_drewN ?_ _ | refine blk_drew ?_ | refine blk_alloc ?_ _)); exact BK143.out)⟩; have n1_ : Aside0 (Below w.heap.size w wc) := ⟨by rw [← hq_]; exact (by repeat (first | (with_reducible first | exact HB.out | apply below_alloc | apply pw_below_drewN | apply below_drew1 | refine below_set ?_ GE143.out) | exact HB.out))⟩; clear BK143 HB hq_; have BK143 := n0_; have HB := n1_; clear n0_ n1_; (try have hcz38_0 : wc.cell? ⟨gb143, 0, none⟩ = some (.string ((rd_T36 l0 a1).f0)) := (blk_cell BK143.out 0).trans rfl); (try have hcz38_1 : wc.cell? ⟨gb143, 1, none⟩ = some (.int .i64 ((rd_T36 l0 a1).f1.f0)) := (blk_cell BK143.out 1).trans rfl); (try have hcz38_2 : wc.cell? ⟨gb143, 2, none⟩ = some (.int .i64 ((rd_T36 l0 a1).f1.f1)) := (blk_cell BK143.out 2).trans rfl); (try have hcz38_3 : wc.cell? ⟨gb143, 3, none⟩ = some (.int .i64 ((rd_T36 l0 a1).f1.f2)) := (blk_cell BK143.out 3).trans rfl); (try have hcz38_4 : wc.cell? ⟨gb143, 4, none⟩ = some (.int .i64 ((rd_T36 l0 a1).f1.f3)) := (blk_cell BK143.out 4).trans rfl); (try have hcz38_5 : wc.cell? ⟨gb143, 5, none⟩ = some (.int .i64 ((rd_T36 l0 a1).f1.f4)) := (blk_cell BK143.out 5).trans rfl); (try have hcz38_6 : wc.cell? ⟨gb143, 6, none⟩ = some (.string ((rd_T36 l0 a1).f2)) := (blk_cell BK143.out 6).trans rfl); (try have hfz38_0 := blk_frozen BK143.out 0); (try have hfz38_1 := blk_frozen BK143.out 1); (try have hfz38_2 := blk_frozen BK143.out 2); (try have hfz38_3 := blk_frozen BK143.out 3); (try have hfz38_4 := blk_frozen BK143.out 4); (try have hfz38_5 := blk_frozen BK143.out 5); (try have hfz38_6 := blk_frozen BK143.out 6)))) | (go_at_call 38; (with_reducible refine (camletref39_Put.calls kj20 ((rd_T36 l0 a1).f1.f0) ((rd_T36 l0 a1).f1.f1) ((rd_T36 l0 a1).f1.f2) ((rd_T36 l0 a1).f1.f3) (wrap64 ((wrap64 (2 * t151)) + 1)) t152 t153 _ A37.out).mono ?_); rintro e w39 ⟨rfl, hb⟩; have n0_ := Aside0.mk (blk_below (g := gb143) (o := .cells #[.string ((rd_T36 l0 a1).f0), .int .i64 ((rd_T36 l0 a1).f1.f0), .int .i64 ((rd_T36 l0 a1).f1.f1), .int .i64 ((rd_T36 l0 a1).f1.f2), .int .i64 ((rd_T36 l0 a1).f1.f3), .int .i64 (wrap64 ((wrap64 (2 * t151)) + 1)), .string ((rd_T36 l0 a1).f2)] 36 (0, 0)) (by (with_reducible repeat (first | refine blk_drewN ?_ _ | refine blk_drew ?_ | refine blk_alloc ?_ _)); refine blk_put (cs := #[.string ((rd_T36 l0 a1).f0), .int .i64 ((rd_T36 l0 a1).f1.f0), .int .i64 ((rd_T36 l0 a1).f1.f1), .int .i64 ((rd_T36 l0 a1).f1.f2), .int .i64 ((rd_T36 l0 a1).f1.f3), .int .i64 (wrap64 ((wrap64 (t151 - a1)) - 1)), .string ((rd_T36 l0 a1).f2)]) ?_ 5 _ rfl; (with_reducible repeat (first | refine blk_drewN ?_ _ | refine blk_drew ?_ | refine blk_alloc ?_ _)); refine blk_put (cs := #[.string ((rd_T36 l0 a1).f0), .int .i64 ((rd_T36 l0 a1).f1.f0), .int .i64 ((rd_T36 l0 a1).f1.f1), .int .i64 ((rd_T36 l0 a1).f1.f2), .int .i64 ((rd_T36 l0 a1).f1.f3), .int .i64 ((rd_T36 l0 a1).f1.f4), .string ((rd_T36 l0 a1).f2)]) ?_ 5 _ rfl; (with_reducible repeat (first | refine blk_drewN ?_ _ | refine blk_drew ?_ | refine blk_alloc ?_ _)); exact BK143.out) hb); have n1_ := Aside0.mk (below_step (by repeat (first | (with_reducible first | exact HB.out | apply below_alloc | apply pw_below_drewN | apply below_drew1 | refine below_set ?_ GE143.out) | exact HB.out)) hb); clear BK143; clear HB; have BK143 := n0_; have HB := n1_; clear n0_ n1_; (try clear hb); (try clear hb2); (try clear hk); (try clear hi)))
                          go_ret2
                          exact ⟨by first | rfl | (simp [errW_none, errW_some] <;> rfl) | (simp [*, errW_none, errW_some] <;> rfl), by repeat (first | (with_reducible first | exact HB.out | apply below_alloc | apply pw_below_drewN | apply below_drew1 | refine below_set ?_ GE143.out) | exact HB.out)⟩
                        · rw [if_neg c36] at H
                          have c36b0 : (((rd_T36 l0 a1).f1.f0) == 1) = false := beq_eq_false_iff_ne.mpr c36
                          have c36b1 : (((rd_T36 l0 a1).f1.f0) != 1) = true := bne_iff_ne.mpr c36
                          replace H := Option.bind_eq_some_iff.mp H
                          obtain ⟨⟨t154, t155⟩, A400, H⟩ := H
                          replace H : (some (t154, t155)) = some (r1, r2) := H
                          have A40 := Aside0.mk A400
                          clear A400
                          simp only [Option.some.injEq, Prod.mk.injEq] at H
                          obtain ⟨rfl, rfl⟩ := H
                          have hcz41_0 : wc.cell? ⟨gb143, 0, none⟩ = some (.string ((rd_T36 l0 a1).f0)) := (blk_cell BK143.out 0).trans rfl
                          have hcz41_1 : wc.cell? ⟨gb143, 1, none⟩ = some (.int .i64 ((rd_T36 l0 a1).f1.f0)) := (blk_cell BK143.out 1).trans rfl
                          have hcz41_2 : wc.cell? ⟨gb143, 2, none⟩ = some (.int .i64 ((rd_T36 l0 a1).f1.f1)) := (blk_cell BK143.out 2).trans rfl
                          have hcz41_3 : wc.cell? ⟨gb143, 3, none⟩ = some (.int .i64 ((rd_T36 l0 a1).f1.f2)) := (blk_cell BK143.out 3).trans rfl
                          have hcz41_4 : wc.cell? ⟨gb143, 4, none⟩ = some (.int .i64 ((rd_T36 l0 a1).f1.f3)) := (blk_cell BK143.out 4).trans rfl
                          have hcz41_5 : wc.cell? ⟨gb143, 5, none⟩ = some (.int .i64 ((rd_T36 l0 a1).f1.f4)) := (blk_cell BK143.out 5).trans rfl
                          have hcz41_6 : wc.cell? ⟨gb143, 6, none⟩ = some (.string ((rd_T36 l0 a1).f2)) := (blk_cell BK143.out 6).trans rfl
                          have hfz41_0 := blk_frozen BK143.out 0
                          have hfz41_1 := blk_frozen BK143.out 1
                          have hfz41_2 := blk_frozen BK143.out 2
                          have hfz41_3 := blk_frozen BK143.out 3
                          have hfz41_4 := blk_frozen BK143.out 4
                          have hfz41_5 := blk_frozen BK143.out 5
                          have hfz41_6 := blk_frozen BK143.out 6
                          go_wp2_with (first | (go_at_call 37; (with_reducible refine (camletref40_ways.calls ((rd_T36 l0 a1).f1.f0) true _ A31.out).mono ?_); rintro e w' ⟨rfl, ⟨nd, rfl⟩⟩; (try (rw [drewN_self wc]; generalize hq_ : World.drewN wc _ = wc; have n0_ : Aside0 (wc.heap[gb143]? = some (.cells #[.string ((rd_T36 l0 a1).f0), .int .i64 ((rd_T36 l0 a1).f1.f0), .int .i64 ((rd_T36 l0 a1).f1.f1), .int .i64 ((rd_T36 l0 a1).f1.f2), .int .i64 ((rd_T36 l0 a1).f1.f3), .int .i64 ((rd_T36 l0 a1).f1.f4), .string ((rd_T36 l0 a1).f2)] 36 (0, 0))) := ⟨by rw [← hq_]; exact (by (with_reducible repeat (first | refine blk_drewN ?_ _ | refine blk_drew ?_ | refine blk_alloc ?_ _)); exact BK143.out)⟩; have n1_ : Aside0 (Below w.heap.size w wc) := ⟨by rw [← hq_]; exact (by repeat (first | (with_reducible first | exact HB.out | apply below_alloc | apply pw_below_drewN | apply below_drew1 | refine below_set ?_ GE143.out) | exact HB.out))⟩; clear BK143 HB hq_; have BK143 := n0_; have HB := n1_; clear n0_ n1_; (try have hcz41_0 : wc.cell? ⟨gb143, 0, none⟩ = some (.string ((rd_T36 l0 a1).f0)) := (blk_cell BK143.out 0).trans rfl); (try have hcz41_1 : wc.cell? ⟨gb143, 1, none⟩ = some (.int .i64 ((rd_T36 l0 a1).f1.f0)) := (blk_cell BK143.out 1).trans rfl); (try have hcz41_2 : wc.cell? ⟨gb143, 2, none⟩ = some (.int .i64 ((rd_T36 l0 a1).f1.f1)) := (blk_cell BK143.out 2).trans rfl); (try have hcz41_3 : wc.cell? ⟨gb143, 3, none⟩ = some (.int .i64 ((rd_T36 l0 a1).f1.f2)) := (blk_cell BK143.out 3).trans rfl); (try have hcz41_4 : wc.cell? ⟨gb143, 4, none⟩ = some (.int .i64 ((rd_T36 l0 a1).f1.f3)) := (blk_cell BK143.out 4).trans rfl); (try have hcz41_5 : wc.cell? ⟨gb143, 5, none⟩ = some (.int .i64 ((rd_T36 l0 a1).f1.f4)) := (blk_cell BK143.out 5).trans rfl); (try have hcz41_6 : wc.cell? ⟨gb143, 6, none⟩ = some (.string ((rd_T36 l0 a1).f2)) := (blk_cell BK143.out 6).trans rfl); (try have hfz41_0 := blk_frozen BK143.out 0); (try have hfz41_1 := blk_frozen BK143.out 1); (try have hfz41_2 := blk_frozen BK143.out 2); (try have hfz41_3 := blk_frozen BK143.out 3); (try have hfz41_4 := blk_frozen BK143.out 4); (try have hfz41_5 := blk_frozen BK143.out 5); (try have hfz41_6 := blk_frozen BK143.out 6)))) | (go_at_call 14; (with_reducible refine (camletref40_Labels.calls kj20 _ _ l0 ((rd_T36 l0 a1).f2) t151 _ ?side1 ?side2 A33.out).mono ?_); (case side1 => repeat (first | exact (Kd.C_below HR0.out HB.out) | (with_reducible refine Kd.C_alloc ?_ _) | (with_reducible refine Kd.C_drewN ?_ _) | (with_reducible refine Kd.C_drew ?_))); (case side2 => exact HC0.out); rintro e w' ⟨rfl, ⟨nd, rfl⟩⟩; (try (rw [drewN_self wc]; generalize hq_ : World.drewN wc _ = wc; have n0_ : Aside0 (wc.heap[gb143]? = some (.cells #[.string ((rd_T36 l0 a1).f0), .int .i64 ((rd_T36 l0 a1).f1.f0), .int .i64 ((rd_T36 l0 a1).f1.f1), .int .i64 ((rd_T36 l0 a1).f1.f2), .int .i64 ((rd_T36 l0 a1).f1.f3), .int .i64 ((rd_T36 l0 a1).f1.f4), .string ((rd_T36 l0 a1).f2)] 36 (0, 0))) := ⟨by rw [← hq_]; exact (by (with_reducible repeat (first | refine blk_drewN ?_ _ | refine blk_drew ?_ | refine blk_alloc ?_ _)); exact BK143.out)⟩; have n1_ : Aside0 (Below w.heap.size w wc) := ⟨by rw [← hq_]; exact (by repeat (first | (with_reducible first | exact HB.out | apply below_alloc | apply pw_below_drewN | apply below_drew1 | refine below_set ?_ GE143.out) | exact HB.out))⟩; clear BK143 HB hq_; have BK143 := n0_; have HB := n1_; clear n0_ n1_; (try have hcz41_0 : wc.cell? ⟨gb143, 0, none⟩ = some (.string ((rd_T36 l0 a1).f0)) := (blk_cell BK143.out 0).trans rfl); (try have hcz41_1 : wc.cell? ⟨gb143, 1, none⟩ = some (.int .i64 ((rd_T36 l0 a1).f1.f0)) := (blk_cell BK143.out 1).trans rfl); (try have hcz41_2 : wc.cell? ⟨gb143, 2, none⟩ = some (.int .i64 ((rd_T36 l0 a1).f1.f1)) := (blk_cell BK143.out 2).trans rfl); (try have hcz41_3 : wc.cell? ⟨gb143, 3, none⟩ = some (.int .i64 ((rd_T36 l0 a1).f1.f2)) := (blk_cell BK143.out 3).trans rfl); (try have hcz41_4 : wc.cell? ⟨gb143, 4, none⟩ = some (.int .i64 ((rd_T36 l0 a1).f1.f3)) := (blk_cell BK143.out 4).trans rfl); (try have hcz41_5 : wc.cell? ⟨gb143, 5, none⟩ = some (.int .i64 ((rd_T36 l0 a1).f1.f4)) := (blk_cell BK143.out 5).trans rfl); (try have hcz41_6 : wc.cell? ⟨gb143, 6, none⟩ = some (.string ((rd_T36 l0 a1).f2)) := (blk_cell BK143.out 6).trans rfl); (try have hfz41_0 := blk_frozen BK143.out 0); (try have hfz41_1 := blk_frozen BK143.out 1); (try have hfz41_2 := blk_frozen BK143.out 2); (try have hfz41_3 := blk_frozen BK143.out 3); (try have hfz41_4 := blk_frozen BK143.out 4); (try have hfz41_5 := blk_frozen BK143.out 5); (try have hfz41_6 := blk_frozen BK143.out 6)))) | (go_at_call 38; (with_reducible refine (camletref39_Put.calls kj20 ((rd_T36 l0 a1).f1.f0) ((rd_T36 l0 a1).f1.f1) ((rd_T36 l0 a1).f1.f2) ((rd_T36 l0 a1).f1.f3) (wrap64 ((wrap64 (t151 - a1)) - 1)) t154 t155 _ A40.out).mono ?_); rintro e w42 ⟨rfl, hb⟩; have n0_ := Aside0.mk (blk_below (g := gb143) (o := .cells #[.string ((rd_T36 l0 a1).f0), .int .i64 ((rd_T36 l0 a1).f1.f0), .int .i64 ((rd_T36 l0 a1).f1.f1), .int .i64 ((rd_T36 l0 a1).f1.f2), .int .i64 ((rd_T36 l0 a1).f1.f3), .int .i64 (wrap64 ((wrap64 (t151 - a1)) - 1)), .string ((rd_T36 l0 a1).f2)] 36 (0, 0)) (by (with_reducible repeat (first | refine blk_drewN ?_ _ | refine blk_drew ?_ | refine blk_alloc ?_ _)); refine blk_put (cs := #[.string ((rd_T36 l0 a1).f0), .int .i64 ((rd_T36 l0 a1).f1.f0), .int .i64 ((rd_T36 l0 a1).f1.f1), .int .i64 ((rd_T36 l0 a1).f1.f2), .int .i64 ((rd_T36 l0 a1).f1.f3), .int .i64 ((rd_T36 l0 a1).f1.f4), .string ((rd_T36 l0 a1).f2)]) ?_ 5 _ rfl; (with_reducible repeat (first | refine blk_drewN ?_ _ | refine blk_drew ?_ | refine blk_alloc ?_ _)); exact BK143.out) hb); have n1_ := Aside0.mk (below_step (by repeat (first | (with_reducible first | exact HB.out | apply below_alloc | apply pw_below_drewN | apply below_drew1 | refine below_set ?_ GE143.out) | exact HB.out)) hb); clear BK143; clear HB; have BK143 := n0_; have HB := n1_; clear n0_ n1_; (try clear hb); (try clear hb2); (try clear hk); (try clear hi)))
                          go_ret2
                          exact ⟨by first | rfl | (simp [errW_none, errW_some] <;> rfl) | (simp [*, errW_none, errW_some] <;> rfl), by repeat (first | (with_reducible first | exact HB.out | apply below_alloc | apply pw_below_drewN | apply below_drew1 | refine below_set ?_ GE143.out) | exact HB.out)⟩
                    · replace c32 := Bool.eq_false_iff.mpr c32
                      subst c32
                      have H1 : (some (0, 1)) = some (r1, r2) := by rw [if_neg (show ¬ (false = true) by decide)] at H; exact H
                      clear H
                      have H := H1
                      clear H1
                      simp only [Option.some.injEq, Prod.mk.injEq] at H
                      obtain ⟨rfl, rfl⟩ := H
                      have hcz43_0 : wc.cell? ⟨gb143, 0, none⟩ = some (.string ((rd_T36 l0 a1).f0)) := (blk_cell BK143.out 0).trans rfl
                      have hcz43_1 : wc.cell? ⟨gb143, 1, none⟩ = some (.int .i64 ((rd_T36 l0 a1).f1.f0)) := (blk_cell BK143.out 1).trans rfl
                      have hcz43_2 : wc.cell? ⟨gb143, 2, none⟩ = some (.int .i64 ((rd_T36 l0 a1).f1.f1)) := (blk_cell BK143.out 2).trans rfl
                      have hcz43_3 : wc.cell? ⟨gb143, 3, none⟩ = some (.int .i64 ((rd_T36 l0 a1).f1.f2)) := (blk_cell BK143.out 3).trans rfl
                      have hcz43_4 : wc.cell? ⟨gb143, 4, none⟩ = some (.int .i64 ((rd_T36 l0 a1).f1.f3)) := (blk_cell BK143.out 4).trans rfl
                      have hcz43_5 : wc.cell? ⟨gb143, 5, none⟩ = some (.int .i64 ((rd_T36 l0 a1).f1.f4)) := (blk_cell BK143.out 5).trans rfl
                      have hcz43_6 : wc.cell? ⟨gb143, 6, none⟩ = some (.string ((rd_T36 l0 a1).f2)) := (blk_cell BK143.out 6).trans rfl
                      have hfz43_0 := blk_frozen BK143.out 0
                      have hfz43_1 := blk_frozen BK143.out 1
                      have hfz43_2 := blk_frozen BK143.out 2
                      have hfz43_3 := blk_frozen BK143.out 3
                      have hfz43_4 := blk_frozen BK143.out 4
                      have hfz43_5 := blk_frozen BK143.out 5
                      have hfz43_6 := blk_frozen BK143.out 6
                      go_wp2_with (first | (go_at_call 37; (with_reducible refine (camletref40_ways.calls ((rd_T36 l0 a1).f1.f0) false _ A31.out).mono ?_); rintro e w' ⟨rfl, ⟨nd, rfl⟩⟩))
                      go_ret2
                      exact ⟨by first | rfl | (simp [errW_none, errW_some] <;> rfl) | (simp [*, errW_none, errW_some] <;> rfl), by repeat (first | (with_reducible first | exact HB.out | apply below_alloc | apply pw_below_drewN | apply below_drew1 | refine below_set ?_ GE143.out) | exact HB.out)⟩
    · rw [if_neg c4] at H
      exact absurd H (by simp)
  · rw [if_neg c3] at H
    exact absurd H (by simp)

end Go.Proofs.YtlhkojnocconfaaDoor.Q
