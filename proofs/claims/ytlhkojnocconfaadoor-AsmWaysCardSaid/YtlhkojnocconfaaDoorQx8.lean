-- Made by a program of this session (wip/tools/pr.py) out of the translation, over the kit's printer. Not trusted: Lean checks it.
import Derived.Test.YtlhkojnocconfaaDoorQx0
import Derived.Test.YtlhkojnocconfaaDoorQx2
import Derived.Test.YtlhkojnocconfaaDoorHasmKnows
import Derived.Test.YtlhkojnocconfaaDoorHasmOf
import Derived.Test.YtlhkojnocconfaaDoorHisaPut
import Derived.Test.YtlhkojnocconfaaDoorLaid
namespace Go.Proofs.YtlhkojnocconfaaDoor.Q
open Go.RowKit Go.Proofs.YtlhkojnocconfaaDoorW.PrintWords Go.Proofs.YtlhkojnocconfaaDoorW.PrintLast Go.Proofs.YtlhkojnocconfaaDoorW.PrintMore
attribute [local go_sem] max2_int min2_int max_two min_two max_three min_three max_four min_four   -- for this text's walks alone
set_option linter.unusedVariables false
set_option linter.unusedSimpArgs false

/-! ### camletlaw40_AsmWays: function 6 -/
mutual
def camletlaw40_AsmWays.l0 : Nat → List (S36) → List Int → List (S36) → Int → Int → Option (Bool)
  | 0, _, _, _, _, _ => none
  | k + 1, x0, x3, x35, x36, x37 => if x37 < x36 then (if 0 ≤ x37 then (if x37 < (x35.length : Int) then (if ((rd_T36 x35 x37).f0).toList = ([] : List UInt8) then (camletlaw40_AsmWays.j1 k x0 x3 x37 x35 x36 x37 false ((rd_T36 x35 x37).f0) ((rd_T36 x35 x37).f1.f0) ((rd_T36 x35 x37).f1.f1) ((rd_T36 x35 x37).f1.f2) ((rd_T36 x35 x37).f1.f3) ((rd_T36 x35 x37).f1.f4) ((rd_T36 x35 x37).f2) ((rd_T36 x35 x37).f1.f0) ((rd_T36 x35 x37).f1.f1) ((rd_T36 x35 x37).f1.f2) ((rd_T36 x35 x37).f1.f3) ((rd_T36 x35 x37).f1.f4)) else ((asm_Labels.f k x0 ((rd_T36 x35 x37).f0)).bind fun t206 => (camletlaw40_AsmWays.j1 k x0 x3 x37 x35 x36 x37 (t206 != x37) ((rd_T36 x35 x37).f0) ((rd_T36 x35 x37).f1.f0) ((rd_T36 x35 x37).f1.f1) ((rd_T36 x35 x37).f1.f2) ((rd_T36 x35 x37).f1.f3) ((rd_T36 x35 x37).f1.f4) ((rd_T36 x35 x37).f2) ((rd_T36 x35 x37).f1.f0) ((rd_T36 x35 x37).f1.f1) ((rd_T36 x35 x37).f1.f2) ((rd_T36 x35 x37).f1.f3) ((rd_T36 x35 x37).f1.f4)))) else (none)) else (none)) else ((camletlaw40_knows.f k).bind fun t202 => (some t202))
def camletlaw40_AsmWays.j1 : Nat → List (S36) → List Int → Int → List (S36) → Int → Int → Bool → ByteArray → Int → Int → Int → Int → Int → ByteArray → Int → Int → Int → Int → Int → Option (Bool)
  | 0, _, _, _, _, _, _, _, _, _, _, _, _, _, _, _, _, _, _, _ => none
  | k + 1, x0, x3, x6, x35, x36, x37, x54, x205000, x205001, x205002, x205003, x205004, x205005, x205006, x206000, x206001, x206002, x206003, x206004 => if x54 = true then (some false) else ((asm_Labels.f k x0 x205006).bind fun t207 => (if x205006.toList = ([] : List UInt8) then ((isa_Put.f x206000 x206001 x206002 x206003 x206004).bind fun bt208 => (if bt208.2 = 0 then (if 0 ≤ x6 then (if x6 < (x3.length : Int) then (if bt208.1 = (rd x3 x6) then (camletlaw40_AsmWays.l0 k x0 x3 x35 x36 (wrap64 (x37 + 1))) else (some false)) else (none)) else (none)) else (some false))) else (if x206000 = 1 then (camletlaw40_AsmWays.j2 k x0 x3 x6 t207 x35 x36 x37 x206000 x206001 x206002 x206003 (wrap64 ((wrap64 (2 * t207)) + 1))) else (camletlaw40_AsmWays.j2 k x0 x3 x6 t207 x35 x36 x37 x206000 x206001 x206002 x206003 (wrap64 ((wrap64 (t207 - x6)) - 1))))))
def camletlaw40_AsmWays.j2 : Nat → List (S36) → List Int → Int → Int → List (S36) → Int → Int → Int → Int → Int → Int → Int → Option (Bool)
  | 0, _, _, _, _, _, _, _, _, _, _, _, _ => none
  | k + 1, x0, x3, x6, x9, x35, x36, x37, x206000, x206001, x206002, x206003, x206004 => if x9 < 0 then (some false) else ((isa_Put.f x206000 x206001 x206002 x206003 x206004).bind fun bt211 => (if bt211.2 = 0 then (if 0 ≤ x6 then (if x6 < (x3.length : Int) then (if bt211.1 = (rd x3 x6) then (camletlaw40_AsmWays.l0 k x0 x3 x35 x36 (wrap64 (x37 + 1))) else (some false)) else (none)) else (none)) else (some false)))
end
def camletlaw40_AsmWays.f (k : Nat) (l0 : List (S36)) : Option (Bool) := (camletlaw40_few.f k l0).bind fun t194 => (if t194 = true then ((asm_Of.f l0).bind fun bt196 => (if bt196.2.2 = 0 then (if (bt196.1.length : Int) = (l0.length : Int) then (camletlaw40_AsmWays.l0 k l0 bt196.1 l0 (l0.length : Int) 0) else (some false)) else (if (bt196.1.length : Int) = 0 then ((camletlaw40_knows.f k).bind fun t201 => (some t201)) else (some false)))) else ((camletlaw40_knows.f k).bind fun t195 => (some t195)))
theorem camletlaw40_AsmWays.mono_l : ∀ k, (∀ y0 y1 y2 y3 y4, LeO (camletlaw40_AsmWays.l0 k y0 y1 y2 y3 y4) (camletlaw40_AsmWays.l0 (k + 1) y0 y1 y2 y3 y4)) ∧ (∀ y0 y1 y2 y3 y4 y5 y6 y7 y8 y9 y10 y11 y12 y13 y14 y15 y16 y17 y18, LeO (camletlaw40_AsmWays.j1 k y0 y1 y2 y3 y4 y5 y6 y7 y8 y9 y10 y11 y12 y13 y14 y15 y16 y17 y18) (camletlaw40_AsmWays.j1 (k + 1) y0 y1 y2 y3 y4 y5 y6 y7 y8 y9 y10 y11 y12 y13 y14 y15 y16 y17 y18)) ∧ (∀ y0 y1 y2 y3 y4 y5 y6 y7 y8 y9 y10 y11, LeO (camletlaw40_AsmWays.j2 k y0 y1 y2 y3 y4 y5 y6 y7 y8 y9 y10 y11) (camletlaw40_AsmWays.j2 (k + 1) y0 y1 y2 y3 y4 y5 y6 y7 y8 y9 y10 y11))
  | 0 => ⟨fun _ _ _ _ _ r h => by simp [camletlaw40_AsmWays.l0] at h, fun _ _ _ _ _ _ _ _ _ _ _ _ _ _ _ _ _ _ _ r h => by simp [camletlaw40_AsmWays.j1] at h, fun _ _ _ _ _ _ _ _ _ _ _ _ r h => by simp [camletlaw40_AsmWays.j2] at h⟩
  | k + 1 => by
    obtain ⟨ih0, ih1, ih2⟩ := camletlaw40_AsmWays.mono_l k
    refine ⟨?_, ?_, ?_⟩
    · intro y0 y1 y2 y3 y4
      unfold camletlaw40_AsmWays.l0
      repeat' first
      | (with_reducible exact ih0 _ _ _ _ _)
      | (with_reducible exact ih1 _ _ _ _ _ _ _ _ _ _ _ _ _ _ _ _ _ _ _)
      | (with_reducible exact ih2 _ _ _ _ _ _ _ _ _ _ _ _)
      | (with_reducible exact asm_Labels.mono _ _ _)
      | (with_reducible exact camletlaw40_few.mono _ _)
      | (with_reducible exact camletlaw40_knows.mono _)
      | (with_reducible exact LeO.refl _)
      | (with_reducible exact LeO.none _)
      | (with_reducible refine LeO.ite ?_ ?_)
      | (with_reducible refine LeO.bind ?_ (fun _ => ?_))
      | exact ih0 _ _ _ _ _
      | exact ih1 _ _ _ _ _ _ _ _ _ _ _ _ _ _ _ _ _ _ _
      | exact ih2 _ _ _ _ _ _ _ _ _ _ _ _
      | exact asm_Labels.mono _ _ _
      | exact camletlaw40_few.mono _ _
      | exact camletlaw40_knows.mono _
      | exact LeO.none _
      | refine LeO.ite ?_ ?_
      | refine LeO.bind ?_ (fun _ => ?_)
    · intro y0 y1 y2 y3 y4 y5 y6 y7 y8 y9 y10 y11 y12 y13 y14 y15 y16 y17 y18
      unfold camletlaw40_AsmWays.j1
      repeat' first
      | (with_reducible exact ih0 _ _ _ _ _)
      | (with_reducible exact ih1 _ _ _ _ _ _ _ _ _ _ _ _ _ _ _ _ _ _ _)
      | (with_reducible exact ih2 _ _ _ _ _ _ _ _ _ _ _ _)
      | (with_reducible exact asm_Labels.mono _ _ _)
      | (with_reducible exact camletlaw40_few.mono _ _)
      | (with_reducible exact camletlaw40_knows.mono _)
      | (with_reducible exact LeO.refl _)
      | (with_reducible exact LeO.none _)
      | (with_reducible refine LeO.ite ?_ ?_)
      | (with_reducible refine LeO.bind ?_ (fun _ => ?_))
      | exact ih0 _ _ _ _ _
      | exact ih1 _ _ _ _ _ _ _ _ _ _ _ _ _ _ _ _ _ _ _
      | exact ih2 _ _ _ _ _ _ _ _ _ _ _ _
      | exact asm_Labels.mono _ _ _
      | exact camletlaw40_few.mono _ _
      | exact camletlaw40_knows.mono _
      | exact LeO.none _
      | refine LeO.ite ?_ ?_
      | refine LeO.bind ?_ (fun _ => ?_)
    · intro y0 y1 y2 y3 y4 y5 y6 y7 y8 y9 y10 y11
      unfold camletlaw40_AsmWays.j2
      repeat' first
      | (with_reducible exact ih0 _ _ _ _ _)
      | (with_reducible exact ih1 _ _ _ _ _ _ _ _ _ _ _ _ _ _ _ _ _ _ _)
      | (with_reducible exact ih2 _ _ _ _ _ _ _ _ _ _ _ _)
      | (with_reducible exact asm_Labels.mono _ _ _)
      | (with_reducible exact camletlaw40_few.mono _ _)
      | (with_reducible exact camletlaw40_knows.mono _)
      | (with_reducible exact LeO.refl _)
      | (with_reducible exact LeO.none _)
      | (with_reducible refine LeO.ite ?_ ?_)
      | (with_reducible refine LeO.bind ?_ (fun _ => ?_))
      | exact ih0 _ _ _ _ _
      | exact ih1 _ _ _ _ _ _ _ _ _ _ _ _ _ _ _ _ _ _ _
      | exact ih2 _ _ _ _ _ _ _ _ _ _ _ _
      | exact asm_Labels.mono _ _ _
      | exact camletlaw40_few.mono _ _
      | exact camletlaw40_knows.mono _
      | exact LeO.none _
      | refine LeO.ite ?_ ?_
      | refine LeO.bind ?_ (fun _ => ?_)
theorem camletlaw40_AsmWays.mono : ∀ a0 k, LeO (camletlaw40_AsmWays.f k a0) (camletlaw40_AsmWays.f (k + 1) a0) := by
  intro a0 k
  obtain ⟨ih0, ih1, ih2⟩ := camletlaw40_AsmWays.mono_l k
  unfold camletlaw40_AsmWays.f
  repeat' first
      | (with_reducible exact ih0 _ _ _ _ _)
      | (with_reducible exact ih1 _ _ _ _ _ _ _ _ _ _ _ _ _ _ _ _ _ _ _)
      | (with_reducible exact ih2 _ _ _ _ _ _ _ _ _ _ _ _)
      | (with_reducible exact asm_Labels.mono _ _ _)
      | (with_reducible exact camletlaw40_few.mono _ _)
      | (with_reducible exact camletlaw40_knows.mono _)
      | (with_reducible exact LeO.refl _)
      | (with_reducible exact LeO.none _)
      | (with_reducible refine LeO.ite ?_ ?_)
      | (with_reducible refine LeO.bind ?_ (fun _ => ?_))
      | exact ih0 _ _ _ _ _
      | exact ih1 _ _ _ _ _ _ _ _ _ _ _ _ _ _ _ _ _ _ _
      | exact ih2 _ _ _ _ _ _ _ _ _ _ _ _
      | exact asm_Labels.mono _ _ _
      | exact camletlaw40_few.mono _ _
      | exact camletlaw40_knows.mono _
      | exact LeO.none _
      | refine LeO.ite ?_ ?_
      | refine LeO.bind ?_ (fun _ => ?_)
set_option maxHeartbeats 8000000 in
set_option maxRecDepth 100000 in
theorem camletlaw40_AsmWays.calls (k : Nat) (A0 : Option Addr) (c0 : Nat) (l0 : List (S36)) (r : Bool) (w : World) (hr0 : Kd.C k36 w A0 l0.length l0) (hc0 : l0.length ≤ c0) (hG : Laid w) (h : camletlaw40_AsmWays.f k l0 = some r) :
    Calls Tryd.prog 6 #[.slice A0 l0.length c0] w fun e w' => e = .returned (.bool r) ∧ Below w.heap.size w w' := by
  have hu36 := Tryd.underlying36
  have hu34 := Tryd.underlying34
  have HG := Aside0.mk hG
  clear hG
  have HR0 := Aside0.mk hr0
  have HC0 := Aside0.mk hc0
  clear hr0 hc0
  have HB := Aside0.mk (Below.refl w.heap.size w)
  have H : ((camletlaw40_few.f k l0).bind fun t194 => (if t194 = true then ((asm_Of.f l0).bind fun bt196 => (if bt196.2.2 = 0 then (if (bt196.1.length : Int) = (l0.length : Int) then (camletlaw40_AsmWays.l0 k l0 bt196.1 l0 (l0.length : Int) 0) else (some false)) else (if (bt196.1.length : Int) = 0 then ((camletlaw40_knows.f k).bind fun t201 => (some t201)) else (some false)))) else ((camletlaw40_knows.f k).bind fun t195 => (some t195)))) = some r := h
  clear h
  replace H := Option.bind_eq_some_iff.mp H
  obtain ⟨t194, A20, H⟩ := H
  replace H : (if t194 = true then ((asm_Of.f l0).bind fun bt196 => (if bt196.2.2 = 0 then (if (bt196.1.length : Int) = (l0.length : Int) then (camletlaw40_AsmWays.l0 k l0 bt196.1 l0 (l0.length : Int) 0) else (some false)) else (if (bt196.1.length : Int) = 0 then ((camletlaw40_knows.f k).bind fun t201 => (some t201)) else (some false)))) else ((camletlaw40_knows.f k).bind fun t195 => (some t195))) = some r := H
  have A2 := Aside0.mk A20
  clear A20
  by_cases c3 : t194 = true
  · subst c3
    have H1 : ((asm_Of.f l0).bind fun bt196 => (if bt196.2.2 = 0 then (if (bt196.1.length : Int) = (l0.length : Int) then (camletlaw40_AsmWays.l0 k l0 bt196.1 l0 (l0.length : Int) 0) else (some false)) else (if (bt196.1.length : Int) = 0 then ((camletlaw40_knows.f k).bind fun t201 => (some t201)) else (some false)))) = some r := by rw [if_pos rfl] at H; exact H
    clear H
    have H := H1
    clear H1
    replace H := Option.bind_eq_some_iff.mp H
    obtain ⟨⟨t196, t197, t198⟩, A40, H⟩ := H
    replace H : (if t198 = 0 then (if (t196.length : Int) = (l0.length : Int) then (camletlaw40_AsmWays.l0 k l0 t196 l0 (l0.length : Int) 0) else (some false)) else (if (t196.length : Int) = 0 then ((camletlaw40_knows.f k).bind fun t201 => (some t201)) else (some false))) = some r := H
    have A4 := Aside0.mk A40
    clear A40
    by_cases c5 : t198 = 0
    · rw [if_pos c5] at H
      have c5b0 : (t198 == 0) = true := beq_iff_eq.mpr c5
      have c5b1 : (t198 != 0) = false := bne_eq_false_iff_eq.mpr c5
      clear c5
      by_cases c6 : (t196.length : Int) = (l0.length : Int)
      · rw [if_pos c6] at H
        have c6b0 : ((t196.length : Int) == (l0.length : Int)) = true := beq_iff_eq.mpr c6
        have c6b1 : ((t196.length : Int) != (l0.length : Int)) = false := bne_eq_false_iff_eq.mpr c6
        have c6b2 : (t196.length == l0.length) = true := by first | simpa using c6 | (simp at c6 ⊢; omega)
        clear c6
        have H' := Aside0.mk H
        clear H
        go_enter Tryd.func6, Tryd.ntmps6
        go_wp2_with (first | (go_at_call 8; (with_reducible refine (camletlaw40_few.calls k _ _ l0 true _ ?side1 ?side2 A2.out).mono ?_); (case side1 => repeat (first | exact HR0.out | (with_reducible refine Kd.C_alloc ?_ _) | (with_reducible refine Kd.C_drewN ?_ _) | (with_reducible refine Kd.C_drew ?_))); (case side2 => exact HC0.out); rintro e w7 ⟨rfl, hb⟩; have n0_ := Aside0.mk (below_step (by repeat (first | (with_reducible first | exact HB.out | apply below_alloc | apply pw_below_drewN | apply below_drew1) | exact HB.out)) hb); clear HB; have HB := n0_; clear n0_; (try clear hb); (try clear hb2); (try clear hk); (try clear hi)) | (go_at_call 10; (with_reducible refine (asm_Of.calls _ _ l0 t196 t197 t198 _ ?side1 ?side2 A4.out).mono ?_); (case side1 => repeat (first | exact (Kd.C_below HR0.out HB.out) | (with_reducible refine Kd.C_alloc ?_ _) | (with_reducible refine Kd.C_drewN ?_ _) | (with_reducible refine Kd.C_drew ?_))); (case side2 => exact HC0.out); rintro e w8 ⟨v199, rfl, ho0, hb⟩; have n0_ := Aside0.mk (Kd.R_lower ho0 (below_size (by repeat (first | (with_reducible first | exact HB.out | apply below_alloc | apply pw_below_drewN | apply below_drew1) | exact HB.out)))); have n1_ := Aside0.mk (below_step (by repeat (first | (with_reducible first | exact HB.out | apply below_alloc | apply pw_below_drewN | apply below_drew1) | exact HB.out)) hb); clear HB; have HO200 := n0_; have HB := n1_; clear n0_ n1_; (try clear hb); (try clear hb2); (try clear hk); (try clear hi); (try clear ho0); obtain ⟨Ao9, co9, eo9⟩ := Kd.R_slice HO200.out; subst eo9))
        go_loopg [37] k (fun kq v37 w' => ∃ (x37_1 : Int), v37 = .int .i64 x37_1 ∧ Aside0 (camletlaw40_AsmWays.l0 kq l0 t196 l0 (l0.length : Int) x37_1 = some r) ∧ Aside0 (kq ≤ k) ∧ Aside0 (Kd.R (Kd.int .u32) 37 w' w.heap.size (fun _ => True) (.slice Ao9 t196.length co9) t196) ∧ Aside0 (Below w.heap.size w w'))
        case atStart => exact ⟨(0), (by first | rfl | (simp; done) | (simp [*]; done) | (simp; generalize ByteArray.toList _ = z_; cases z_ <;> first | rfl | simp)), H', ⟨Nat.le_refl _⟩, ⟨by (with_reducible repeat (first | apply Kd.R_alloc | apply Kd.R_drewN | apply Kd.R_drew)); exact HO200.out⟩, ⟨by repeat (first | (with_reducible first | exact HB.out | apply below_alloc | apply pw_below_drewN | apply below_drew1) | exact HB.out)⟩⟩
        case round =>
          clear H'
          try clear p2
          try clear c3
          try clear c5
          try clear c5b0
          try clear c5b1
          try clear c6
          try clear c6b0
          try clear c6b1
          try clear c6b2
          obtain ⟨x37_1, rfl, HA, HK1, HO_3, HB⟩ := hrel
          cases gk with
          | zero => exact absurd HA.out (by simp [camletlaw40_AsmWays.l0])
          | succ k1 =>
            have H := HA.out
            clear HA
            simp only [camletlaw40_AsmWays.l0] at H
            by_cases c10 : x37_1 < (l0.length : Int)
            · rw [if_pos c10] at H
              have c10b0 : decide (x37_1 < (l0.length : Int)) = true := decide_eq_true c10
              clear c10
              by_cases c11 : 0 ≤ x37_1
              · rw [if_pos c11] at H
                have c11b0 : decide (0 ≤ x37_1) = true := decide_eq_true c11
                clear c11
                by_cases c12 : x37_1 < (l0.length : Int)
                · rw [if_pos c12] at H
                  have c12b0 : decide (x37_1 < (l0.length : Int)) = true := decide_eq_true c12
                  clear c12
                  have HC13 := Aside0.mk H
                  clear H
                  have p203 : 0 ≤ (x37_1 : Int) := of_decide_eq_true (by first | (with_reducible assumption) | assumption)
                  have q203 : x37_1 < (l0.length : Int) := of_decide_eq_true (by first | (with_reducible assumption) | assumption)
                  obtain ⟨ad203, e203, hx203_0, hx203_1, hx203_2, hx203_3, hx203_4, hx203_5, hx203_6⟩ := at_T36 HR0.out x37_1 p203 q203
                  cases e203
                  replace hx203_0 := (HB.out.cell (World.block_lt_of_cell? w _ hx203_0)).trans hx203_0
                  replace hx203_1 := (HB.out.cell (World.block_lt_of_cell? w _ hx203_1)).trans hx203_1
                  replace hx203_2 := (HB.out.cell (World.block_lt_of_cell? w _ hx203_2)).trans hx203_2
                  replace hx203_3 := (HB.out.cell (World.block_lt_of_cell? w _ hx203_3)).trans hx203_3
                  replace hx203_4 := (HB.out.cell (World.block_lt_of_cell? w _ hx203_4)).trans hx203_4
                  replace hx203_5 := (HB.out.cell (World.block_lt_of_cell? w _ hx203_5)).trans hx203_5
                  replace hx203_6 := (HB.out.cell (World.block_lt_of_cell? w _ hx203_6)).trans hx203_6
                  replace p203 := eq_true p203
                  replace q203 := eq_true q203
                  go_upto_region 12 with (first | ((with_reducible refine gate_dst (N := 7) rfl ?_); refine box_event ?hg (N := 7) ?hd (cs := #[.string (⟨#[]⟩ : ByteArray), .int .i64 0, .int .i64 0, .int .i64 0, .int .i64 0, .int .i64 0, .string (⟨#[]⟩ : ByteArray)]) (t := 36) ?hr ?_; (case hd => rfl); (case hg => rfl); (case hr => first | (go_simp; done) | (go_simp; rfl)); intro gb204 hg w14 hbox hb; have n0_ := Aside0.mk (Kd.R_below (by (with_reducible repeat (first | apply Kd.R_alloc | apply Kd.R_drewN | apply Kd.R_drew)); exact HO_3.out) hb); have n1_ := Aside0.mk (below_step (by repeat (first | (with_reducible first | exact HB.out | apply below_alloc | apply pw_below_drewN | apply below_drew1) | exact HB.out)) hb); have n2_ := Aside0.mk (hbox); have n3_ := Aside0.mk ((by rw [hg]; exact (below_size (by repeat (first | (with_reducible first | exact HB.out | apply below_alloc | apply pw_below_drewN | apply below_drew1) | exact HB.out))) : w.heap.size ≤ gb204)); have n4_ := Aside0.mk ((by rw [hg]; exact (below_size (by repeat (first | (with_reducible first | exact HB.out | apply below_alloc | apply pw_below_drewN | apply below_drew1) | exact HB.out))) : w.heap.size ≤ gb204)); clear HO_3; clear HB; have HO_3 := n0_; have HB := n1_; have BK204 := n2_; have GW204 := n3_; have GE204 := n4_; clear n0_ n1_ n2_ n3_ n4_; clear hb hbox hg; have hcz15_0 : w14.cell? ⟨gb204, 0, none⟩ = some (.string (⟨#[]⟩ : ByteArray)) := (blk_cell BK204.out 0).trans rfl; have hcz15_1 : w14.cell? ⟨gb204, 1, none⟩ = some (.int .i64 0) := (blk_cell BK204.out 1).trans rfl; have hcz15_2 : w14.cell? ⟨gb204, 2, none⟩ = some (.int .i64 0) := (blk_cell BK204.out 2).trans rfl; have hcz15_3 : w14.cell? ⟨gb204, 3, none⟩ = some (.int .i64 0) := (blk_cell BK204.out 3).trans rfl; have hcz15_4 : w14.cell? ⟨gb204, 4, none⟩ = some (.int .i64 0) := (blk_cell BK204.out 4).trans rfl; have hcz15_5 : w14.cell? ⟨gb204, 5, none⟩ = some (.int .i64 0) := (blk_cell BK204.out 5).trans rfl; have hcz15_6 : w14.cell? ⟨gb204, 6, none⟩ = some (.string (⟨#[]⟩ : ByteArray)) := (blk_cell BK204.out 6).trans rfl; have hfz15_0 := blk_frozen BK204.out 0; have hfz15_1 := blk_frozen BK204.out 1; have hfz15_2 := blk_frozen BK204.out 2; have hfz15_3 := blk_frozen BK204.out 3; have hfz15_4 := blk_frozen BK204.out 4; have hfz15_5 := blk_frozen BK204.out 5; have hfz15_6 := blk_frozen BK204.out 6) | ((with_reducible refine gate_dst (N := 8) rfl ?_); refine box_event ?hg (N := 8) ?hd (cs := #[.int .i64 0, .int .i64 0, .int .i64 0, .int .i64 0, .int .i64 0]) (t := 34) ?hr ?_; (case hd => rfl); (case hg => rfl); (case hr => first | (go_simp; done) | (go_simp; rfl)); intro gb205 hg w16 hbox hb; have n0_ := Aside0.mk (Kd.R_below (by (with_reducible repeat (first | apply Kd.R_alloc | apply Kd.R_drewN | apply Kd.R_drew)); exact (Kd.R_mono (Kd.R_far (p := ⟨gb204, 6, none⟩) (Kd.R_far (p := ⟨gb204, 5, none⟩) (Kd.R_far (p := ⟨gb204, 4, none⟩) (Kd.R_far (p := ⟨gb204, 3, none⟩) (Kd.R_far (p := ⟨gb204, 2, none⟩) (Kd.R_far (p := ⟨gb204, 1, none⟩) (Kd.R_far (p := ⟨gb204, 0, none⟩) (Kd.R_types HO_3.out BK204.out (by decide)) (fun _ hk => hk.2) (.string ((rd_T36 l0 x37_1).f0))) (fun _ hk => hk.2) (.int .i64 ((rd_T36 l0 x37_1).f1.f0))) (fun _ hk => hk.2) (.int .i64 ((rd_T36 l0 x37_1).f1.f1))) (fun _ hk => hk.2) (.int .i64 ((rd_T36 l0 x37_1).f1.f2))) (fun _ hk => hk.2) (.int .i64 ((rd_T36 l0 x37_1).f1.f3))) (fun _ hk => hk.2) (.int .i64 ((rd_T36 l0 x37_1).f1.f4))) (fun _ hk => hk.2) (.string ((rd_T36 l0 x37_1).f2))) (fun _ h_ => h_.1))) hb); have n1_ := Aside0.mk (blk_below (g := gb204) (o := .cells #[.string ((rd_T36 l0 x37_1).f0), .int .i64 ((rd_T36 l0 x37_1).f1.f0), .int .i64 ((rd_T36 l0 x37_1).f1.f1), .int .i64 ((rd_T36 l0 x37_1).f1.f2), .int .i64 ((rd_T36 l0 x37_1).f1.f3), .int .i64 ((rd_T36 l0 x37_1).f1.f4), .string ((rd_T36 l0 x37_1).f2)] 36 (0, 0)) (by (with_reducible repeat (first | refine blk_drewN ?_ _ | refine blk_drew ?_ | refine blk_alloc ?_ _)); refine blk_put (cs := #[.string ((rd_T36 l0 x37_1).f0), .int .i64 ((rd_T36 l0 x37_1).f1.f0), .int .i64 ((rd_T36 l0 x37_1).f1.f1), .int .i64 ((rd_T36 l0 x37_1).f1.f2), .int .i64 ((rd_T36 l0 x37_1).f1.f3), .int .i64 ((rd_T36 l0 x37_1).f1.f4), .string (⟨#[]⟩ : ByteArray)]) ?_ 6 _ rfl; (with_reducible repeat (first | refine blk_drewN ?_ _ | refine blk_drew ?_ | refine blk_alloc ?_ _)); refine blk_put (cs := #[.string ((rd_T36 l0 x37_1).f0), .int .i64 ((rd_T36 l0 x37_1).f1.f0), .int .i64 ((rd_T36 l0 x37_1).f1.f1), .int .i64 ((rd_T36 l0 x37_1).f1.f2), .int .i64 ((rd_T36 l0 x37_1).f1.f3), .int .i64 0, .string (⟨#[]⟩ : ByteArray)]) ?_ 5 _ rfl; (with_reducible repeat (first | refine blk_drewN ?_ _ | refine blk_drew ?_ | refine blk_alloc ?_ _)); refine blk_put (cs := #[.string ((rd_T36 l0 x37_1).f0), .int .i64 ((rd_T36 l0 x37_1).f1.f0), .int .i64 ((rd_T36 l0 x37_1).f1.f1), .int .i64 ((rd_T36 l0 x37_1).f1.f2), .int .i64 0, .int .i64 0, .string (⟨#[]⟩ : ByteArray)]) ?_ 4 _ rfl; (with_reducible repeat (first | refine blk_drewN ?_ _ | refine blk_drew ?_ | refine blk_alloc ?_ _)); refine blk_put (cs := #[.string ((rd_T36 l0 x37_1).f0), .int .i64 ((rd_T36 l0 x37_1).f1.f0), .int .i64 ((rd_T36 l0 x37_1).f1.f1), .int .i64 0, .int .i64 0, .int .i64 0, .string (⟨#[]⟩ : ByteArray)]) ?_ 3 _ rfl; (with_reducible repeat (first | refine blk_drewN ?_ _ | refine blk_drew ?_ | refine blk_alloc ?_ _)); refine blk_put (cs := #[.string ((rd_T36 l0 x37_1).f0), .int .i64 ((rd_T36 l0 x37_1).f1.f0), .int .i64 0, .int .i64 0, .int .i64 0, .int .i64 0, .string (⟨#[]⟩ : ByteArray)]) ?_ 2 _ rfl; (with_reducible repeat (first | refine blk_drewN ?_ _ | refine blk_drew ?_ | refine blk_alloc ?_ _)); refine blk_put (cs := #[.string ((rd_T36 l0 x37_1).f0), .int .i64 0, .int .i64 0, .int .i64 0, .int .i64 0, .int .i64 0, .string (⟨#[]⟩ : ByteArray)]) ?_ 1 _ rfl; (with_reducible repeat (first | refine blk_drewN ?_ _ | refine blk_drew ?_ | refine blk_alloc ?_ _)); refine blk_put (cs := #[.string (⟨#[]⟩ : ByteArray), .int .i64 0, .int .i64 0, .int .i64 0, .int .i64 0, .int .i64 0, .string (⟨#[]⟩ : ByteArray)]) ?_ 0 _ rfl; (with_reducible repeat (first | refine blk_drewN ?_ _ | refine blk_drew ?_ | refine blk_alloc ?_ _)); exact BK204.out) hb); have n2_ := Aside0.mk (below_step (by repeat (first | (with_reducible first | exact HB.out | apply below_alloc | apply pw_below_drewN | apply below_drew1 | refine below_set ?_ GE204.out) | exact HB.out)) hb); have n3_ := Aside0.mk (hbox); have n4_ := Aside0.mk ((by rw [hg]; exact (below_size (by repeat (first | (with_reducible first | exact HB.out | apply below_alloc | apply pw_below_drewN | apply below_drew1 | refine below_set ?_ GE204.out) | exact HB.out))) : w.heap.size ≤ gb205)); have n5_ := Aside0.mk ((by rw [hg]; exact (below_size (by repeat (first | (with_reducible first | exact HB.out | apply below_alloc | apply pw_below_drewN | apply below_drew1 | refine below_set ?_ GE204.out) | exact HB.out))) : w.heap.size ≤ gb205)); have n6_ := Aside0.mk ((by rw [hg]; exact Nat.ne_of_lt (blk_lt (g := gb204) (o := .cells #[.string ((rd_T36 l0 x37_1).f0), .int .i64 ((rd_T36 l0 x37_1).f1.f0), .int .i64 ((rd_T36 l0 x37_1).f1.f1), .int .i64 ((rd_T36 l0 x37_1).f1.f2), .int .i64 ((rd_T36 l0 x37_1).f1.f3), .int .i64 ((rd_T36 l0 x37_1).f1.f4), .string ((rd_T36 l0 x37_1).f2)] 36 (0, 0)) (by (with_reducible repeat (first | refine blk_drewN ?_ _ | refine blk_drew ?_ | refine blk_alloc ?_ _)); refine blk_put (cs := #[.string ((rd_T36 l0 x37_1).f0), .int .i64 ((rd_T36 l0 x37_1).f1.f0), .int .i64 ((rd_T36 l0 x37_1).f1.f1), .int .i64 ((rd_T36 l0 x37_1).f1.f2), .int .i64 ((rd_T36 l0 x37_1).f1.f3), .int .i64 ((rd_T36 l0 x37_1).f1.f4), .string (⟨#[]⟩ : ByteArray)]) ?_ 6 _ rfl; (with_reducible repeat (first | refine blk_drewN ?_ _ | refine blk_drew ?_ | refine blk_alloc ?_ _)); refine blk_put (cs := #[.string ((rd_T36 l0 x37_1).f0), .int .i64 ((rd_T36 l0 x37_1).f1.f0), .int .i64 ((rd_T36 l0 x37_1).f1.f1), .int .i64 ((rd_T36 l0 x37_1).f1.f2), .int .i64 ((rd_T36 l0 x37_1).f1.f3), .int .i64 0, .string (⟨#[]⟩ : ByteArray)]) ?_ 5 _ rfl; (with_reducible repeat (first | refine blk_drewN ?_ _ | refine blk_drew ?_ | refine blk_alloc ?_ _)); refine blk_put (cs := #[.string ((rd_T36 l0 x37_1).f0), .int .i64 ((rd_T36 l0 x37_1).f1.f0), .int .i64 ((rd_T36 l0 x37_1).f1.f1), .int .i64 ((rd_T36 l0 x37_1).f1.f2), .int .i64 0, .int .i64 0, .string (⟨#[]⟩ : ByteArray)]) ?_ 4 _ rfl; (with_reducible repeat (first | refine blk_drewN ?_ _ | refine blk_drew ?_ | refine blk_alloc ?_ _)); refine blk_put (cs := #[.string ((rd_T36 l0 x37_1).f0), .int .i64 ((rd_T36 l0 x37_1).f1.f0), .int .i64 ((rd_T36 l0 x37_1).f1.f1), .int .i64 0, .int .i64 0, .int .i64 0, .string (⟨#[]⟩ : ByteArray)]) ?_ 3 _ rfl; (with_reducible repeat (first | refine blk_drewN ?_ _ | refine blk_drew ?_ | refine blk_alloc ?_ _)); refine blk_put (cs := #[.string ((rd_T36 l0 x37_1).f0), .int .i64 ((rd_T36 l0 x37_1).f1.f0), .int .i64 0, .int .i64 0, .int .i64 0, .int .i64 0, .string (⟨#[]⟩ : ByteArray)]) ?_ 2 _ rfl; (with_reducible repeat (first | refine blk_drewN ?_ _ | refine blk_drew ?_ | refine blk_alloc ?_ _)); refine blk_put (cs := #[.string ((rd_T36 l0 x37_1).f0), .int .i64 0, .int .i64 0, .int .i64 0, .int .i64 0, .int .i64 0, .string (⟨#[]⟩ : ByteArray)]) ?_ 1 _ rfl; (with_reducible repeat (first | refine blk_drewN ?_ _ | refine blk_drew ?_ | refine blk_alloc ?_ _)); refine blk_put (cs := #[.string (⟨#[]⟩ : ByteArray), .int .i64 0, .int .i64 0, .int .i64 0, .int .i64 0, .int .i64 0, .string (⟨#[]⟩ : ByteArray)]) ?_ 0 _ rfl; (with_reducible repeat (first | refine blk_drewN ?_ _ | refine blk_drew ?_ | refine blk_alloc ?_ _)); exact BK204.out)) : gb204 ≠ gb205)); have n7_ := Aside0.mk ((by rw [hg]; exact Nat.ne_of_gt (blk_lt (g := gb204) (o := .cells #[.string ((rd_T36 l0 x37_1).f0), .int .i64 ((rd_T36 l0 x37_1).f1.f0), .int .i64 ((rd_T36 l0 x37_1).f1.f1), .int .i64 ((rd_T36 l0 x37_1).f1.f2), .int .i64 ((rd_T36 l0 x37_1).f1.f3), .int .i64 ((rd_T36 l0 x37_1).f1.f4), .string ((rd_T36 l0 x37_1).f2)] 36 (0, 0)) (by (with_reducible repeat (first | refine blk_drewN ?_ _ | refine blk_drew ?_ | refine blk_alloc ?_ _)); refine blk_put (cs := #[.string ((rd_T36 l0 x37_1).f0), .int .i64 ((rd_T36 l0 x37_1).f1.f0), .int .i64 ((rd_T36 l0 x37_1).f1.f1), .int .i64 ((rd_T36 l0 x37_1).f1.f2), .int .i64 ((rd_T36 l0 x37_1).f1.f3), .int .i64 ((rd_T36 l0 x37_1).f1.f4), .string (⟨#[]⟩ : ByteArray)]) ?_ 6 _ rfl; (with_reducible repeat (first | refine blk_drewN ?_ _ | refine blk_drew ?_ | refine blk_alloc ?_ _)); refine blk_put (cs := #[.string ((rd_T36 l0 x37_1).f0), .int .i64 ((rd_T36 l0 x37_1).f1.f0), .int .i64 ((rd_T36 l0 x37_1).f1.f1), .int .i64 ((rd_T36 l0 x37_1).f1.f2), .int .i64 ((rd_T36 l0 x37_1).f1.f3), .int .i64 0, .string (⟨#[]⟩ : ByteArray)]) ?_ 5 _ rfl; (with_reducible repeat (first | refine blk_drewN ?_ _ | refine blk_drew ?_ | refine blk_alloc ?_ _)); refine blk_put (cs := #[.string ((rd_T36 l0 x37_1).f0), .int .i64 ((rd_T36 l0 x37_1).f1.f0), .int .i64 ((rd_T36 l0 x37_1).f1.f1), .int .i64 ((rd_T36 l0 x37_1).f1.f2), .int .i64 0, .int .i64 0, .string (⟨#[]⟩ : ByteArray)]) ?_ 4 _ rfl; (with_reducible repeat (first | refine blk_drewN ?_ _ | refine blk_drew ?_ | refine blk_alloc ?_ _)); refine blk_put (cs := #[.string ((rd_T36 l0 x37_1).f0), .int .i64 ((rd_T36 l0 x37_1).f1.f0), .int .i64 ((rd_T36 l0 x37_1).f1.f1), .int .i64 0, .int .i64 0, .int .i64 0, .string (⟨#[]⟩ : ByteArray)]) ?_ 3 _ rfl; (with_reducible repeat (first | refine blk_drewN ?_ _ | refine blk_drew ?_ | refine blk_alloc ?_ _)); refine blk_put (cs := #[.string ((rd_T36 l0 x37_1).f0), .int .i64 ((rd_T36 l0 x37_1).f1.f0), .int .i64 0, .int .i64 0, .int .i64 0, .int .i64 0, .string (⟨#[]⟩ : ByteArray)]) ?_ 2 _ rfl; (with_reducible repeat (first | refine blk_drewN ?_ _ | refine blk_drew ?_ | refine blk_alloc ?_ _)); refine blk_put (cs := #[.string ((rd_T36 l0 x37_1).f0), .int .i64 0, .int .i64 0, .int .i64 0, .int .i64 0, .int .i64 0, .string (⟨#[]⟩ : ByteArray)]) ?_ 1 _ rfl; (with_reducible repeat (first | refine blk_drewN ?_ _ | refine blk_drew ?_ | refine blk_alloc ?_ _)); refine blk_put (cs := #[.string (⟨#[]⟩ : ByteArray), .int .i64 0, .int .i64 0, .int .i64 0, .int .i64 0, .int .i64 0, .string (⟨#[]⟩ : ByteArray)]) ?_ 0 _ rfl; (with_reducible repeat (first | refine blk_drewN ?_ _ | refine blk_drew ?_ | refine blk_alloc ?_ _)); exact BK204.out)) : gb205 ≠ gb204)); clear HO_3; clear BK204; clear HB; have HO_3 := n0_; have BK204 := n1_; have HB := n2_; have BK205 := n3_; have GW205 := n4_; have GE205 := n5_; have NB204_205 := n6_; have NB205_204 := n7_; clear n0_ n1_ n2_ n3_ n4_ n5_ n6_ n7_; clear hb hbox hg; have hnb17 := NB205_204.out; have hnc17 := NB204_205.out; have hcz18_0 : w16.cell? ⟨gb205, 0, none⟩ = some (.int .i64 0) := (blk_cell BK205.out 0).trans rfl; have hcz18_1 : w16.cell? ⟨gb205, 1, none⟩ = some (.int .i64 0) := (blk_cell BK205.out 1).trans rfl; have hcz18_2 : w16.cell? ⟨gb205, 2, none⟩ = some (.int .i64 0) := (blk_cell BK205.out 2).trans rfl; have hcz18_3 : w16.cell? ⟨gb205, 3, none⟩ = some (.int .i64 0) := (blk_cell BK205.out 3).trans rfl; have hcz18_4 : w16.cell? ⟨gb205, 4, none⟩ = some (.int .i64 0) := (blk_cell BK205.out 4).trans rfl; have hfz18_0 := blk_frozen BK205.out 0; have hfz18_1 := blk_frozen BK205.out 1; have hfz18_2 := blk_frozen BK205.out 2; have hfz18_3 := blk_frozen BK205.out 3; have hfz18_4 := blk_frozen BK205.out 4))
                  (try simp only [Act.put, List.setIfInBounds_toArray, List.set_cons_zero, List.set_cons_succ])
                  go_cut [54] (fun v54 wc => ∃ (kq : Nat) (x54_12 : Bool), v54 = .bool x54_12 ∧ Aside0 (camletlaw40_AsmWays.j1 kq l0 t196 x37_1 l0 (l0.length : Int) x37_1 x54_12 ((rd_T36 l0 x37_1).f0) ((rd_T36 l0 x37_1).f1.f0) ((rd_T36 l0 x37_1).f1.f1) ((rd_T36 l0 x37_1).f1.f2) ((rd_T36 l0 x37_1).f1.f3) ((rd_T36 l0 x37_1).f1.f4) ((rd_T36 l0 x37_1).f2) ((rd_T36 l0 x37_1).f1.f0) ((rd_T36 l0 x37_1).f1.f1) ((rd_T36 l0 x37_1).f1.f2) ((rd_T36 l0 x37_1).f1.f3) ((rd_T36 l0 x37_1).f1.f4) = some r) ∧ Aside0 (kq ≤ k1) ∧ Aside0 (Kd.R (Kd.int .u32) 37 wc w.heap.size (fun _ => True) (.slice Ao9 t196.length co9) t196) ∧ Aside0 (wc.heap[gb204]? = some (.cells #[.string ((rd_T36 l0 x37_1).f0), .int .i64 ((rd_T36 l0 x37_1).f1.f0), .int .i64 ((rd_T36 l0 x37_1).f1.f1), .int .i64 ((rd_T36 l0 x37_1).f1.f2), .int .i64 ((rd_T36 l0 x37_1).f1.f3), .int .i64 ((rd_T36 l0 x37_1).f1.f4), .string ((rd_T36 l0 x37_1).f2)] 36 (0, 0))) ∧ Aside0 (wc.heap[gb205]? = some (.cells #[.int .i64 ((rd_T36 l0 x37_1).f1.f0), .int .i64 ((rd_T36 l0 x37_1).f1.f1), .int .i64 ((rd_T36 l0 x37_1).f1.f2), .int .i64 ((rd_T36 l0 x37_1).f1.f3), .int .i64 ((rd_T36 l0 x37_1).f1.f4)] 34 (0, 0))) ∧ Aside0 (Below w.heap.size w wc))
                  case first =>
                    have H := HC13.out
                    clear HC13
                    by_cases c19 : ((rd_T36 l0 x37_1).f0).toList = ([] : List UInt8)
                    · rw [if_pos c19] at H
                      have c19b0 : (((rd_T36 l0 x37_1).f0).toList == ([] : List UInt8)) = true := beq_iff_eq.mpr c19
                      have c19b1 : (((rd_T36 l0 x37_1).f0).toList != ([] : List UInt8)) = false := bne_eq_false_iff_eq.mpr c19
                      clear c19
                      (first | rw [c19b0] | (simp only [i64_w, i32_w]; rw [c19b0]) | skip)
                      have H' := Aside0.mk H
                      clear H
                      have hnb20 := NB204_205.out
                      have hnc20 := NB205_204.out
                      have hcz21_0 : w16.cell? ⟨gb204, 0, none⟩ = some (.string ((rd_T36 l0 x37_1).f0)) := (blk_cell BK204.out 0).trans rfl
                      have hcz21_1 : w16.cell? ⟨gb204, 1, none⟩ = some (.int .i64 ((rd_T36 l0 x37_1).f1.f0)) := (blk_cell BK204.out 1).trans rfl
                      have hcz21_2 : w16.cell? ⟨gb204, 2, none⟩ = some (.int .i64 ((rd_T36 l0 x37_1).f1.f1)) := (blk_cell BK204.out 2).trans rfl
                      have hcz21_3 : w16.cell? ⟨gb204, 3, none⟩ = some (.int .i64 ((rd_T36 l0 x37_1).f1.f2)) := (blk_cell BK204.out 3).trans rfl
                      have hcz21_4 : w16.cell? ⟨gb204, 4, none⟩ = some (.int .i64 ((rd_T36 l0 x37_1).f1.f3)) := (blk_cell BK204.out 4).trans rfl
                      have hcz21_5 : w16.cell? ⟨gb204, 5, none⟩ = some (.int .i64 ((rd_T36 l0 x37_1).f1.f4)) := (blk_cell BK204.out 5).trans rfl
                      have hcz21_6 : w16.cell? ⟨gb204, 6, none⟩ = some (.string ((rd_T36 l0 x37_1).f2)) := (blk_cell BK204.out 6).trans rfl
                      have hfz21_0 := blk_frozen BK204.out 0
                      have hfz21_1 := blk_frozen BK204.out 1
                      have hfz21_2 := blk_frozen BK204.out 2
                      have hfz21_3 := blk_frozen BK204.out 3
                      have hfz21_4 := blk_frozen BK204.out 4
                      have hfz21_5 := blk_frozen BK204.out 5
                      have hfz21_6 := blk_frozen BK204.out 6
                      go_wp2
                      go_meet
                      case rel => exact ⟨_, (false), (by first | rfl | (simp; done) | (simp [*]; done) | (simp; generalize ByteArray.toList _ = z_; cases z_ <;> first | rfl | simp)), H', ⟨by have := HK1.out; first | omega | exact Nat.le_refl _⟩, ⟨by (with_reducible repeat (first | apply Kd.R_alloc | apply Kd.R_drewN | apply Kd.R_drew)); exact Kd.R_mono (Kd.R_far (p := ⟨gb205, 4, none⟩) (Kd.R_far (p := ⟨gb205, 3, none⟩) (Kd.R_far (p := ⟨gb205, 2, none⟩) (Kd.R_far (p := ⟨gb205, 1, none⟩) (Kd.R_far (p := ⟨gb205, 0, none⟩) (Kd.R_types HO_3.out BK205.out (by decide)) (fun _ hk => hk.2) (.int .i64 ((rd_T36 l0 x37_1).f1.f0))) (fun _ hk => hk.2) (.int .i64 ((rd_T36 l0 x37_1).f1.f1))) (fun _ hk => hk.2) (.int .i64 ((rd_T36 l0 x37_1).f1.f2))) (fun _ hk => hk.2) (.int .i64 ((rd_T36 l0 x37_1).f1.f3))) (fun _ hk => hk.2) (.int .i64 ((rd_T36 l0 x37_1).f1.f4))) (fun _ hk => trivial)⟩, ⟨by (with_reducible repeat (first | refine blk_drewN ?_ _ | refine blk_drew ?_ | refine blk_alloc ?_ _)); refine blk_far ?_ NB204_205.out _; (with_reducible repeat (first | refine blk_drewN ?_ _ | refine blk_drew ?_ | refine blk_alloc ?_ _)); refine blk_far ?_ NB204_205.out _; (with_reducible repeat (first | refine blk_drewN ?_ _ | refine blk_drew ?_ | refine blk_alloc ?_ _)); refine blk_far ?_ NB204_205.out _; (with_reducible repeat (first | refine blk_drewN ?_ _ | refine blk_drew ?_ | refine blk_alloc ?_ _)); refine blk_far ?_ NB204_205.out _; (with_reducible repeat (first | refine blk_drewN ?_ _ | refine blk_drew ?_ | refine blk_alloc ?_ _)); refine blk_far ?_ NB204_205.out _; (with_reducible repeat (first | refine blk_drewN ?_ _ | refine blk_drew ?_ | refine blk_alloc ?_ _)); exact BK204.out⟩, ⟨by (with_reducible repeat (first | refine blk_drewN ?_ _ | refine blk_drew ?_ | refine blk_alloc ?_ _)); refine blk_put (cs := #[.int .i64 ((rd_T36 l0 x37_1).f1.f0), .int .i64 ((rd_T36 l0 x37_1).f1.f1), .int .i64 ((rd_T36 l0 x37_1).f1.f2), .int .i64 ((rd_T36 l0 x37_1).f1.f3), .int .i64 0]) ?_ 4 _ rfl; (with_reducible repeat (first | refine blk_drewN ?_ _ | refine blk_drew ?_ | refine blk_alloc ?_ _)); refine blk_put (cs := #[.int .i64 ((rd_T36 l0 x37_1).f1.f0), .int .i64 ((rd_T36 l0 x37_1).f1.f1), .int .i64 ((rd_T36 l0 x37_1).f1.f2), .int .i64 0, .int .i64 0]) ?_ 3 _ rfl; (with_reducible repeat (first | refine blk_drewN ?_ _ | refine blk_drew ?_ | refine blk_alloc ?_ _)); refine blk_put (cs := #[.int .i64 ((rd_T36 l0 x37_1).f1.f0), .int .i64 ((rd_T36 l0 x37_1).f1.f1), .int .i64 0, .int .i64 0, .int .i64 0]) ?_ 2 _ rfl; (with_reducible repeat (first | refine blk_drewN ?_ _ | refine blk_drew ?_ | refine blk_alloc ?_ _)); refine blk_put (cs := #[.int .i64 ((rd_T36 l0 x37_1).f1.f0), .int .i64 0, .int .i64 0, .int .i64 0, .int .i64 0]) ?_ 1 _ rfl; (with_reducible repeat (first | refine blk_drewN ?_ _ | refine blk_drew ?_ | refine blk_alloc ?_ _)); refine blk_put (cs := #[.int .i64 0, .int .i64 0, .int .i64 0, .int .i64 0, .int .i64 0]) ?_ 0 _ rfl; (with_reducible repeat (first | refine blk_drewN ?_ _ | refine blk_drew ?_ | refine blk_alloc ?_ _)); exact BK205.out⟩, ⟨by repeat (first | (with_reducible first | exact HB.out | apply below_alloc | apply pw_below_drewN | apply below_drew1 | refine below_set ?_ GE204.out | refine below_set ?_ GE205.out) | exact HB.out)⟩⟩
                    · rw [if_neg c19] at H
                      have c19b0 : (((rd_T36 l0 x37_1).f0).toList == ([] : List UInt8)) = false := beq_eq_false_iff_ne.mpr c19
                      have c19b1 : (((rd_T36 l0 x37_1).f0).toList != ([] : List UInt8)) = true := bne_iff_ne.mpr c19
                      (first | rw [c19b0] | (simp only [i64_w, i32_w]; rw [c19b0]) | skip)
                      replace H := Option.bind_eq_some_iff.mp H
                      obtain ⟨t206, A220, H⟩ := H
                      replace H : (camletlaw40_AsmWays.j1 k1 l0 t196 x37_1 l0 (l0.length : Int) x37_1 (t206 != x37_1) ((rd_T36 l0 x37_1).f0) ((rd_T36 l0 x37_1).f1.f0) ((rd_T36 l0 x37_1).f1.f1) ((rd_T36 l0 x37_1).f1.f2) ((rd_T36 l0 x37_1).f1.f3) ((rd_T36 l0 x37_1).f1.f4) ((rd_T36 l0 x37_1).f2) ((rd_T36 l0 x37_1).f1.f0) ((rd_T36 l0 x37_1).f1.f1) ((rd_T36 l0 x37_1).f1.f2) ((rd_T36 l0 x37_1).f1.f3) ((rd_T36 l0 x37_1).f1.f4)) = some r := H
                      have A22 := Aside0.mk A220
                      clear A220
                      have H' := Aside0.mk H
                      clear H
                      have hnb23 := NB204_205.out
                      have hnc23 := NB205_204.out
                      have hcz24_0 : w16.cell? ⟨gb204, 0, none⟩ = some (.string ((rd_T36 l0 x37_1).f0)) := (blk_cell BK204.out 0).trans rfl
                      have hcz24_1 : w16.cell? ⟨gb204, 1, none⟩ = some (.int .i64 ((rd_T36 l0 x37_1).f1.f0)) := (blk_cell BK204.out 1).trans rfl
                      have hcz24_2 : w16.cell? ⟨gb204, 2, none⟩ = some (.int .i64 ((rd_T36 l0 x37_1).f1.f1)) := (blk_cell BK204.out 2).trans rfl
                      have hcz24_3 : w16.cell? ⟨gb204, 3, none⟩ = some (.int .i64 ((rd_T36 l0 x37_1).f1.f2)) := (blk_cell BK204.out 3).trans rfl
                      have hcz24_4 : w16.cell? ⟨gb204, 4, none⟩ = some (.int .i64 ((rd_T36 l0 x37_1).f1.f3)) := (blk_cell BK204.out 4).trans rfl
                      have hcz24_5 : w16.cell? ⟨gb204, 5, none⟩ = some (.int .i64 ((rd_T36 l0 x37_1).f1.f4)) := (blk_cell BK204.out 5).trans rfl
                      have hcz24_6 : w16.cell? ⟨gb204, 6, none⟩ = some (.string ((rd_T36 l0 x37_1).f2)) := (blk_cell BK204.out 6).trans rfl
                      have hfz24_0 := blk_frozen BK204.out 0
                      have hfz24_1 := blk_frozen BK204.out 1
                      have hfz24_2 := blk_frozen BK204.out 2
                      have hfz24_3 := blk_frozen BK204.out 3
                      have hfz24_4 := blk_frozen BK204.out 4
                      have hfz24_5 := blk_frozen BK204.out 5
                      have hfz24_6 := blk_frozen BK204.out 6
                      go_wp2_with (first | (go_at_call 13; (with_reducible refine (asm_Labels.calls k1 _ _ l0 ((rd_T36 l0 x37_1).f0) t206 _ ?side1 ?side2 A22.out).mono ?_); (case side1 => exact Kd.C_below HR0.out (by repeat (first | (with_reducible first | exact HB.out | apply below_alloc | apply pw_below_drewN | apply below_drew1 | refine below_set ?_ GE204.out | refine below_set ?_ GE205.out) | exact HB.out))); (case side2 => exact HC0.out); rintro e w25 ⟨rfl, hb⟩; have n0_ := Aside0.mk (Kd.R_below (by (with_reducible repeat (first | apply Kd.R_alloc | apply Kd.R_drewN | apply Kd.R_drew)); exact (Kd.R_mono (Kd.R_far (p := ⟨gb205, 4, none⟩) (Kd.R_far (p := ⟨gb205, 3, none⟩) (Kd.R_far (p := ⟨gb205, 2, none⟩) (Kd.R_far (p := ⟨gb205, 1, none⟩) (Kd.R_far (p := ⟨gb205, 0, none⟩) (Kd.R_types HO_3.out BK205.out (by decide)) (fun _ hk => hk.2) (.int .i64 ((rd_T36 l0 x37_1).f1.f0))) (fun _ hk => hk.2) (.int .i64 ((rd_T36 l0 x37_1).f1.f1))) (fun _ hk => hk.2) (.int .i64 ((rd_T36 l0 x37_1).f1.f2))) (fun _ hk => hk.2) (.int .i64 ((rd_T36 l0 x37_1).f1.f3))) (fun _ hk => hk.2) (.int .i64 ((rd_T36 l0 x37_1).f1.f4))) (fun _ h_ => h_.1))) hb); have n1_ := Aside0.mk (blk_below (g := gb204) (o := .cells #[.string ((rd_T36 l0 x37_1).f0), .int .i64 ((rd_T36 l0 x37_1).f1.f0), .int .i64 ((rd_T36 l0 x37_1).f1.f1), .int .i64 ((rd_T36 l0 x37_1).f1.f2), .int .i64 ((rd_T36 l0 x37_1).f1.f3), .int .i64 ((rd_T36 l0 x37_1).f1.f4), .string ((rd_T36 l0 x37_1).f2)] 36 (0, 0)) (by (with_reducible repeat (first | refine blk_drewN ?_ _ | refine blk_drew ?_ | refine blk_alloc ?_ _)); refine blk_far ?_ NB204_205.out _; (with_reducible repeat (first | refine blk_drewN ?_ _ | refine blk_drew ?_ | refine blk_alloc ?_ _)); refine blk_far ?_ NB204_205.out _; (with_reducible repeat (first | refine blk_drewN ?_ _ | refine blk_drew ?_ | refine blk_alloc ?_ _)); refine blk_far ?_ NB204_205.out _; (with_reducible repeat (first | refine blk_drewN ?_ _ | refine blk_drew ?_ | refine blk_alloc ?_ _)); refine blk_far ?_ NB204_205.out _; (with_reducible repeat (first | refine blk_drewN ?_ _ | refine blk_drew ?_ | refine blk_alloc ?_ _)); refine blk_far ?_ NB204_205.out _; (with_reducible repeat (first | refine blk_drewN ?_ _ | refine blk_drew ?_ | refine blk_alloc ?_ _)); exact BK204.out) hb); have n2_ := Aside0.mk (blk_below (g := gb205) (o := .cells #[.int .i64 ((rd_T36 l0 x37_1).f1.f0), .int .i64 ((rd_T36 l0 x37_1).f1.f1), .int .i64 ((rd_T36 l0 x37_1).f1.f2), .int .i64 ((rd_T36 l0 x37_1).f1.f3), .int .i64 ((rd_T36 l0 x37_1).f1.f4)] 34 (0, 0)) (by (with_reducible repeat (first | refine blk_drewN ?_ _ | refine blk_drew ?_ | refine blk_alloc ?_ _)); refine blk_put (cs := #[.int .i64 ((rd_T36 l0 x37_1).f1.f0), .int .i64 ((rd_T36 l0 x37_1).f1.f1), .int .i64 ((rd_T36 l0 x37_1).f1.f2), .int .i64 ((rd_T36 l0 x37_1).f1.f3), .int .i64 0]) ?_ 4 _ rfl; (with_reducible repeat (first | refine blk_drewN ?_ _ | refine blk_drew ?_ | refine blk_alloc ?_ _)); refine blk_put (cs := #[.int .i64 ((rd_T36 l0 x37_1).f1.f0), .int .i64 ((rd_T36 l0 x37_1).f1.f1), .int .i64 ((rd_T36 l0 x37_1).f1.f2), .int .i64 0, .int .i64 0]) ?_ 3 _ rfl; (with_reducible repeat (first | refine blk_drewN ?_ _ | refine blk_drew ?_ | refine blk_alloc ?_ _)); refine blk_put (cs := #[.int .i64 ((rd_T36 l0 x37_1).f1.f0), .int .i64 ((rd_T36 l0 x37_1).f1.f1), .int .i64 0, .int .i64 0, .int .i64 0]) ?_ 2 _ rfl; (with_reducible repeat (first | refine blk_drewN ?_ _ | refine blk_drew ?_ | refine blk_alloc ?_ _)); refine blk_put (cs := #[.int .i64 ((rd_T36 l0 x37_1).f1.f0), .int .i64 0, .int .i64 0, .int .i64 0, .int .i64 0]) ?_ 1 _ rfl; (with_reducible repeat (first | refine blk_drewN ?_ _ | refine blk_drew ?_ | refine blk_alloc ?_ _)); refine blk_put (cs := #[.int .i64 0, .int .i64 0, .int .i64 0, .int .i64 0, .int .i64 0]) ?_ 0 _ rfl; (with_reducible repeat (first | refine blk_drewN ?_ _ | refine blk_drew ?_ | refine blk_alloc ?_ _)); exact BK205.out) hb); have n3_ := Aside0.mk (below_step (by repeat (first | (with_reducible first | exact HB.out | apply below_alloc | apply pw_below_drewN | apply below_drew1 | refine below_set ?_ GE204.out | refine below_set ?_ GE205.out) | exact HB.out)) hb); clear HO_3; clear BK204; clear BK205; clear HB; have HO_3 := n0_; have BK204 := n1_; have BK205 := n2_; have HB := n3_; clear n0_ n1_ n2_ n3_; (try clear hb); (try clear hb2); (try clear hk); (try clear hi)))
                      go_meet
                      case rel => exact ⟨_, ((t206 != x37_1)), (by first | rfl | (simp; done) | (simp [*]; done) | (simp; generalize ByteArray.toList _ = z_; cases z_ <;> first | rfl | simp)), H', ⟨by have := HK1.out; first | omega | exact Nat.le_refl _⟩, ⟨by (with_reducible repeat (first | apply Kd.R_alloc | apply Kd.R_drewN | apply Kd.R_drew)); exact HO_3.out⟩, ⟨by (with_reducible repeat (first | refine blk_drewN ?_ _ | refine blk_drew ?_ | refine blk_alloc ?_ _)); exact BK204.out⟩, ⟨by (with_reducible repeat (first | refine blk_drewN ?_ _ | refine blk_drew ?_ | refine blk_alloc ?_ _)); exact BK205.out⟩, ⟨by repeat (first | (with_reducible first | exact HB.out | apply below_alloc | apply pw_below_drewN | apply below_drew1 | refine below_set ?_ GE204.out | refine below_set ?_ GE205.out) | exact HB.out)⟩⟩
                  case rest =>
                    clear HC13
                    try clear c1
                    try clear c2
                    try clear p2
                    try clear q2
                    try clear hx2
                    try clear c3
                    try clear c5
                    try clear c5b0
                    try clear c5b1
                    try clear c6
                    try clear c6b0
                    try clear c6b1
                    try clear c6b2
                    try clear c10
                    try clear c10b0
                    try clear c11
                    try clear c11b0
                    try clear c12
                    try clear c12b0
                    try clear c17
                    try clear c19
                    try clear c19b0
                    try clear c19b1
                    try clear c20
                    try clear p20
                    try clear q20
                    try clear hx20
                    try clear c23
                    try clear hcz15_0
                    try clear hcz15_1
                    try clear hcz15_2
                    try clear hcz15_3
                    try clear hcz15_4
                    try clear hcz15_5
                    try clear hcz15_6
                    try clear hcz18_0
                    try clear hcz18_1
                    try clear hcz18_2
                    try clear hcz18_3
                    try clear hcz18_4
                    try clear hcz21_0
                    try clear hcz21_1
                    try clear hcz21_2
                    try clear hcz21_3
                    try clear hcz21_4
                    try clear hcz21_5
                    try clear hcz21_6
                    try clear hcz24_0
                    try clear hcz24_1
                    try clear hcz24_2
                    try clear hcz24_3
                    try clear hcz24_4
                    try clear hcz24_5
                    try clear hcz24_6
                    try clear hfz15_0
                    try clear hfz15_1
                    try clear hfz15_2
                    try clear hfz15_3
                    try clear hfz15_4
                    try clear hfz15_5
                    try clear hfz15_6
                    try clear hfz18_0
                    try clear hfz18_1
                    try clear hfz18_2
                    try clear hfz18_3
                    try clear hfz18_4
                    try clear hfz21_0
                    try clear hfz21_1
                    try clear hfz21_2
                    try clear hfz21_3
                    try clear hfz21_4
                    try clear hfz21_5
                    try clear hfz21_6
                    try clear hfz24_0
                    try clear hfz24_1
                    try clear hfz24_2
                    try clear hfz24_3
                    try clear hfz24_4
                    try clear hfz24_5
                    try clear hfz24_6
                    try clear hx203_0
                    try clear hx203_1
                    try clear hx203_2
                    try clear hx203_3
                    try clear hx203_4
                    try clear hx203_5
                    try clear hx203_6
                    try clear p2
                    try clear p203
                    try clear q203
                    obtain ⟨kq, x54_12, rfl, HA, HJ12, HO_3, BK204, BK205, HB⟩ := hcut
                    cases kq with
                    | zero => exact absurd HA.out (by simp [camletlaw40_AsmWays.j1])
                    | succ kj12 =>
                      have H := HA.out
                      clear HA
                      simp only [camletlaw40_AsmWays.j1] at H
                      by_cases c26 : x54_12 = true
                      · subst c26
                        have H1 : (some false) = some r := by rw [if_pos rfl] at H; exact H
                        clear H
                        have H := H1
                        clear H1
                        obtain rfl := Option.some.inj H
                        go_wp2
                        go_ret
                        exact ⟨by first | rfl | (simp [errW_none, errW_some] <;> rfl) | (simp [*, errW_none, errW_some] <;> rfl), by repeat (first | (with_reducible first | exact HB.out | apply below_alloc | apply pw_below_drewN | apply below_drew1 | refine below_set ?_ GE204.out | refine below_set ?_ GE205.out) | exact HB.out)⟩
                      · replace c26 := Bool.eq_false_iff.mpr c26
                        subst c26
                        have H1 : ((asm_Labels.f kj12 l0 ((rd_T36 l0 x37_1).f2)).bind fun t207 => (if ((rd_T36 l0 x37_1).f2).toList = ([] : List UInt8) then ((isa_Put.f ((rd_T36 l0 x37_1).f1.f0) ((rd_T36 l0 x37_1).f1.f1) ((rd_T36 l0 x37_1).f1.f2) ((rd_T36 l0 x37_1).f1.f3) ((rd_T36 l0 x37_1).f1.f4)).bind fun bt208 => (if bt208.2 = 0 then (if 0 ≤ x37_1 then (if x37_1 < (t196.length : Int) then (if bt208.1 = (rd t196 x37_1) then (camletlaw40_AsmWays.l0 kj12 l0 t196 l0 (l0.length : Int) (wrap64 (x37_1 + 1))) else (some false)) else (none)) else (none)) else (some false))) else (if ((rd_T36 l0 x37_1).f1.f0) = 1 then (camletlaw40_AsmWays.j2 kj12 l0 t196 x37_1 t207 l0 (l0.length : Int) x37_1 ((rd_T36 l0 x37_1).f1.f0) ((rd_T36 l0 x37_1).f1.f1) ((rd_T36 l0 x37_1).f1.f2) ((rd_T36 l0 x37_1).f1.f3) (wrap64 ((wrap64 (2 * t207)) + 1))) else (camletlaw40_AsmWays.j2 kj12 l0 t196 x37_1 t207 l0 (l0.length : Int) x37_1 ((rd_T36 l0 x37_1).f1.f0) ((rd_T36 l0 x37_1).f1.f1) ((rd_T36 l0 x37_1).f1.f2) ((rd_T36 l0 x37_1).f1.f3) (wrap64 ((wrap64 (t207 - x37_1)) - 1)))))) = some r := by rw [if_neg (show ¬ (false = true) by decide)] at H; exact H
                        clear H
                        have H := H1
                        clear H1
                        replace H := Option.bind_eq_some_iff.mp H
                        obtain ⟨t207, A270, H⟩ := H
                        replace H : (if ((rd_T36 l0 x37_1).f2).toList = ([] : List UInt8) then ((isa_Put.f ((rd_T36 l0 x37_1).f1.f0) ((rd_T36 l0 x37_1).f1.f1) ((rd_T36 l0 x37_1).f1.f2) ((rd_T36 l0 x37_1).f1.f3) ((rd_T36 l0 x37_1).f1.f4)).bind fun bt208 => (if bt208.2 = 0 then (if 0 ≤ x37_1 then (if x37_1 < (t196.length : Int) then (if bt208.1 = (rd t196 x37_1) then (camletlaw40_AsmWays.l0 kj12 l0 t196 l0 (l0.length : Int) (wrap64 (x37_1 + 1))) else (some false)) else (none)) else (none)) else (some false))) else (if ((rd_T36 l0 x37_1).f1.f0) = 1 then (camletlaw40_AsmWays.j2 kj12 l0 t196 x37_1 t207 l0 (l0.length : Int) x37_1 ((rd_T36 l0 x37_1).f1.f0) ((rd_T36 l0 x37_1).f1.f1) ((rd_T36 l0 x37_1).f1.f2) ((rd_T36 l0 x37_1).f1.f3) (wrap64 ((wrap64 (2 * t207)) + 1))) else (camletlaw40_AsmWays.j2 kj12 l0 t196 x37_1 t207 l0 (l0.length : Int) x37_1 ((rd_T36 l0 x37_1).f1.f0) ((rd_T36 l0 x37_1).f1.f1) ((rd_T36 l0 x37_1).f1.f2) ((rd_T36 l0 x37_1).f1.f3) (wrap64 ((wrap64 (t207 - x37_1)) - 1))))) = some r := H
                        have A27 := Aside0.mk A270
                        clear A270
                        by_cases c28 : ((rd_T36 l0 x37_1).f2).toList = ([] : List UInt8)
                        · rw [if_pos c28] at H
                          have c28b0 : (((rd_T36 l0 x37_1).f2).toList == ([] : List UInt8)) = true := beq_iff_eq.mpr c28
                          have c28b1 : (((rd_T36 l0 x37_1).f2).toList != ([] : List UInt8)) = false := bne_eq_false_iff_eq.mpr c28
                          clear c28
                          replace H := Option.bind_eq_some_iff.mp H
                          obtain ⟨⟨t208, t209⟩, A290, H⟩ := H
                          replace H : (if t209 = 0 then (if 0 ≤ x37_1 then (if x37_1 < (t196.length : Int) then (if t208 = (rd t196 x37_1) then (camletlaw40_AsmWays.l0 kj12 l0 t196 l0 (l0.length : Int) (wrap64 (x37_1 + 1))) else (some false)) else (none)) else (none)) else (some false)) = some r := H
                          have A29 := Aside0.mk A290
                          clear A290
                          by_cases c30 : t209 = 0
                          · rw [if_pos c30] at H
                            have c30b0 : (t209 == 0) = true := beq_iff_eq.mpr c30
                            have c30b1 : (t209 != 0) = false := bne_eq_false_iff_eq.mpr c30
                            clear c30
                            by_cases c31 : 0 ≤ x37_1
                            · rw [if_pos c31] at H
                              have c31b0 : decide (0 ≤ x37_1) = true := decide_eq_true c31
                              clear c31
                              by_cases c32 : x37_1 < (t196.length : Int)
                              · rw [if_pos c32] at H
                                have c32b0 : decide (x37_1 < (t196.length : Int)) = true := decide_eq_true c32
                                clear c32
                                by_cases c33 : t208 = (rd t196 x37_1)
                                · rw [if_pos c33] at H
                                  have c33b0 : (t208 == (rd t196 x37_1)) = true := beq_iff_eq.mpr c33
                                  have c33b1 : (t208 != (rd t196 x37_1)) = false := bne_eq_false_iff_eq.mpr c33
                                  clear c33
                                  have H' := Aside0.mk H
                                  clear H
                                  have hnb34 := NB204_205.out
                                  have hnc34 := NB205_204.out
                                  have hcz35_0 : wc.cell? ⟨gb204, 0, none⟩ = some (.string ((rd_T36 l0 x37_1).f0)) := (blk_cell BK204.out 0).trans rfl
                                  have hcz35_1 : wc.cell? ⟨gb204, 1, none⟩ = some (.int .i64 ((rd_T36 l0 x37_1).f1.f0)) := (blk_cell BK204.out 1).trans rfl
                                  have hcz35_2 : wc.cell? ⟨gb204, 2, none⟩ = some (.int .i64 ((rd_T36 l0 x37_1).f1.f1)) := (blk_cell BK204.out 2).trans rfl
                                  have hcz35_3 : wc.cell? ⟨gb204, 3, none⟩ = some (.int .i64 ((rd_T36 l0 x37_1).f1.f2)) := (blk_cell BK204.out 3).trans rfl
                                  have hcz35_4 : wc.cell? ⟨gb204, 4, none⟩ = some (.int .i64 ((rd_T36 l0 x37_1).f1.f3)) := (blk_cell BK204.out 4).trans rfl
                                  have hcz35_5 : wc.cell? ⟨gb204, 5, none⟩ = some (.int .i64 ((rd_T36 l0 x37_1).f1.f4)) := (blk_cell BK204.out 5).trans rfl
                                  have hcz35_6 : wc.cell? ⟨gb204, 6, none⟩ = some (.string ((rd_T36 l0 x37_1).f2)) := (blk_cell BK204.out 6).trans rfl
                                  have hfz35_0 := blk_frozen BK204.out 0
                                  have hfz35_1 := blk_frozen BK204.out 1
                                  have hfz35_2 := blk_frozen BK204.out 2
                                  have hfz35_3 := blk_frozen BK204.out 3
                                  have hfz35_4 := blk_frozen BK204.out 4
                                  have hfz35_5 := blk_frozen BK204.out 5
                                  have hfz35_6 := blk_frozen BK204.out 6
                                  go_wp2_with (first | (go_at_call 13; (with_reducible refine (asm_Labels.calls kj12 _ _ l0 ((rd_T36 l0 x37_1).f2) t207 _ ?side1 ?side2 A27.out).mono ?_); (case side1 => repeat (first | exact (Kd.C_below HR0.out HB.out) | (with_reducible refine Kd.C_alloc ?_ _) | (with_reducible refine Kd.C_drewN ?_ _) | (with_reducible refine Kd.C_drew ?_))); (case side2 => exact HC0.out); rintro e w36 ⟨rfl, hb⟩; have n0_ := Aside0.mk (Kd.R_below (by (with_reducible repeat (first | apply Kd.R_alloc | apply Kd.R_drewN | apply Kd.R_drew)); exact HO_3.out) hb); have n1_ := Aside0.mk (blk_below (g := gb204) (o := .cells #[.string ((rd_T36 l0 x37_1).f0), .int .i64 ((rd_T36 l0 x37_1).f1.f0), .int .i64 ((rd_T36 l0 x37_1).f1.f1), .int .i64 ((rd_T36 l0 x37_1).f1.f2), .int .i64 ((rd_T36 l0 x37_1).f1.f3), .int .i64 ((rd_T36 l0 x37_1).f1.f4), .string ((rd_T36 l0 x37_1).f2)] 36 (0, 0)) (by (with_reducible repeat (first | refine blk_drewN ?_ _ | refine blk_drew ?_ | refine blk_alloc ?_ _)); exact BK204.out) hb); have n2_ := Aside0.mk (blk_below (g := gb205) (o := .cells #[.int .i64 ((rd_T36 l0 x37_1).f1.f0), .int .i64 ((rd_T36 l0 x37_1).f1.f1), .int .i64 ((rd_T36 l0 x37_1).f1.f2), .int .i64 ((rd_T36 l0 x37_1).f1.f3), .int .i64 ((rd_T36 l0 x37_1).f1.f4)] 34 (0, 0)) (by (with_reducible repeat (first | refine blk_drewN ?_ _ | refine blk_drew ?_ | refine blk_alloc ?_ _)); exact BK205.out) hb); have n3_ := Aside0.mk (below_step (by repeat (first | (with_reducible first | exact HB.out | apply below_alloc | apply pw_below_drewN | apply below_drew1 | refine below_set ?_ GE204.out | refine below_set ?_ GE205.out) | exact HB.out)) hb); clear HO_3; clear BK204; clear BK205; clear HB; have HO_3 := n0_; have BK204 := n1_; have BK205 := n2_; have HB := n3_; clear n0_ n1_ n2_ n3_; (try clear hb); (try clear hb2); (try clear hk); (try clear hi); have hcz37_0 : w36.cell? ⟨gb204, 0, none⟩ = some (.string ((rd_T36 l0 x37_1).f0)) := (blk_cell BK204.out 0).trans rfl; have hcz37_1 : w36.cell? ⟨gb204, 1, none⟩ = some (.int .i64 ((rd_T36 l0 x37_1).f1.f0)) := (blk_cell BK204.out 1).trans rfl; have hcz37_2 : w36.cell? ⟨gb204, 2, none⟩ = some (.int .i64 ((rd_T36 l0 x37_1).f1.f1)) := (blk_cell BK204.out 2).trans rfl; have hcz37_3 : w36.cell? ⟨gb204, 3, none⟩ = some (.int .i64 ((rd_T36 l0 x37_1).f1.f2)) := (blk_cell BK204.out 3).trans rfl; have hcz37_4 : w36.cell? ⟨gb204, 4, none⟩ = some (.int .i64 ((rd_T36 l0 x37_1).f1.f3)) := (blk_cell BK204.out 4).trans rfl; have hcz37_5 : w36.cell? ⟨gb204, 5, none⟩ = some (.int .i64 ((rd_T36 l0 x37_1).f1.f4)) := (blk_cell BK204.out 5).trans rfl; have hcz37_6 : w36.cell? ⟨gb204, 6, none⟩ = some (.string ((rd_T36 l0 x37_1).f2)) := (blk_cell BK204.out 6).trans rfl; have hfz37_0 := blk_frozen BK204.out 0; have hfz37_1 := blk_frozen BK204.out 1; have hfz37_2 := blk_frozen BK204.out 2; have hfz37_3 := blk_frozen BK204.out 3; have hfz37_4 := blk_frozen BK204.out 4; have hfz37_5 := blk_frozen BK204.out 5; have hfz37_6 := blk_frozen BK204.out 6; have hcz38_0 : w36.cell? ⟨gb205, 0, none⟩ = some (.int .i64 ((rd_T36 l0 x37_1).f1.f0)) := (blk_cell BK205.out 0).trans rfl; have hcz38_1 : w36.cell? ⟨gb205, 1, none⟩ = some (.int .i64 ((rd_T36 l0 x37_1).f1.f1)) := (blk_cell BK205.out 1).trans rfl; have hcz38_2 : w36.cell? ⟨gb205, 2, none⟩ = some (.int .i64 ((rd_T36 l0 x37_1).f1.f2)) := (blk_cell BK205.out 2).trans rfl; have hcz38_3 : w36.cell? ⟨gb205, 3, none⟩ = some (.int .i64 ((rd_T36 l0 x37_1).f1.f3)) := (blk_cell BK205.out 3).trans rfl; have hcz38_4 : w36.cell? ⟨gb205, 4, none⟩ = some (.int .i64 ((rd_T36 l0 x37_1).f1.f4)) := (blk_cell BK205.out 4).trans rfl; have hfz38_0 := blk_frozen BK205.out 0; have hfz38_1 := blk_frozen BK205.out 1; have hfz38_2 := blk_frozen BK205.out 2; have hfz38_3 := blk_frozen BK205.out 3; have hfz38_4 := blk_frozen BK205.out 4) | (go_at_call 16; (with_reducible refine (isa_Put.calls ((rd_T36 l0 x37_1).f1.f0) ((rd_T36 l0 x37_1).f1.f1) ((rd_T36 l0 x37_1).f1.f2) ((rd_T36 l0 x37_1).f1.f3) ((rd_T36 l0 x37_1).f1.f4) t208 t209 _ A29.out).mono ?_); rintro e w39 ⟨rfl, hb⟩; have n0_ := Aside0.mk (Kd.R_below (by (with_reducible repeat (first | apply Kd.R_alloc | apply Kd.R_drewN | apply Kd.R_drew)); exact HO_3.out) hb); have n1_ := Aside0.mk (blk_below (g := gb204) (o := .cells #[.string ((rd_T36 l0 x37_1).f0), .int .i64 ((rd_T36 l0 x37_1).f1.f0), .int .i64 ((rd_T36 l0 x37_1).f1.f1), .int .i64 ((rd_T36 l0 x37_1).f1.f2), .int .i64 ((rd_T36 l0 x37_1).f1.f3), .int .i64 ((rd_T36 l0 x37_1).f1.f4), .string ((rd_T36 l0 x37_1).f2)] 36 (0, 0)) (by (with_reducible repeat (first | refine blk_drewN ?_ _ | refine blk_drew ?_ | refine blk_alloc ?_ _)); exact BK204.out) hb); have n2_ := Aside0.mk (blk_below (g := gb205) (o := .cells #[.int .i64 ((rd_T36 l0 x37_1).f1.f0), .int .i64 ((rd_T36 l0 x37_1).f1.f1), .int .i64 ((rd_T36 l0 x37_1).f1.f2), .int .i64 ((rd_T36 l0 x37_1).f1.f3), .int .i64 ((rd_T36 l0 x37_1).f1.f4)] 34 (0, 0)) (by (with_reducible repeat (first | refine blk_drewN ?_ _ | refine blk_drew ?_ | refine blk_alloc ?_ _)); exact BK205.out) hb); have n3_ := Aside0.mk (below_step (by repeat (first | (with_reducible first | exact HB.out | apply below_alloc | apply pw_below_drewN | apply below_drew1 | refine below_set ?_ GE204.out | refine below_set ?_ GE205.out) | exact HB.out)) hb); clear HO_3; clear BK204; clear BK205; clear HB; have HO_3 := n0_; have BK204 := n1_; have BK205 := n2_; have HB := n3_; clear n0_ n1_ n2_ n3_; (try clear hb); (try clear hb2); (try clear hk); (try clear hi); have p210 : 0 ≤ (x37_1 : Int) := of_decide_eq_true (by first | (with_reducible assumption) | assumption); have q210 : x37_1 < (t196.length : Int) := of_decide_eq_true (by first | (with_reducible assumption) | assumption); obtain ⟨ad210, e210, hx210_0⟩ := Kd.at_int (Kd.R_reads' HO_3.out).2.2 x37_1 p210 q210; cases e210; replace p210 := eq_true p210; replace q210 := eq_true q210))
                                  go_roundg kj12
                                  case measure => have := HK1.out; have := HJ12.out; omega
                                  case rel => exact ⟨(wrap64 (x37_1 + 1)), (by first | rfl | (simp; done) | (simp [*]; done) | (simp; generalize ByteArray.toList _ = z_; cases z_ <;> first | rfl | simp)), H', ⟨by have := HK1.out; have := HJ12.out; omega⟩, ⟨by (with_reducible repeat (first | apply Kd.R_alloc | apply Kd.R_drewN | apply Kd.R_drew)); exact HO_3.out⟩, ⟨by repeat (first | (with_reducible first | exact HB.out | apply below_alloc | apply pw_below_drewN | apply below_drew1 | refine below_set ?_ GE204.out | refine below_set ?_ GE205.out) | exact HB.out)⟩⟩
                                · rw [if_neg c33] at H
                                  have c33b0 : (t208 == (rd t196 x37_1)) = false := beq_eq_false_iff_ne.mpr c33
                                  have c33b1 : (t208 != (rd t196 x37_1)) = true := bne_iff_ne.mpr c33
                                  obtain rfl := Option.some.inj H
                                  have hnb40 := NB204_205.out
                                  have hnc40 := NB205_204.out
                                  have hcz41_0 : wc.cell? ⟨gb204, 0, none⟩ = some (.string ((rd_T36 l0 x37_1).f0)) := (blk_cell BK204.out 0).trans rfl
                                  have hcz41_1 : wc.cell? ⟨gb204, 1, none⟩ = some (.int .i64 ((rd_T36 l0 x37_1).f1.f0)) := (blk_cell BK204.out 1).trans rfl
                                  have hcz41_2 : wc.cell? ⟨gb204, 2, none⟩ = some (.int .i64 ((rd_T36 l0 x37_1).f1.f1)) := (blk_cell BK204.out 2).trans rfl
                                  have hcz41_3 : wc.cell? ⟨gb204, 3, none⟩ = some (.int .i64 ((rd_T36 l0 x37_1).f1.f2)) := (blk_cell BK204.out 3).trans rfl
                                  have hcz41_4 : wc.cell? ⟨gb204, 4, none⟩ = some (.int .i64 ((rd_T36 l0 x37_1).f1.f3)) := (blk_cell BK204.out 4).trans rfl
                                  have hcz41_5 : wc.cell? ⟨gb204, 5, none⟩ = some (.int .i64 ((rd_T36 l0 x37_1).f1.f4)) := (blk_cell BK204.out 5).trans rfl
                                  have hcz41_6 : wc.cell? ⟨gb204, 6, none⟩ = some (.string ((rd_T36 l0 x37_1).f2)) := (blk_cell BK204.out 6).trans rfl
                                  have hfz41_0 := blk_frozen BK204.out 0
                                  have hfz41_1 := blk_frozen BK204.out 1
                                  have hfz41_2 := blk_frozen BK204.out 2
                                  have hfz41_3 := blk_frozen BK204.out 3
                                  have hfz41_4 := blk_frozen BK204.out 4
                                  have hfz41_5 := blk_frozen BK204.out 5
                                  have hfz41_6 := blk_frozen BK204.out 6
                                  go_wp2_with (first | (go_at_call 13; (with_reducible refine (asm_Labels.calls kj12 _ _ l0 ((rd_T36 l0 x37_1).f2) t207 _ ?side1 ?side2 A27.out).mono ?_); (case side1 => repeat (first | exact (Kd.C_below HR0.out HB.out) | (with_reducible refine Kd.C_alloc ?_ _) | (with_reducible refine Kd.C_drewN ?_ _) | (with_reducible refine Kd.C_drew ?_))); (case side2 => exact HC0.out); rintro e w42 ⟨rfl, hb⟩; have n0_ := Aside0.mk (Kd.R_below (by (with_reducible repeat (first | apply Kd.R_alloc | apply Kd.R_drewN | apply Kd.R_drew)); exact HO_3.out) hb); have n1_ := Aside0.mk (blk_below (g := gb204) (o := .cells #[.string ((rd_T36 l0 x37_1).f0), .int .i64 ((rd_T36 l0 x37_1).f1.f0), .int .i64 ((rd_T36 l0 x37_1).f1.f1), .int .i64 ((rd_T36 l0 x37_1).f1.f2), .int .i64 ((rd_T36 l0 x37_1).f1.f3), .int .i64 ((rd_T36 l0 x37_1).f1.f4), .string ((rd_T36 l0 x37_1).f2)] 36 (0, 0)) (by (with_reducible repeat (first | refine blk_drewN ?_ _ | refine blk_drew ?_ | refine blk_alloc ?_ _)); exact BK204.out) hb); have n2_ := Aside0.mk (blk_below (g := gb205) (o := .cells #[.int .i64 ((rd_T36 l0 x37_1).f1.f0), .int .i64 ((rd_T36 l0 x37_1).f1.f1), .int .i64 ((rd_T36 l0 x37_1).f1.f2), .int .i64 ((rd_T36 l0 x37_1).f1.f3), .int .i64 ((rd_T36 l0 x37_1).f1.f4)] 34 (0, 0)) (by (with_reducible repeat (first | refine blk_drewN ?_ _ | refine blk_drew ?_ | refine blk_alloc ?_ _)); exact BK205.out) hb); have n3_ := Aside0.mk (below_step (by repeat (first | (with_reducible first | exact HB.out | apply below_alloc | apply pw_below_drewN | apply below_drew1 | refine below_set ?_ GE204.out | refine below_set ?_ GE205.out) | exact HB.out)) hb); clear HO_3; clear BK204; clear BK205; clear HB; have HO_3 := n0_; have BK204 := n1_; have BK205 := n2_; have HB := n3_; clear n0_ n1_ n2_ n3_; (try clear hb); (try clear hb2); (try clear hk); (try clear hi); have hcz43_0 : w42.cell? ⟨gb204, 0, none⟩ = some (.string ((rd_T36 l0 x37_1).f0)) := (blk_cell BK204.out 0).trans rfl; have hcz43_1 : w42.cell? ⟨gb204, 1, none⟩ = some (.int .i64 ((rd_T36 l0 x37_1).f1.f0)) := (blk_cell BK204.out 1).trans rfl; have hcz43_2 : w42.cell? ⟨gb204, 2, none⟩ = some (.int .i64 ((rd_T36 l0 x37_1).f1.f1)) := (blk_cell BK204.out 2).trans rfl; have hcz43_3 : w42.cell? ⟨gb204, 3, none⟩ = some (.int .i64 ((rd_T36 l0 x37_1).f1.f2)) := (blk_cell BK204.out 3).trans rfl; have hcz43_4 : w42.cell? ⟨gb204, 4, none⟩ = some (.int .i64 ((rd_T36 l0 x37_1).f1.f3)) := (blk_cell BK204.out 4).trans rfl; have hcz43_5 : w42.cell? ⟨gb204, 5, none⟩ = some (.int .i64 ((rd_T36 l0 x37_1).f1.f4)) := (blk_cell BK204.out 5).trans rfl; have hcz43_6 : w42.cell? ⟨gb204, 6, none⟩ = some (.string ((rd_T36 l0 x37_1).f2)) := (blk_cell BK204.out 6).trans rfl; have hfz43_0 := blk_frozen BK204.out 0; have hfz43_1 := blk_frozen BK204.out 1; have hfz43_2 := blk_frozen BK204.out 2; have hfz43_3 := blk_frozen BK204.out 3; have hfz43_4 := blk_frozen BK204.out 4; have hfz43_5 := blk_frozen BK204.out 5; have hfz43_6 := blk_frozen BK204.out 6; have hcz44_0 : w42.cell? ⟨gb205, 0, none⟩ = some (.int .i64 ((rd_T36 l0 x37_1).f1.f0)) := (blk_cell BK205.out 0).trans rfl; have hcz44_1 : w42.cell? ⟨gb205, 1, none⟩ = some (.int .i64 ((rd_T36 l0 x37_1).f1.f1)) := (blk_cell BK205.out 1).trans rfl; have hcz44_2 : w42.cell? ⟨gb205, 2, none⟩ = some (.int .i64 ((rd_T36 l0 x37_1).f1.f2)) := (blk_cell BK205.out 2).trans rfl; have hcz44_3 : w42.cell? ⟨gb205, 3, none⟩ = some (.int .i64 ((rd_T36 l0 x37_1).f1.f3)) := (blk_cell BK205.out 3).trans rfl; have hcz44_4 : w42.cell? ⟨gb205, 4, none⟩ = some (.int .i64 ((rd_T36 l0 x37_1).f1.f4)) := (blk_cell BK205.out 4).trans rfl; have hfz44_0 := blk_frozen BK205.out 0; have hfz44_1 := blk_frozen BK205.out 1; have hfz44_2 := blk_frozen BK205.out 2; have hfz44_3 := blk_frozen BK205.out 3; have hfz44_4 := blk_frozen BK205.out 4) | (go_at_call 16; (with_reducible refine (isa_Put.calls ((rd_T36 l0 x37_1).f1.f0) ((rd_T36 l0 x37_1).f1.f1) ((rd_T36 l0 x37_1).f1.f2) ((rd_T36 l0 x37_1).f1.f3) ((rd_T36 l0 x37_1).f1.f4) t208 t209 _ A29.out).mono ?_); rintro e w45 ⟨rfl, hb⟩; have n0_ := Aside0.mk (Kd.R_below (by (with_reducible repeat (first | apply Kd.R_alloc | apply Kd.R_drewN | apply Kd.R_drew)); exact HO_3.out) hb); have n1_ := Aside0.mk (blk_below (g := gb204) (o := .cells #[.string ((rd_T36 l0 x37_1).f0), .int .i64 ((rd_T36 l0 x37_1).f1.f0), .int .i64 ((rd_T36 l0 x37_1).f1.f1), .int .i64 ((rd_T36 l0 x37_1).f1.f2), .int .i64 ((rd_T36 l0 x37_1).f1.f3), .int .i64 ((rd_T36 l0 x37_1).f1.f4), .string ((rd_T36 l0 x37_1).f2)] 36 (0, 0)) (by (with_reducible repeat (first | refine blk_drewN ?_ _ | refine blk_drew ?_ | refine blk_alloc ?_ _)); exact BK204.out) hb); have n2_ := Aside0.mk (blk_below (g := gb205) (o := .cells #[.int .i64 ((rd_T36 l0 x37_1).f1.f0), .int .i64 ((rd_T36 l0 x37_1).f1.f1), .int .i64 ((rd_T36 l0 x37_1).f1.f2), .int .i64 ((rd_T36 l0 x37_1).f1.f3), .int .i64 ((rd_T36 l0 x37_1).f1.f4)] 34 (0, 0)) (by (with_reducible repeat (first | refine blk_drewN ?_ _ | refine blk_drew ?_ | refine blk_alloc ?_ _)); exact BK205.out) hb); have n3_ := Aside0.mk (below_step (by repeat (first | (with_reducible first | exact HB.out | apply below_alloc | apply pw_below_drewN | apply below_drew1 | refine below_set ?_ GE204.out | refine below_set ?_ GE205.out) | exact HB.out)) hb); clear HO_3; clear BK204; clear BK205; clear HB; have HO_3 := n0_; have BK204 := n1_; have BK205 := n2_; have HB := n3_; clear n0_ n1_ n2_ n3_; (try clear hb); (try clear hb2); (try clear hk); (try clear hi); have p210 : 0 ≤ (x37_1 : Int) := of_decide_eq_true (by first | (with_reducible assumption) | assumption); have q210 : x37_1 < (t196.length : Int) := of_decide_eq_true (by first | (with_reducible assumption) | assumption); obtain ⟨ad210, e210, hx210_0⟩ := Kd.at_int (Kd.R_reads' HO_3.out).2.2 x37_1 p210 q210; cases e210; replace p210 := eq_true p210; replace q210 := eq_true q210))
                                  go_ret
                                  exact ⟨by first | rfl | (simp [errW_none, errW_some] <;> rfl) | (simp [*, errW_none, errW_some] <;> rfl), by repeat (first | (with_reducible first | exact HB.out | apply below_alloc | apply pw_below_drewN | apply below_drew1 | refine below_set ?_ GE204.out | refine below_set ?_ GE205.out) | exact HB.out)⟩
                              · rw [if_neg c32] at H
                                exact absurd H (by simp)
                            · rw [if_neg c31] at H
                              exact absurd H (by simp)
                          · rw [if_neg c30] at H
                            have c30b0 : (t209 == 0) = false := beq_eq_false_iff_ne.mpr c30
                            have c30b1 : (t209 != 0) = true := bne_iff_ne.mpr c30
                            obtain rfl := Option.some.inj H
                            have hnb46 := NB204_205.out
                            have hnc46 := NB205_204.out
                            have hcz47_0 : wc.cell? ⟨gb204, 0, none⟩ = some (.string ((rd_T36 l0 x37_1).f0)) := (blk_cell BK204.out 0).trans rfl
                            have hcz47_1 : wc.cell? ⟨gb204, 1, none⟩ = some (.int .i64 ((rd_T36 l0 x37_1).f1.f0)) := (blk_cell BK204.out 1).trans rfl
                            have hcz47_2 : wc.cell? ⟨gb204, 2, none⟩ = some (.int .i64 ((rd_T36 l0 x37_1).f1.f1)) := (blk_cell BK204.out 2).trans rfl
                            have hcz47_3 : wc.cell? ⟨gb204, 3, none⟩ = some (.int .i64 ((rd_T36 l0 x37_1).f1.f2)) := (blk_cell BK204.out 3).trans rfl
                            have hcz47_4 : wc.cell? ⟨gb204, 4, none⟩ = some (.int .i64 ((rd_T36 l0 x37_1).f1.f3)) := (blk_cell BK204.out 4).trans rfl
                            have hcz47_5 : wc.cell? ⟨gb204, 5, none⟩ = some (.int .i64 ((rd_T36 l0 x37_1).f1.f4)) := (blk_cell BK204.out 5).trans rfl
                            have hcz47_6 : wc.cell? ⟨gb204, 6, none⟩ = some (.string ((rd_T36 l0 x37_1).f2)) := (blk_cell BK204.out 6).trans rfl
                            have hfz47_0 := blk_frozen BK204.out 0
                            have hfz47_1 := blk_frozen BK204.out 1
                            have hfz47_2 := blk_frozen BK204.out 2
                            have hfz47_3 := blk_frozen BK204.out 3
                            have hfz47_4 := blk_frozen BK204.out 4
                            have hfz47_5 := blk_frozen BK204.out 5
                            have hfz47_6 := blk_frozen BK204.out 6
                            go_wp2_with (first | (go_at_call 13; (with_reducible refine (asm_Labels.calls kj12 _ _ l0 ((rd_T36 l0 x37_1).f2) t207 _ ?side1 ?side2 A27.out).mono ?_); (case side1 => repeat (first | exact (Kd.C_below HR0.out HB.out) | (with_reducible refine Kd.C_alloc ?_ _) | (with_reducible refine Kd.C_drewN ?_ _) | (with_reducible refine Kd.C_drew ?_))); (case side2 => exact HC0.out); rintro e w48 ⟨rfl, hb⟩; have n0_ := Aside0.mk (Kd.R_below (by (with_reducible repeat (first | apply Kd.R_alloc | apply Kd.R_drewN | apply Kd.R_drew)); exact HO_3.out) hb); have n1_ := Aside0.mk (blk_below (g := gb204) (o := .cells #[.string ((rd_T36 l0 x37_1).f0), .int .i64 ((rd_T36 l0 x37_1).f1.f0), .int .i64 ((rd_T36 l0 x37_1).f1.f1), .int .i64 ((rd_T36 l0 x37_1).f1.f2), .int .i64 ((rd_T36 l0 x37_1).f1.f3), .int .i64 ((rd_T36 l0 x37_1).f1.f4), .string ((rd_T36 l0 x37_1).f2)] 36 (0, 0)) (by (with_reducible repeat (first | refine blk_drewN ?_ _ | refine blk_drew ?_ | refine blk_alloc ?_ _)); exact BK204.out) hb); have n2_ := Aside0.mk (blk_below (g := gb205) (o := .cells #[.int .i64 ((rd_T36 l0 x37_1).f1.f0), .int .i64 ((rd_T36 l0 x37_1).f1.f1), .int .i64 ((rd_T36 l0 x37_1).f1.f2), .int .i64 ((rd_T36 l0 x37_1).f1.f3), .int .i64 ((rd_T36 l0 x37_1).f1.f4)] 34 (0, 0)) (by (with_reducible repeat (first | refine blk_drewN ?_ _ | refine blk_drew ?_ | refine blk_alloc ?_ _)); exact BK205.out) hb); have n3_ := Aside0.mk (below_step (by repeat (first | (with_reducible first | exact HB.out | apply below_alloc | apply pw_below_drewN | apply below_drew1 | refine below_set ?_ GE204.out | refine below_set ?_ GE205.out) | exact HB.out)) hb); clear HO_3; clear BK204; clear BK205; clear HB; have HO_3 := n0_; have BK204 := n1_; have BK205 := n2_; have HB := n3_; clear n0_ n1_ n2_ n3_; (try clear hb); (try clear hb2); (try clear hk); (try clear hi); have hcz49_0 : w48.cell? ⟨gb204, 0, none⟩ = some (.string ((rd_T36 l0 x37_1).f0)) := (blk_cell BK204.out 0).trans rfl; have hcz49_1 : w48.cell? ⟨gb204, 1, none⟩ = some (.int .i64 ((rd_T36 l0 x37_1).f1.f0)) := (blk_cell BK204.out 1).trans rfl; have hcz49_2 : w48.cell? ⟨gb204, 2, none⟩ = some (.int .i64 ((rd_T36 l0 x37_1).f1.f1)) := (blk_cell BK204.out 2).trans rfl; have hcz49_3 : w48.cell? ⟨gb204, 3, none⟩ = some (.int .i64 ((rd_T36 l0 x37_1).f1.f2)) := (blk_cell BK204.out 3).trans rfl; have hcz49_4 : w48.cell? ⟨gb204, 4, none⟩ = some (.int .i64 ((rd_T36 l0 x37_1).f1.f3)) := (blk_cell BK204.out 4).trans rfl; have hcz49_5 : w48.cell? ⟨gb204, 5, none⟩ = some (.int .i64 ((rd_T36 l0 x37_1).f1.f4)) := (blk_cell BK204.out 5).trans rfl; have hcz49_6 : w48.cell? ⟨gb204, 6, none⟩ = some (.string ((rd_T36 l0 x37_1).f2)) := (blk_cell BK204.out 6).trans rfl; have hfz49_0 := blk_frozen BK204.out 0; have hfz49_1 := blk_frozen BK204.out 1; have hfz49_2 := blk_frozen BK204.out 2; have hfz49_3 := blk_frozen BK204.out 3; have hfz49_4 := blk_frozen BK204.out 4; have hfz49_5 := blk_frozen BK204.out 5; have hfz49_6 := blk_frozen BK204.out 6; have hcz50_0 : w48.cell? ⟨gb205, 0, none⟩ = some (.int .i64 ((rd_T36 l0 x37_1).f1.f0)) := (blk_cell BK205.out 0).trans rfl; have hcz50_1 : w48.cell? ⟨gb205, 1, none⟩ = some (.int .i64 ((rd_T36 l0 x37_1).f1.f1)) := (blk_cell BK205.out 1).trans rfl; have hcz50_2 : w48.cell? ⟨gb205, 2, none⟩ = some (.int .i64 ((rd_T36 l0 x37_1).f1.f2)) := (blk_cell BK205.out 2).trans rfl; have hcz50_3 : w48.cell? ⟨gb205, 3, none⟩ = some (.int .i64 ((rd_T36 l0 x37_1).f1.f3)) := (blk_cell BK205.out 3).trans rfl; have hcz50_4 : w48.cell? ⟨gb205, 4, none⟩ = some (.int .i64 ((rd_T36 l0 x37_1).f1.f4)) := (blk_cell BK205.out 4).trans rfl; have hfz50_0 := blk_frozen BK205.out 0; have hfz50_1 := blk_frozen BK205.out 1; have hfz50_2 := blk_frozen BK205.out 2; have hfz50_3 := blk_frozen BK205.out 3; have hfz50_4 := blk_frozen BK205.out 4) | (go_at_call 16; (with_reducible refine (isa_Put.calls ((rd_T36 l0 x37_1).f1.f0) ((rd_T36 l0 x37_1).f1.f1) ((rd_T36 l0 x37_1).f1.f2) ((rd_T36 l0 x37_1).f1.f3) ((rd_T36 l0 x37_1).f1.f4) t208 t209 _ A29.out).mono ?_); rintro e w51 ⟨rfl, hb⟩; have n0_ := Aside0.mk (Kd.R_below (by (with_reducible repeat (first | apply Kd.R_alloc | apply Kd.R_drewN | apply Kd.R_drew)); exact HO_3.out) hb); have n1_ := Aside0.mk (blk_below (g := gb204) (o := .cells #[.string ((rd_T36 l0 x37_1).f0), .int .i64 ((rd_T36 l0 x37_1).f1.f0), .int .i64 ((rd_T36 l0 x37_1).f1.f1), .int .i64 ((rd_T36 l0 x37_1).f1.f2), .int .i64 ((rd_T36 l0 x37_1).f1.f3), .int .i64 ((rd_T36 l0 x37_1).f1.f4), .string ((rd_T36 l0 x37_1).f2)] 36 (0, 0)) (by (with_reducible repeat (first | refine blk_drewN ?_ _ | refine blk_drew ?_ | refine blk_alloc ?_ _)); exact BK204.out) hb); have n2_ := Aside0.mk (blk_below (g := gb205) (o := .cells #[.int .i64 ((rd_T36 l0 x37_1).f1.f0), .int .i64 ((rd_T36 l0 x37_1).f1.f1), .int .i64 ((rd_T36 l0 x37_1).f1.f2), .int .i64 ((rd_T36 l0 x37_1).f1.f3), .int .i64 ((rd_T36 l0 x37_1).f1.f4)] 34 (0, 0)) (by (with_reducible repeat (first | refine blk_drewN ?_ _ | refine blk_drew ?_ | refine blk_alloc ?_ _)); exact BK205.out) hb); have n3_ := Aside0.mk (below_step (by repeat (first | (with_reducible first | exact HB.out | apply below_alloc | apply pw_below_drewN | apply below_drew1 | refine below_set ?_ GE204.out | refine below_set ?_ GE205.out) | exact HB.out)) hb); clear HO_3; clear BK204; clear BK205; clear HB; have HO_3 := n0_; have BK204 := n1_; have BK205 := n2_; have HB := n3_; clear n0_ n1_ n2_ n3_; (try clear hb); (try clear hb2); (try clear hk); (try clear hi)))
                            go_ret
                            exact ⟨by first | rfl | (simp [errW_none, errW_some] <;> rfl) | (simp [*, errW_none, errW_some] <;> rfl), by repeat (first | (with_reducible first | exact HB.out | apply below_alloc | apply pw_below_drewN | apply below_drew1 | refine below_set ?_ GE204.out | refine below_set ?_ GE205.out) | exact HB.out)⟩
                        · rw [if_neg c28] at H
                          have c28b0 : (((rd_T36 l0 x37_1).f2).toList == ([] : List UInt8)) = false := beq_eq_false_iff_ne.mpr c28
                          have c28b1 : (((rd_T36 l0 x37_1).f2).toList != ([] : List UInt8)) = true := bne_iff_ne.mpr c28
                          have HC52 := Aside0.mk H
                          clear H
                          have hnb53 := NB204_205.out
                          have hnc53 := NB205_204.out
                          have hcz54_0 : wc.cell? ⟨gb204, 0, none⟩ = some (.string ((rd_T36 l0 x37_1).f0)) := (blk_cell BK204.out 0).trans rfl
                          have hcz54_1 : wc.cell? ⟨gb204, 1, none⟩ = some (.int .i64 ((rd_T36 l0 x37_1).f1.f0)) := (blk_cell BK204.out 1).trans rfl
                          have hcz54_2 : wc.cell? ⟨gb204, 2, none⟩ = some (.int .i64 ((rd_T36 l0 x37_1).f1.f1)) := (blk_cell BK204.out 2).trans rfl
                          have hcz54_3 : wc.cell? ⟨gb204, 3, none⟩ = some (.int .i64 ((rd_T36 l0 x37_1).f1.f2)) := (blk_cell BK204.out 3).trans rfl
                          have hcz54_4 : wc.cell? ⟨gb204, 4, none⟩ = some (.int .i64 ((rd_T36 l0 x37_1).f1.f3)) := (blk_cell BK204.out 4).trans rfl
                          have hcz54_5 : wc.cell? ⟨gb204, 5, none⟩ = some (.int .i64 ((rd_T36 l0 x37_1).f1.f4)) := (blk_cell BK204.out 5).trans rfl
                          have hcz54_6 : wc.cell? ⟨gb204, 6, none⟩ = some (.string ((rd_T36 l0 x37_1).f2)) := (blk_cell BK204.out 6).trans rfl
                          have hfz54_0 := blk_frozen BK204.out 0
                          have hfz54_1 := blk_frozen BK204.out 1
                          have hfz54_2 := blk_frozen BK204.out 2
                          have hfz54_3 := blk_frozen BK204.out 3
                          have hfz54_4 := blk_frozen BK204.out 4
                          have hfz54_5 := blk_frozen BK204.out 5
                          have hfz54_6 := blk_frozen BK204.out 6
                          go_upto_if 69 with (first | (go_at_call 13; (with_reducible refine (asm_Labels.calls kj12 _ _ l0 ((rd_T36 l0 x37_1).f2) t207 _ ?side1 ?side2 A27.out).mono ?_); (case side1 => repeat (first | exact (Kd.C_below HR0.out HB.out) | (with_reducible refine Kd.C_alloc ?_ _) | (with_reducible refine Kd.C_drewN ?_ _) | (with_reducible refine Kd.C_drew ?_))); (case side2 => exact HC0.out); rintro e w55 ⟨rfl, hb⟩; have n0_ := Aside0.mk (Kd.R_below (by (with_reducible repeat (first | apply Kd.R_alloc | apply Kd.R_drewN | apply Kd.R_drew)); exact HO_3.out) hb); have n1_ := Aside0.mk (blk_below (g := gb204) (o := .cells #[.string ((rd_T36 l0 x37_1).f0), .int .i64 ((rd_T36 l0 x37_1).f1.f0), .int .i64 ((rd_T36 l0 x37_1).f1.f1), .int .i64 ((rd_T36 l0 x37_1).f1.f2), .int .i64 ((rd_T36 l0 x37_1).f1.f3), .int .i64 ((rd_T36 l0 x37_1).f1.f4), .string ((rd_T36 l0 x37_1).f2)] 36 (0, 0)) (by (with_reducible repeat (first | refine blk_drewN ?_ _ | refine blk_drew ?_ | refine blk_alloc ?_ _)); exact BK204.out) hb); have n2_ := Aside0.mk (blk_below (g := gb205) (o := .cells #[.int .i64 ((rd_T36 l0 x37_1).f1.f0), .int .i64 ((rd_T36 l0 x37_1).f1.f1), .int .i64 ((rd_T36 l0 x37_1).f1.f2), .int .i64 ((rd_T36 l0 x37_1).f1.f3), .int .i64 ((rd_T36 l0 x37_1).f1.f4)] 34 (0, 0)) (by (with_reducible repeat (first | refine blk_drewN ?_ _ | refine blk_drew ?_ | refine blk_alloc ?_ _)); exact BK205.out) hb); have n3_ := Aside0.mk (below_step (by repeat (first | (with_reducible first | exact HB.out | apply below_alloc | apply pw_below_drewN | apply below_drew1 | refine below_set ?_ GE204.out | refine below_set ?_ GE205.out) | exact HB.out)) hb); clear HO_3; clear BK204; clear BK205; clear HB; have HO_3 := n0_; have BK204 := n1_; have BK205 := n2_; have HB := n3_; clear n0_ n1_ n2_ n3_; (try clear hb); (try clear hb2); (try clear hk); (try clear hi); have hcz56_0 : w55.cell? ⟨gb204, 0, none⟩ = some (.string ((rd_T36 l0 x37_1).f0)) := (blk_cell BK204.out 0).trans rfl; have hcz56_1 : w55.cell? ⟨gb204, 1, none⟩ = some (.int .i64 ((rd_T36 l0 x37_1).f1.f0)) := (blk_cell BK204.out 1).trans rfl; have hcz56_2 : w55.cell? ⟨gb204, 2, none⟩ = some (.int .i64 ((rd_T36 l0 x37_1).f1.f1)) := (blk_cell BK204.out 2).trans rfl; have hcz56_3 : w55.cell? ⟨gb204, 3, none⟩ = some (.int .i64 ((rd_T36 l0 x37_1).f1.f2)) := (blk_cell BK204.out 3).trans rfl; have hcz56_4 : w55.cell? ⟨gb204, 4, none⟩ = some (.int .i64 ((rd_T36 l0 x37_1).f1.f3)) := (blk_cell BK204.out 4).trans rfl; have hcz56_5 : w55.cell? ⟨gb204, 5, none⟩ = some (.int .i64 ((rd_T36 l0 x37_1).f1.f4)) := (blk_cell BK204.out 5).trans rfl; have hcz56_6 : w55.cell? ⟨gb204, 6, none⟩ = some (.string ((rd_T36 l0 x37_1).f2)) := (blk_cell BK204.out 6).trans rfl; have hfz56_0 := blk_frozen BK204.out 0; have hfz56_1 := blk_frozen BK204.out 1; have hfz56_2 := blk_frozen BK204.out 2; have hfz56_3 := blk_frozen BK204.out 3; have hfz56_4 := blk_frozen BK204.out 4; have hfz56_5 := blk_frozen BK204.out 5; have hfz56_6 := blk_frozen BK204.out 6; have hcz57_0 : w55.cell? ⟨gb205, 0, none⟩ = some (.int .i64 ((rd_T36 l0 x37_1).f1.f0)) := (blk_cell BK205.out 0).trans rfl; have hcz57_1 : w55.cell? ⟨gb205, 1, none⟩ = some (.int .i64 ((rd_T36 l0 x37_1).f1.f1)) := (blk_cell BK205.out 1).trans rfl; have hcz57_2 : w55.cell? ⟨gb205, 2, none⟩ = some (.int .i64 ((rd_T36 l0 x37_1).f1.f2)) := (blk_cell BK205.out 2).trans rfl; have hcz57_3 : w55.cell? ⟨gb205, 3, none⟩ = some (.int .i64 ((rd_T36 l0 x37_1).f1.f3)) := (blk_cell BK205.out 3).trans rfl; have hcz57_4 : w55.cell? ⟨gb205, 4, none⟩ = some (.int .i64 ((rd_T36 l0 x37_1).f1.f4)) := (blk_cell BK205.out 4).trans rfl; have hfz57_0 := blk_frozen BK205.out 0; have hfz57_1 := blk_frozen BK205.out 1; have hfz57_2 := blk_frozen BK205.out 2; have hfz57_3 := blk_frozen BK205.out 3; have hfz57_4 := blk_frozen BK205.out 4))
                          (try simp only [Act.put, List.setIfInBounds_toArray, List.set_cons_zero, List.set_cons_succ])
                          go_cut [] (fun wc => ∃ (kq : Nat) (x206004_51 : Int), Aside0 (camletlaw40_AsmWays.j2 kq l0 t196 x37_1 t207 l0 (l0.length : Int) x37_1 ((rd_T36 l0 x37_1).f1.f0) ((rd_T36 l0 x37_1).f1.f1) ((rd_T36 l0 x37_1).f1.f2) ((rd_T36 l0 x37_1).f1.f3) x206004_51 = some r) ∧ Aside0 (kq ≤ kj12) ∧ Aside0 (Kd.R (Kd.int .u32) 37 wc w.heap.size (fun _ => True) (.slice Ao9 t196.length co9) t196) ∧ Aside0 (wc.heap[gb204]? = some (.cells #[.string ((rd_T36 l0 x37_1).f0), .int .i64 ((rd_T36 l0 x37_1).f1.f0), .int .i64 ((rd_T36 l0 x37_1).f1.f1), .int .i64 ((rd_T36 l0 x37_1).f1.f2), .int .i64 ((rd_T36 l0 x37_1).f1.f3), .int .i64 ((rd_T36 l0 x37_1).f1.f4), .string ((rd_T36 l0 x37_1).f2)] 36 (0, 0))) ∧ Aside0 (wc.heap[gb205]? = some (.cells #[.int .i64 ((rd_T36 l0 x37_1).f1.f0), .int .i64 ((rd_T36 l0 x37_1).f1.f1), .int .i64 ((rd_T36 l0 x37_1).f1.f2), .int .i64 ((rd_T36 l0 x37_1).f1.f3), .int .i64 x206004_51] 34 (0, 0))) ∧ Aside0 (Below w.heap.size w wc))
                          case first =>
                            have H := HC52.out
                            clear HC52
                            by_cases c58 : ((rd_T36 l0 x37_1).f1.f0) = 1
                            · rw [if_pos c58] at H
                              have c58b0 : (((rd_T36 l0 x37_1).f1.f0) == 1) = true := beq_iff_eq.mpr c58
                              have c58b1 : (((rd_T36 l0 x37_1).f1.f0) != 1) = false := bne_eq_false_iff_eq.mpr c58
                              clear c58
                              (first | rw [c58b0] | (simp only [i64_w, i32_w]; rw [c58b0]) | skip)
                              have H' := Aside0.mk H
                              clear H
                              have hnb59 := NB205_204.out
                              have hnc59 := NB204_205.out
                              have hcz60_0 : w55.cell? ⟨gb205, 0, none⟩ = some (.int .i64 ((rd_T36 l0 x37_1).f1.f0)) := (blk_cell BK205.out 0).trans rfl
                              have hcz60_1 : w55.cell? ⟨gb205, 1, none⟩ = some (.int .i64 ((rd_T36 l0 x37_1).f1.f1)) := (blk_cell BK205.out 1).trans rfl
                              have hcz60_2 : w55.cell? ⟨gb205, 2, none⟩ = some (.int .i64 ((rd_T36 l0 x37_1).f1.f2)) := (blk_cell BK205.out 2).trans rfl
                              have hcz60_3 : w55.cell? ⟨gb205, 3, none⟩ = some (.int .i64 ((rd_T36 l0 x37_1).f1.f3)) := (blk_cell BK205.out 3).trans rfl
                              have hcz60_4 : w55.cell? ⟨gb205, 4, none⟩ = some (.int .i64 ((rd_T36 l0 x37_1).f1.f4)) := (blk_cell BK205.out 4).trans rfl
                              have hfz60_0 := blk_frozen BK205.out 0
                              have hfz60_1 := blk_frozen BK205.out 1
                              have hfz60_2 := blk_frozen BK205.out 2
                              have hfz60_3 := blk_frozen BK205.out 3
                              have hfz60_4 := blk_frozen BK205.out 4
                              go_wp2
                              go_meet
                              case rel => exact ⟨_, (wrap64 ((wrap64 (2 * t207)) + 1)), H', ⟨by have := HK1.out; have := HJ12.out; first | omega | exact Nat.le_refl _⟩, ⟨by (with_reducible repeat (first | apply Kd.R_alloc | apply Kd.R_drewN | apply Kd.R_drew)); exact Kd.R_mono (Kd.R_far (p := ⟨gb205, 4, none⟩) (Kd.R_far (p := ⟨gb205, 4, none⟩) (Kd.R_types HO_3.out BK205.out (by decide)) (fun _ hk => hk.2) (.int .i64 (wrap64 ((wrap64 (t207 - x37_1)) - 1)))) (fun _ hk => hk.2) (.int .i64 (wrap64 ((wrap64 (2 * t207)) + 1)))) (fun _ hk => trivial)⟩, ⟨by (with_reducible repeat (first | refine blk_drewN ?_ _ | refine blk_drew ?_ | refine blk_alloc ?_ _)); refine blk_far ?_ NB204_205.out _; (with_reducible repeat (first | refine blk_drewN ?_ _ | refine blk_drew ?_ | refine blk_alloc ?_ _)); refine blk_far ?_ NB204_205.out _; (with_reducible repeat (first | refine blk_drewN ?_ _ | refine blk_drew ?_ | refine blk_alloc ?_ _)); exact BK204.out⟩, ⟨by (with_reducible repeat (first | refine blk_drewN ?_ _ | refine blk_drew ?_ | refine blk_alloc ?_ _)); refine blk_put (cs := #[.int .i64 ((rd_T36 l0 x37_1).f1.f0), .int .i64 ((rd_T36 l0 x37_1).f1.f1), .int .i64 ((rd_T36 l0 x37_1).f1.f2), .int .i64 ((rd_T36 l0 x37_1).f1.f3), .int .i64 (wrap64 ((wrap64 (t207 - x37_1)) - 1))]) ?_ 4 _ rfl; (with_reducible repeat (first | refine blk_drewN ?_ _ | refine blk_drew ?_ | refine blk_alloc ?_ _)); refine blk_put (cs := #[.int .i64 ((rd_T36 l0 x37_1).f1.f0), .int .i64 ((rd_T36 l0 x37_1).f1.f1), .int .i64 ((rd_T36 l0 x37_1).f1.f2), .int .i64 ((rd_T36 l0 x37_1).f1.f3), .int .i64 ((rd_T36 l0 x37_1).f1.f4)]) ?_ 4 _ rfl; (with_reducible repeat (first | refine blk_drewN ?_ _ | refine blk_drew ?_ | refine blk_alloc ?_ _)); exact BK205.out⟩, ⟨by repeat (first | (with_reducible first | exact HB.out | apply below_alloc | apply pw_below_drewN | apply below_drew1 | refine below_set ?_ GE204.out | refine below_set ?_ GE205.out) | exact HB.out)⟩⟩
                            · rw [if_neg c58] at H
                              have c58b0 : (((rd_T36 l0 x37_1).f1.f0) == 1) = false := beq_eq_false_iff_ne.mpr c58
                              have c58b1 : (((rd_T36 l0 x37_1).f1.f0) != 1) = true := bne_iff_ne.mpr c58
                              (first | rw [c58b0] | (simp only [i64_w, i32_w]; rw [c58b0]) | skip)
                              have H' := Aside0.mk H
                              clear H
                              go_wp2
                              go_meet
                              case rel => exact ⟨_, (wrap64 ((wrap64 (t207 - x37_1)) - 1)), H', ⟨by have := HK1.out; have := HJ12.out; first | omega | exact Nat.le_refl _⟩, ⟨by (with_reducible repeat (first | apply Kd.R_alloc | apply Kd.R_drewN | apply Kd.R_drew)); exact Kd.R_mono (Kd.R_far (p := ⟨gb205, 4, none⟩) (Kd.R_types HO_3.out BK205.out (by decide)) (fun _ hk => hk.2) (.int .i64 (wrap64 ((wrap64 (t207 - x37_1)) - 1)))) (fun _ hk => trivial)⟩, ⟨by (with_reducible repeat (first | refine blk_drewN ?_ _ | refine blk_drew ?_ | refine blk_alloc ?_ _)); refine blk_far ?_ NB204_205.out _; (with_reducible repeat (first | refine blk_drewN ?_ _ | refine blk_drew ?_ | refine blk_alloc ?_ _)); exact BK204.out⟩, ⟨by (with_reducible repeat (first | refine blk_drewN ?_ _ | refine blk_drew ?_ | refine blk_alloc ?_ _)); refine blk_put (cs := #[.int .i64 ((rd_T36 l0 x37_1).f1.f0), .int .i64 ((rd_T36 l0 x37_1).f1.f1), .int .i64 ((rd_T36 l0 x37_1).f1.f2), .int .i64 ((rd_T36 l0 x37_1).f1.f3), .int .i64 ((rd_T36 l0 x37_1).f1.f4)]) ?_ 4 _ rfl; (with_reducible repeat (first | refine blk_drewN ?_ _ | refine blk_drew ?_ | refine blk_alloc ?_ _)); exact BK205.out⟩, ⟨by repeat (first | (with_reducible first | exact HB.out | apply below_alloc | apply pw_below_drewN | apply below_drew1 | refine below_set ?_ GE204.out | refine below_set ?_ GE205.out) | exact HB.out)⟩⟩
                          case rest =>
                            clear HC52
                            try clear c1
                            try clear c2
                            try clear p2
                            try clear q2
                            try clear hx2
                            try clear c3
                            try clear c4
                            try clear c5
                            try clear c5b0
                            try clear c5b1
                            try clear c6
                            try clear c6b0
                            try clear c6b1
                            try clear c6b2
                            try clear p6
                            try clear c10
                            try clear c10b0
                            try clear c11
                            try clear c11b0
                            try clear c12
                            try clear c12b0
                            try clear c17
                            try clear c19
                            try clear c19b0
                            try clear c19b1
                            try clear c20
                            try clear p20
                            try clear q20
                            try clear hx20
                            try clear p21
                            try clear q21
                            try clear hx21
                            try clear c23
                            try clear c26
                            try clear c28
                            try clear c28b0
                            try clear c28b1
                            try clear c30
                            try clear c30b0
                            try clear c30b1
                            try clear c31
                            try clear c31b0
                            try clear c32
                            try clear c32b0
                            try clear c33
                            try clear c33b0
                            try clear c33b1
                            try clear c34
                            try clear c40
                            try clear c46
                            try clear c53
                            try clear c58
                            try clear c58b0
                            try clear c58b1
                            try clear c59
                            try clear hcz15_0
                            try clear hcz15_1
                            try clear hcz15_2
                            try clear hcz15_3
                            try clear hcz15_4
                            try clear hcz15_5
                            try clear hcz15_6
                            try clear hcz18_0
                            try clear hcz18_1
                            try clear hcz18_2
                            try clear hcz18_3
                            try clear hcz18_4
                            try clear hcz21_0
                            try clear hcz21_1
                            try clear hcz21_2
                            try clear hcz21_3
                            try clear hcz21_4
                            try clear hcz21_5
                            try clear hcz21_6
                            try clear hcz24_0
                            try clear hcz24_1
                            try clear hcz24_2
                            try clear hcz24_3
                            try clear hcz24_4
                            try clear hcz24_5
                            try clear hcz24_6
                            try clear hcz35_0
                            try clear hcz35_1
                            try clear hcz35_2
                            try clear hcz35_3
                            try clear hcz35_4
                            try clear hcz35_5
                            try clear hcz35_6
                            try clear hcz37_0
                            try clear hcz37_1
                            try clear hcz37_2
                            try clear hcz37_3
                            try clear hcz37_4
                            try clear hcz37_5
                            try clear hcz37_6
                            try clear hcz38_0
                            try clear hcz38_1
                            try clear hcz38_2
                            try clear hcz38_3
                            try clear hcz38_4
                            try clear hcz41_0
                            try clear hcz41_1
                            try clear hcz41_2
                            try clear hcz41_3
                            try clear hcz41_4
                            try clear hcz41_5
                            try clear hcz41_6
                            try clear hcz43_0
                            try clear hcz43_1
                            try clear hcz43_2
                            try clear hcz43_3
                            try clear hcz43_4
                            try clear hcz43_5
                            try clear hcz43_6
                            try clear hcz44_0
                            try clear hcz44_1
                            try clear hcz44_2
                            try clear hcz44_3
                            try clear hcz44_4
                            try clear hcz47_0
                            try clear hcz47_1
                            try clear hcz47_2
                            try clear hcz47_3
                            try clear hcz47_4
                            try clear hcz47_5
                            try clear hcz47_6
                            try clear hcz49_0
                            try clear hcz49_1
                            try clear hcz49_2
                            try clear hcz49_3
                            try clear hcz49_4
                            try clear hcz49_5
                            try clear hcz49_6
                            try clear hcz50_0
                            try clear hcz50_1
                            try clear hcz50_2
                            try clear hcz50_3
                            try clear hcz50_4
                            try clear hcz54_0
                            try clear hcz54_1
                            try clear hcz54_2
                            try clear hcz54_3
                            try clear hcz54_4
                            try clear hcz54_5
                            try clear hcz54_6
                            try clear hcz56_0
                            try clear hcz56_1
                            try clear hcz56_2
                            try clear hcz56_3
                            try clear hcz56_4
                            try clear hcz56_5
                            try clear hcz56_6
                            try clear hcz57_0
                            try clear hcz57_1
                            try clear hcz57_2
                            try clear hcz57_3
                            try clear hcz57_4
                            try clear hcz60_0
                            try clear hcz60_1
                            try clear hcz60_2
                            try clear hcz60_3
                            try clear hcz60_4
                            try clear hfz15_0
                            try clear hfz15_1
                            try clear hfz15_2
                            try clear hfz15_3
                            try clear hfz15_4
                            try clear hfz15_5
                            try clear hfz15_6
                            try clear hfz18_0
                            try clear hfz18_1
                            try clear hfz18_2
                            try clear hfz18_3
                            try clear hfz18_4
                            try clear hfz21_0
                            try clear hfz21_1
                            try clear hfz21_2
                            try clear hfz21_3
                            try clear hfz21_4
                            try clear hfz21_5
                            try clear hfz21_6
                            try clear hfz24_0
                            try clear hfz24_1
                            try clear hfz24_2
                            try clear hfz24_3
                            try clear hfz24_4
                            try clear hfz24_5
                            try clear hfz24_6
                            try clear hfz35_0
                            try clear hfz35_1
                            try clear hfz35_2
                            try clear hfz35_3
                            try clear hfz35_4
                            try clear hfz35_5
                            try clear hfz35_6
                            try clear hfz37_0
                            try clear hfz37_1
                            try clear hfz37_2
                            try clear hfz37_3
                            try clear hfz37_4
                            try clear hfz37_5
                            try clear hfz37_6
                            try clear hfz38_0
                            try clear hfz38_1
                            try clear hfz38_2
                            try clear hfz38_3
                            try clear hfz38_4
                            try clear hfz41_0
                            try clear hfz41_1
                            try clear hfz41_2
                            try clear hfz41_3
                            try clear hfz41_4
                            try clear hfz41_5
                            try clear hfz41_6
                            try clear hfz43_0
                            try clear hfz43_1
                            try clear hfz43_2
                            try clear hfz43_3
                            try clear hfz43_4
                            try clear hfz43_5
                            try clear hfz43_6
                            try clear hfz44_0
                            try clear hfz44_1
                            try clear hfz44_2
                            try clear hfz44_3
                            try clear hfz44_4
                            try clear hfz47_0
                            try clear hfz47_1
                            try clear hfz47_2
                            try clear hfz47_3
                            try clear hfz47_4
                            try clear hfz47_5
                            try clear hfz47_6
                            try clear hfz49_0
                            try clear hfz49_1
                            try clear hfz49_2
                            try clear hfz49_3
                            try clear hfz49_4
                            try clear hfz49_5
                            try clear hfz49_6
                            try clear hfz50_0
                            try clear hfz50_1
                            try clear hfz50_2
                            try clear hfz50_3
                            try clear hfz50_4
                            try clear hfz54_0
                            try clear hfz54_1
                            try clear hfz54_2
                            try clear hfz54_3
                            try clear hfz54_4
                            try clear hfz54_5
                            try clear hfz54_6
                            try clear hfz56_0
                            try clear hfz56_1
                            try clear hfz56_2
                            try clear hfz56_3
                            try clear hfz56_4
                            try clear hfz56_5
                            try clear hfz56_6
                            try clear hfz57_0
                            try clear hfz57_1
                            try clear hfz57_2
                            try clear hfz57_3
                            try clear hfz57_4
                            try clear hfz60_0
                            try clear hfz60_1
                            try clear hfz60_2
                            try clear hfz60_3
                            try clear hfz60_4
                            try clear hx203_0
                            try clear hx203_1
                            try clear hx203_2
                            try clear hx203_3
                            try clear hx203_4
                            try clear hx203_5
                            try clear hx203_6
                            try clear hx210_0
                            try clear p2
                            try clear p20
                            try clear p203
                            try clear p210
                            try clear q2
                            try clear q20
                            try clear q203
                            try clear q210
                            obtain ⟨kq, x206004_51, HA, HJ51, HO_3, BK204, BK205, HB⟩ := hcut
                            cases kq with
                            | zero => exact absurd HA.out (by simp [camletlaw40_AsmWays.j2])
                            | succ kj51 =>
                              have H := HA.out
                              clear HA
                              simp only [camletlaw40_AsmWays.j2] at H
                              by_cases c61 : t207 < 0
                              · rw [if_pos c61] at H
                                have c61b0 : decide (t207 < 0) = true := decide_eq_true c61
                                clear c61
                                obtain rfl := Option.some.inj H
                                go_wp2
                                go_ret
                                exact ⟨by first | rfl | (simp [errW_none, errW_some] <;> rfl) | (simp [*, errW_none, errW_some] <;> rfl), by repeat (first | (with_reducible first | exact HB.out | apply below_alloc | apply pw_below_drewN | apply below_drew1 | refine below_set ?_ GE204.out | refine below_set ?_ GE205.out) | exact HB.out)⟩
                              · rw [if_neg c61] at H
                                have c61b0 : decide (t207 < 0) = false := decide_eq_false c61
                                clear c61
                                replace H := Option.bind_eq_some_iff.mp H
                                obtain ⟨⟨t211, t212⟩, A620, H⟩ := H
                                replace H : (if t212 = 0 then (if 0 ≤ x37_1 then (if x37_1 < (t196.length : Int) then (if t211 = (rd t196 x37_1) then (camletlaw40_AsmWays.l0 kj51 l0 t196 l0 (l0.length : Int) (wrap64 (x37_1 + 1))) else (some false)) else (none)) else (none)) else (some false)) = some r := H
                                have A62 := Aside0.mk A620
                                clear A620
                                by_cases c63 : t212 = 0
                                · rw [if_pos c63] at H
                                  have c63b0 : (t212 == 0) = true := beq_iff_eq.mpr c63
                                  have c63b1 : (t212 != 0) = false := bne_eq_false_iff_eq.mpr c63
                                  clear c63
                                  by_cases c64 : 0 ≤ x37_1
                                  · rw [if_pos c64] at H
                                    have c64b0 : decide (0 ≤ x37_1) = true := decide_eq_true c64
                                    clear c64
                                    by_cases c65 : x37_1 < (t196.length : Int)
                                    · rw [if_pos c65] at H
                                      have c65b0 : decide (x37_1 < (t196.length : Int)) = true := decide_eq_true c65
                                      clear c65
                                      by_cases c66 : t211 = (rd t196 x37_1)
                                      · rw [if_pos c66] at H
                                        have c66b0 : (t211 == (rd t196 x37_1)) = true := beq_iff_eq.mpr c66
                                        have c66b1 : (t211 != (rd t196 x37_1)) = false := bne_eq_false_iff_eq.mpr c66
                                        clear c66
                                        have H' := Aside0.mk H
                                        clear H
                                        have hnb67 := NB205_204.out
                                        have hnc67 := NB204_205.out
                                        have hcz68_0 : wc.cell? ⟨gb205, 0, none⟩ = some (.int .i64 ((rd_T36 l0 x37_1).f1.f0)) := (blk_cell BK205.out 0).trans rfl
                                        have hcz68_1 : wc.cell? ⟨gb205, 1, none⟩ = some (.int .i64 ((rd_T36 l0 x37_1).f1.f1)) := (blk_cell BK205.out 1).trans rfl
                                        have hcz68_2 : wc.cell? ⟨gb205, 2, none⟩ = some (.int .i64 ((rd_T36 l0 x37_1).f1.f2)) := (blk_cell BK205.out 2).trans rfl
                                        have hcz68_3 : wc.cell? ⟨gb205, 3, none⟩ = some (.int .i64 ((rd_T36 l0 x37_1).f1.f3)) := (blk_cell BK205.out 3).trans rfl
                                        have hcz68_4 : wc.cell? ⟨gb205, 4, none⟩ = some (.int .i64 x206004_51) := (blk_cell BK205.out 4).trans rfl
                                        have hfz68_0 := blk_frozen BK205.out 0
                                        have hfz68_1 := blk_frozen BK205.out 1
                                        have hfz68_2 := blk_frozen BK205.out 2
                                        have hfz68_3 := blk_frozen BK205.out 3
                                        have hfz68_4 := blk_frozen BK205.out 4
                                        go_wp2_with (first | (go_at_call 16; (with_reducible refine (isa_Put.calls ((rd_T36 l0 x37_1).f1.f0) ((rd_T36 l0 x37_1).f1.f1) ((rd_T36 l0 x37_1).f1.f2) ((rd_T36 l0 x37_1).f1.f3) x206004_51 t211 t212 _ A62.out).mono ?_); rintro e w69 ⟨rfl, hb⟩; have n0_ := Aside0.mk (Kd.R_below (by (with_reducible repeat (first | apply Kd.R_alloc | apply Kd.R_drewN | apply Kd.R_drew)); exact HO_3.out) hb); have n1_ := Aside0.mk (blk_below (g := gb204) (o := .cells #[.string ((rd_T36 l0 x37_1).f0), .int .i64 ((rd_T36 l0 x37_1).f1.f0), .int .i64 ((rd_T36 l0 x37_1).f1.f1), .int .i64 ((rd_T36 l0 x37_1).f1.f2), .int .i64 ((rd_T36 l0 x37_1).f1.f3), .int .i64 ((rd_T36 l0 x37_1).f1.f4), .string ((rd_T36 l0 x37_1).f2)] 36 (0, 0)) (by (with_reducible repeat (first | refine blk_drewN ?_ _ | refine blk_drew ?_ | refine blk_alloc ?_ _)); exact BK204.out) hb); have n2_ := Aside0.mk (blk_below (g := gb205) (o := .cells #[.int .i64 ((rd_T36 l0 x37_1).f1.f0), .int .i64 ((rd_T36 l0 x37_1).f1.f1), .int .i64 ((rd_T36 l0 x37_1).f1.f2), .int .i64 ((rd_T36 l0 x37_1).f1.f3), .int .i64 x206004_51] 34 (0, 0)) (by (with_reducible repeat (first | refine blk_drewN ?_ _ | refine blk_drew ?_ | refine blk_alloc ?_ _)); exact BK205.out) hb); have n3_ := Aside0.mk (below_step (by repeat (first | (with_reducible first | exact HB.out | apply below_alloc | apply pw_below_drewN | apply below_drew1 | refine below_set ?_ GE204.out | refine below_set ?_ GE205.out) | exact HB.out)) hb); clear HO_3; clear BK204; clear BK205; clear HB; have HO_3 := n0_; have BK204 := n1_; have BK205 := n2_; have HB := n3_; clear n0_ n1_ n2_ n3_; (try clear hb); (try clear hb2); (try clear hk); (try clear hi); have p213 : 0 ≤ (x37_1 : Int) := of_decide_eq_true (by first | (with_reducible assumption) | assumption); have q213 : x37_1 < (t196.length : Int) := of_decide_eq_true (by first | (with_reducible assumption) | assumption); obtain ⟨ad213, e213, hx213_0⟩ := Kd.at_int (Kd.R_reads' HO_3.out).2.2 x37_1 p213 q213; cases e213; replace p213 := eq_true p213; replace q213 := eq_true q213))
                                        go_roundg kj51
                                        case measure => have := HK1.out; have := HJ12.out; have := HJ51.out; omega
                                        case rel => exact ⟨(wrap64 (x37_1 + 1)), (by first | rfl | (simp; done) | (simp [*]; done) | (simp; generalize ByteArray.toList _ = z_; cases z_ <;> first | rfl | simp)), H', ⟨by have := HK1.out; have := HJ12.out; have := HJ51.out; omega⟩, ⟨by (with_reducible repeat (first | apply Kd.R_alloc | apply Kd.R_drewN | apply Kd.R_drew)); exact HO_3.out⟩, ⟨by repeat (first | (with_reducible first | exact HB.out | apply below_alloc | apply pw_below_drewN | apply below_drew1 | refine below_set ?_ GE204.out | refine below_set ?_ GE205.out) | exact HB.out)⟩⟩
                                      · rw [if_neg c66] at H
                                        have c66b0 : (t211 == (rd t196 x37_1)) = false := beq_eq_false_iff_ne.mpr c66
                                        have c66b1 : (t211 != (rd t196 x37_1)) = true := bne_iff_ne.mpr c66
                                        obtain rfl := Option.some.inj H
                                        have hnb70 := NB205_204.out
                                        have hnc70 := NB204_205.out
                                        have hcz71_0 : wc.cell? ⟨gb205, 0, none⟩ = some (.int .i64 ((rd_T36 l0 x37_1).f1.f0)) := (blk_cell BK205.out 0).trans rfl
                                        have hcz71_1 : wc.cell? ⟨gb205, 1, none⟩ = some (.int .i64 ((rd_T36 l0 x37_1).f1.f1)) := (blk_cell BK205.out 1).trans rfl
                                        have hcz71_2 : wc.cell? ⟨gb205, 2, none⟩ = some (.int .i64 ((rd_T36 l0 x37_1).f1.f2)) := (blk_cell BK205.out 2).trans rfl
                                        have hcz71_3 : wc.cell? ⟨gb205, 3, none⟩ = some (.int .i64 ((rd_T36 l0 x37_1).f1.f3)) := (blk_cell BK205.out 3).trans rfl
                                        have hcz71_4 : wc.cell? ⟨gb205, 4, none⟩ = some (.int .i64 x206004_51) := (blk_cell BK205.out 4).trans rfl
                                        have hfz71_0 := blk_frozen BK205.out 0
                                        have hfz71_1 := blk_frozen BK205.out 1
                                        have hfz71_2 := blk_frozen BK205.out 2
                                        have hfz71_3 := blk_frozen BK205.out 3
                                        have hfz71_4 := blk_frozen BK205.out 4
                                        go_wp2_with (first | (go_at_call 16; (with_reducible refine (isa_Put.calls ((rd_T36 l0 x37_1).f1.f0) ((rd_T36 l0 x37_1).f1.f1) ((rd_T36 l0 x37_1).f1.f2) ((rd_T36 l0 x37_1).f1.f3) x206004_51 t211 t212 _ A62.out).mono ?_); rintro e w72 ⟨rfl, hb⟩; have n0_ := Aside0.mk (Kd.R_below (by (with_reducible repeat (first | apply Kd.R_alloc | apply Kd.R_drewN | apply Kd.R_drew)); exact HO_3.out) hb); have n1_ := Aside0.mk (blk_below (g := gb204) (o := .cells #[.string ((rd_T36 l0 x37_1).f0), .int .i64 ((rd_T36 l0 x37_1).f1.f0), .int .i64 ((rd_T36 l0 x37_1).f1.f1), .int .i64 ((rd_T36 l0 x37_1).f1.f2), .int .i64 ((rd_T36 l0 x37_1).f1.f3), .int .i64 ((rd_T36 l0 x37_1).f1.f4), .string ((rd_T36 l0 x37_1).f2)] 36 (0, 0)) (by (with_reducible repeat (first | refine blk_drewN ?_ _ | refine blk_drew ?_ | refine blk_alloc ?_ _)); exact BK204.out) hb); have n2_ := Aside0.mk (blk_below (g := gb205) (o := .cells #[.int .i64 ((rd_T36 l0 x37_1).f1.f0), .int .i64 ((rd_T36 l0 x37_1).f1.f1), .int .i64 ((rd_T36 l0 x37_1).f1.f2), .int .i64 ((rd_T36 l0 x37_1).f1.f3), .int .i64 x206004_51] 34 (0, 0)) (by (with_reducible repeat (first | refine blk_drewN ?_ _ | refine blk_drew ?_ | refine blk_alloc ?_ _)); exact BK205.out) hb); have n3_ := Aside0.mk (below_step (by repeat (first | (with_reducible first | exact HB.out | apply below_alloc | apply pw_below_drewN | apply below_drew1 | refine below_set ?_ GE204.out | refine below_set ?_ GE205.out) | exact HB.out)) hb); clear HO_3; clear BK204; clear BK205; clear HB; have HO_3 := n0_; have BK204 := n1_; have BK205 := n2_; have HB := n3_; clear n0_ n1_ n2_ n3_; (try clear hb); (try clear hb2); (try clear hk); (try clear hi); have p213 : 0 ≤ (x37_1 : Int) := of_decide_eq_true (by first | (with_reducible assumption) | assumption); have q213 : x37_1 < (t196.length : Int) := of_decide_eq_true (by first | (with_reducible assumption) | assumption); obtain ⟨ad213, e213, hx213_0⟩ := Kd.at_int (Kd.R_reads' HO_3.out).2.2 x37_1 p213 q213; cases e213; replace p213 := eq_true p213; replace q213 := eq_true q213))
                                        go_ret
                                        exact ⟨by first | rfl | (simp [errW_none, errW_some] <;> rfl) | (simp [*, errW_none, errW_some] <;> rfl), by repeat (first | (with_reducible first | exact HB.out | apply below_alloc | apply pw_below_drewN | apply below_drew1 | refine below_set ?_ GE204.out | refine below_set ?_ GE205.out) | exact HB.out)⟩
                                    · rw [if_neg c65] at H
                                      exact absurd H (by simp)
                                  · rw [if_neg c64] at H
                                    exact absurd H (by simp)
                                · rw [if_neg c63] at H
                                  have c63b0 : (t212 == 0) = false := beq_eq_false_iff_ne.mpr c63
                                  have c63b1 : (t212 != 0) = true := bne_iff_ne.mpr c63
                                  obtain rfl := Option.some.inj H
                                  have hnb73 := NB205_204.out
                                  have hnc73 := NB204_205.out
                                  have hcz74_0 : wc.cell? ⟨gb205, 0, none⟩ = some (.int .i64 ((rd_T36 l0 x37_1).f1.f0)) := (blk_cell BK205.out 0).trans rfl
                                  have hcz74_1 : wc.cell? ⟨gb205, 1, none⟩ = some (.int .i64 ((rd_T36 l0 x37_1).f1.f1)) := (blk_cell BK205.out 1).trans rfl
                                  have hcz74_2 : wc.cell? ⟨gb205, 2, none⟩ = some (.int .i64 ((rd_T36 l0 x37_1).f1.f2)) := (blk_cell BK205.out 2).trans rfl
                                  have hcz74_3 : wc.cell? ⟨gb205, 3, none⟩ = some (.int .i64 ((rd_T36 l0 x37_1).f1.f3)) := (blk_cell BK205.out 3).trans rfl
                                  have hcz74_4 : wc.cell? ⟨gb205, 4, none⟩ = some (.int .i64 x206004_51) := (blk_cell BK205.out 4).trans rfl
                                  have hfz74_0 := blk_frozen BK205.out 0
                                  have hfz74_1 := blk_frozen BK205.out 1
                                  have hfz74_2 := blk_frozen BK205.out 2
                                  have hfz74_3 := blk_frozen BK205.out 3
                                  have hfz74_4 := blk_frozen BK205.out 4
                                  go_wp2_with (first | (go_at_call 16; (with_reducible refine (isa_Put.calls ((rd_T36 l0 x37_1).f1.f0) ((rd_T36 l0 x37_1).f1.f1) ((rd_T36 l0 x37_1).f1.f2) ((rd_T36 l0 x37_1).f1.f3) x206004_51 t211 t212 _ A62.out).mono ?_); rintro e w75 ⟨rfl, hb⟩; have n0_ := Aside0.mk (Kd.R_below (by (with_reducible repeat (first | apply Kd.R_alloc | apply Kd.R_drewN | apply Kd.R_drew)); exact HO_3.out) hb); have n1_ := Aside0.mk (blk_below (g := gb204) (o := .cells #[.string ((rd_T36 l0 x37_1).f0), .int .i64 ((rd_T36 l0 x37_1).f1.f0), .int .i64 ((rd_T36 l0 x37_1).f1.f1), .int .i64 ((rd_T36 l0 x37_1).f1.f2), .int .i64 ((rd_T36 l0 x37_1).f1.f3), .int .i64 ((rd_T36 l0 x37_1).f1.f4), .string ((rd_T36 l0 x37_1).f2)] 36 (0, 0)) (by (with_reducible repeat (first | refine blk_drewN ?_ _ | refine blk_drew ?_ | refine blk_alloc ?_ _)); exact BK204.out) hb); have n2_ := Aside0.mk (blk_below (g := gb205) (o := .cells #[.int .i64 ((rd_T36 l0 x37_1).f1.f0), .int .i64 ((rd_T36 l0 x37_1).f1.f1), .int .i64 ((rd_T36 l0 x37_1).f1.f2), .int .i64 ((rd_T36 l0 x37_1).f1.f3), .int .i64 x206004_51] 34 (0, 0)) (by (with_reducible repeat (first | refine blk_drewN ?_ _ | refine blk_drew ?_ | refine blk_alloc ?_ _)); exact BK205.out) hb); have n3_ := Aside0.mk (below_step (by repeat (first | (with_reducible first | exact HB.out | apply below_alloc | apply pw_below_drewN | apply below_drew1 | refine below_set ?_ GE204.out | refine below_set ?_ GE205.out) | exact HB.out)) hb); clear HO_3; clear BK204; clear BK205; clear HB; have HO_3 := n0_; have BK204 := n1_; have BK205 := n2_; have HB := n3_; clear n0_ n1_ n2_ n3_; (try clear hb); (try clear hb2); (try clear hk); (try clear hi)))
                                  go_ret
                                  exact ⟨by first | rfl | (simp [errW_none, errW_some] <;> rfl) | (simp [*, errW_none, errW_some] <;> rfl), by repeat (first | (with_reducible first | exact HB.out | apply below_alloc | apply pw_below_drewN | apply below_drew1 | refine below_set ?_ GE204.out | refine below_set ?_ GE205.out) | exact HB.out)⟩
                · rw [if_neg c12] at H
                  exact absurd H (by simp)
              · rw [if_neg c11] at H
                exact absurd H (by simp)
            · rw [if_neg c10] at H
              have c10b0 : decide (x37_1 < (l0.length : Int)) = false := decide_eq_false c10
              clear c10
              replace H := Option.bind_eq_some_iff.mp H
              obtain ⟨t202, A760, H⟩ := H
              replace H : (some t202) = some r := H
              have A76 := Aside0.mk A760
              clear A760
              obtain rfl := Option.some.inj H
              go_wp2_with (first | (go_at_call 9; (with_reducible refine (camletlaw40_knows.calls k1  t202 _ ?side1 A76.out).mono ?_); (case side1 => exact Laid.mono HG.out (by repeat (first | (with_reducible first | exact HB.out | apply below_alloc | apply pw_below_drewN | apply below_drew1) | exact HB.out))); rintro e w77 ⟨rfl, hb⟩; have n0_ := Aside0.mk (Kd.R_below (by (with_reducible repeat (first | apply Kd.R_alloc | apply Kd.R_drewN | apply Kd.R_drew)); exact HO_3.out) hb); have n1_ := Aside0.mk (below_step (by repeat (first | (with_reducible first | exact HB.out | apply below_alloc | apply pw_below_drewN | apply below_drew1) | exact HB.out)) hb); clear HO_3; clear HB; have HO_3 := n0_; have HB := n1_; clear n0_ n1_; (try clear hb); (try clear hb2); (try clear hk); (try clear hi)))
              go_ret
              exact ⟨by first | rfl | (simp [errW_none, errW_some] <;> rfl) | (simp [*, errW_none, errW_some] <;> rfl), by repeat (first | (with_reducible first | exact HB.out | apply below_alloc | apply pw_below_drewN | apply below_drew1) | exact HB.out)⟩
      · rw [if_neg c6] at H
        have c6b0 : ((t196.length : Int) == (l0.length : Int)) = false := beq_eq_false_iff_ne.mpr c6
        have c6b1 : ((t196.length : Int) != (l0.length : Int)) = true := bne_iff_ne.mpr c6
        have c6b2 : (t196.length == l0.length) = false := by first | simpa using c6 | (simp at c6 ⊢; omega)
        obtain rfl := Option.some.inj H
        go_enter Tryd.func6, Tryd.ntmps6
        go_wp2_with (first | (go_at_call 8; (with_reducible refine (camletlaw40_few.calls k _ _ l0 true _ ?side1 ?side2 A2.out).mono ?_); (case side1 => repeat (first | exact HR0.out | (with_reducible refine Kd.C_alloc ?_ _) | (with_reducible refine Kd.C_drewN ?_ _) | (with_reducible refine Kd.C_drew ?_))); (case side2 => exact HC0.out); rintro e w78 ⟨rfl, hb⟩; have n0_ := Aside0.mk (below_step (by repeat (first | (with_reducible first | exact HB.out | apply below_alloc | apply pw_below_drewN | apply below_drew1) | exact HB.out)) hb); clear HB; have HB := n0_; clear n0_; (try clear hb); (try clear hb2); (try clear hk); (try clear hi)) | (go_at_call 10; (with_reducible refine (asm_Of.calls _ _ l0 t196 t197 t198 _ ?side1 ?side2 A4.out).mono ?_); (case side1 => repeat (first | exact (Kd.C_below HR0.out HB.out) | (with_reducible refine Kd.C_alloc ?_ _) | (with_reducible refine Kd.C_drewN ?_ _) | (with_reducible refine Kd.C_drew ?_))); (case side2 => exact HC0.out); rintro e w79 ⟨v199, rfl, ho0, hb⟩; have n0_ := Aside0.mk (Kd.R_lower ho0 (below_size (by repeat (first | (with_reducible first | exact HB.out | apply below_alloc | apply pw_below_drewN | apply below_drew1) | exact HB.out)))); have n1_ := Aside0.mk (below_step (by repeat (first | (with_reducible first | exact HB.out | apply below_alloc | apply pw_below_drewN | apply below_drew1) | exact HB.out)) hb); clear HB; have HO200 := n0_; have HB := n1_; clear n0_ n1_; (try clear hb); (try clear hb2); (try clear hk); (try clear hi); (try clear ho0); obtain ⟨Ao80, co80, eo80⟩ := Kd.R_slice HO200.out; subst eo80))
        go_ret
        exact ⟨by first | rfl | (simp [errW_none, errW_some] <;> rfl) | (simp [*, errW_none, errW_some] <;> rfl), by repeat (first | (with_reducible first | exact HB.out | apply below_alloc | apply pw_below_drewN | apply below_drew1) | exact HB.out)⟩
    · rw [if_neg c5] at H
      have c5b0 : (t198 == 0) = false := beq_eq_false_iff_ne.mpr c5
      have c5b1 : (t198 != 0) = true := bne_iff_ne.mpr c5
      by_cases c81 : (t196.length : Int) = 0
      · rw [if_pos c81] at H
        have c81b0 : ((t196.length : Int) == 0) = true := beq_iff_eq.mpr c81
        have c81b1 : ((t196.length : Int) != 0) = false := bne_eq_false_iff_eq.mpr c81
        clear c81
        replace H := Option.bind_eq_some_iff.mp H
        obtain ⟨t201, A820, H⟩ := H
        replace H : (some t201) = some r := H
        have A82 := Aside0.mk A820
        clear A820
        obtain rfl := Option.some.inj H
        go_enter Tryd.func6, Tryd.ntmps6
        go_wp2_with (first | (go_at_call 8; (with_reducible refine (camletlaw40_few.calls k _ _ l0 true _ ?side1 ?side2 A2.out).mono ?_); (case side1 => repeat (first | exact HR0.out | (with_reducible refine Kd.C_alloc ?_ _) | (with_reducible refine Kd.C_drewN ?_ _) | (with_reducible refine Kd.C_drew ?_))); (case side2 => exact HC0.out); rintro e w83 ⟨rfl, hb⟩; have n0_ := Aside0.mk (below_step (by repeat (first | (with_reducible first | exact HB.out | apply below_alloc | apply pw_below_drewN | apply below_drew1) | exact HB.out)) hb); clear HB; have HB := n0_; clear n0_; (try clear hb); (try clear hb2); (try clear hk); (try clear hi)) | (go_at_call 10; (with_reducible refine (asm_Of.calls _ _ l0 t196 t197 t198 _ ?side1 ?side2 A4.out).mono ?_); (case side1 => repeat (first | exact (Kd.C_below HR0.out HB.out) | (with_reducible refine Kd.C_alloc ?_ _) | (with_reducible refine Kd.C_drewN ?_ _) | (with_reducible refine Kd.C_drew ?_))); (case side2 => exact HC0.out); rintro e w84 ⟨v199, rfl, ho0, hb⟩; have n0_ := Aside0.mk (Kd.R_lower ho0 (below_size (by repeat (first | (with_reducible first | exact HB.out | apply below_alloc | apply pw_below_drewN | apply below_drew1) | exact HB.out)))); have n1_ := Aside0.mk (below_step (by repeat (first | (with_reducible first | exact HB.out | apply below_alloc | apply pw_below_drewN | apply below_drew1) | exact HB.out)) hb); clear HB; have HO200 := n0_; have HB := n1_; clear n0_ n1_; (try clear hb); (try clear hb2); (try clear hk); (try clear hi); (try clear ho0); obtain ⟨Ao85, co85, eo85⟩ := Kd.R_slice HO200.out; subst eo85) | (go_at_call 9; (with_reducible refine (camletlaw40_knows.calls k  t201 _ ?side1 A82.out).mono ?_); (case side1 => exact Laid.mono HG.out (by repeat (first | (with_reducible first | exact HB.out | apply below_alloc | apply pw_below_drewN | apply below_drew1) | exact HB.out))); rintro e w86 ⟨rfl, hb⟩; have n0_ := Aside0.mk (Kd.R_below (by (with_reducible repeat (first | apply Kd.R_alloc | apply Kd.R_drewN | apply Kd.R_drew)); exact HO200.out) hb); have n1_ := Aside0.mk (below_step (by repeat (first | (with_reducible first | exact HB.out | apply below_alloc | apply pw_below_drewN | apply below_drew1) | exact HB.out)) hb); clear HO200; clear HB; have HO200 := n0_; have HB := n1_; clear n0_ n1_; (try clear hb); (try clear hb2); (try clear hk); (try clear hi)))
        go_ret
        exact ⟨by first | rfl | (simp [errW_none, errW_some] <;> rfl) | (simp [*, errW_none, errW_some] <;> rfl), by repeat (first | (with_reducible first | exact HB.out | apply below_alloc | apply pw_below_drewN | apply below_drew1) | exact HB.out)⟩
      · rw [if_neg c81] at H
        have c81b0 : ((t196.length : Int) == 0) = false := beq_eq_false_iff_ne.mpr c81
        have c81b1 : ((t196.length : Int) != 0) = true := bne_iff_ne.mpr c81
        have c81b2 : ¬ (t196 = []) := fun h_ => c81 (by rw [h_]; rfl)
        obtain rfl := Option.some.inj H
        go_enter Tryd.func6, Tryd.ntmps6
        go_wp2_with (first | (go_at_call 8; (with_reducible refine (camletlaw40_few.calls k _ _ l0 true _ ?side1 ?side2 A2.out).mono ?_); (case side1 => repeat (first | exact HR0.out | (with_reducible refine Kd.C_alloc ?_ _) | (with_reducible refine Kd.C_drewN ?_ _) | (with_reducible refine Kd.C_drew ?_))); (case side2 => exact HC0.out); rintro e w87 ⟨rfl, hb⟩; have n0_ := Aside0.mk (below_step (by repeat (first | (with_reducible first | exact HB.out | apply below_alloc | apply pw_below_drewN | apply below_drew1) | exact HB.out)) hb); clear HB; have HB := n0_; clear n0_; (try clear hb); (try clear hb2); (try clear hk); (try clear hi)) | (go_at_call 10; (with_reducible refine (asm_Of.calls _ _ l0 t196 t197 t198 _ ?side1 ?side2 A4.out).mono ?_); (case side1 => repeat (first | exact (Kd.C_below HR0.out HB.out) | (with_reducible refine Kd.C_alloc ?_ _) | (with_reducible refine Kd.C_drewN ?_ _) | (with_reducible refine Kd.C_drew ?_))); (case side2 => exact HC0.out); rintro e w88 ⟨v199, rfl, ho0, hb⟩; have n0_ := Aside0.mk (Kd.R_lower ho0 (below_size (by repeat (first | (with_reducible first | exact HB.out | apply below_alloc | apply pw_below_drewN | apply below_drew1) | exact HB.out)))); have n1_ := Aside0.mk (below_step (by repeat (first | (with_reducible first | exact HB.out | apply below_alloc | apply pw_below_drewN | apply below_drew1) | exact HB.out)) hb); clear HB; have HO200 := n0_; have HB := n1_; clear n0_ n1_; (try clear hb); (try clear hb2); (try clear hk); (try clear hi); (try clear ho0); obtain ⟨Ao89, co89, eo89⟩ := Kd.R_slice HO200.out; subst eo89))
        go_ret
        exact ⟨by first | rfl | (simp [errW_none, errW_some] <;> rfl) | (simp [*, errW_none, errW_some] <;> rfl), by repeat (first | (with_reducible first | exact HB.out | apply below_alloc | apply pw_below_drewN | apply below_drew1) | exact HB.out)⟩
  · replace c3 := Bool.eq_false_iff.mpr c3
    subst c3
    have H1 : ((camletlaw40_knows.f k).bind fun t195 => (some t195)) = some r := by rw [if_neg (show ¬ (false = true) by decide)] at H; exact H
    clear H
    have H := H1
    clear H1
    replace H := Option.bind_eq_some_iff.mp H
    obtain ⟨t195, A900, H⟩ := H
    replace H : (some t195) = some r := H
    have A90 := Aside0.mk A900
    clear A900
    obtain rfl := Option.some.inj H
    go_enter Tryd.func6, Tryd.ntmps6
    go_wp2_with (first | (go_at_call 8; (with_reducible refine (camletlaw40_few.calls k _ _ l0 false _ ?side1 ?side2 A2.out).mono ?_); (case side1 => repeat (first | exact HR0.out | (with_reducible refine Kd.C_alloc ?_ _) | (with_reducible refine Kd.C_drewN ?_ _) | (with_reducible refine Kd.C_drew ?_))); (case side2 => exact HC0.out); rintro e w91 ⟨rfl, hb⟩; have n0_ := Aside0.mk (below_step (by repeat (first | (with_reducible first | exact HB.out | apply below_alloc | apply pw_below_drewN | apply below_drew1) | exact HB.out)) hb); clear HB; have HB := n0_; clear n0_; (try clear hb); (try clear hb2); (try clear hk); (try clear hi)) | (go_at_call 9; (with_reducible refine (camletlaw40_knows.calls k  t195 _ ?side1 A90.out).mono ?_); (case side1 => exact Laid.mono HG.out (by repeat (first | (with_reducible first | exact HB.out | apply below_alloc | apply pw_below_drewN | apply below_drew1) | exact HB.out))); rintro e w92 ⟨rfl, hb⟩; have n0_ := Aside0.mk (below_step (by repeat (first | (with_reducible first | exact HB.out | apply below_alloc | apply pw_below_drewN | apply below_drew1) | exact HB.out)) hb); clear HB; have HB := n0_; clear n0_; (try clear hb); (try clear hb2); (try clear hk); (try clear hi)))
    go_ret
    exact ⟨by first | rfl | (simp [errW_none, errW_some] <;> rfl) | (simp [*, errW_none, errW_some] <;> rfl), by repeat (first | (with_reducible first | exact HB.out | apply below_alloc | apply pw_below_drewN | apply below_drew1) | exact HB.out)⟩

end Go.Proofs.YtlhkojnocconfaaDoor.Q
