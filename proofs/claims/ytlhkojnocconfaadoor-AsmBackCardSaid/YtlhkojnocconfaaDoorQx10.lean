-- Made by a program of this session (wip/tools/pr.py) out of the translation, over the kit's printer. Not trusted: Lean checks it.
import Derived.Test.YtlhkojnocconfaaDoorQx0
import Derived.Test.YtlhkojnocconfaaDoorQx2
import Derived.Test.YtlhkojnocconfaaDoorQx3
import Derived.Test.YtlhkojnocconfaaDoorQx5
import Derived.Test.YtlhkojnocconfaaDoorQx9
import Derived.Test.YtlhkojnocconfaaDoorHasmKnows
import Derived.Test.YtlhkojnocconfaaDoorHasmOf
import Derived.Test.YtlhkojnocconfaaDoorRdGrp
import Derived.Test.YtlhkojnocconfaaDoorHasmShow
import Derived.Test.YtlhkojnocconfaaDoorLaid
namespace Go.Proofs.YtlhkojnocconfaaDoor.Q
open Go.RowKit Go.Proofs.YtlhkojnocconfaaDoorW.PrintWords Go.Proofs.YtlhkojnocconfaaDoorW.PrintLast Go.Proofs.YtlhkojnocconfaaDoorW.PrintMore
attribute [local go_sem] max2_int min2_int max_two min_two max_three min_three max_four min_four   -- for this text's walks alone
set_option linter.unusedVariables false
set_option linter.unusedSimpArgs false

/-! ### camletlaw40_AsmBack: function 7 -/
mutual
def camletlaw40_AsmBack.j0 : Nat → List (S36) → ByteArray → List Int → Bool → Option (Bool)
  | 0, _, _, _, _ => none
  | k + 1, x0, x1, x2, x43 => if x43 = true then ((camletlaw40_knows.f k).bind fun t146 => (some t146)) else ((asm_Back.f k x2).bind fun bt147 => (if bt147.2.2 = 0 then ((asm_Of.f bt147.1).bind fun bt152 => (if bt152.2.2 = 0 then ((camletref40_SameWords.f k bt152.1 x2).bind fun t157 => (if t157 = true then (camletlaw40_AsmBack.j1 k x0 x1) else (some false))) else (some false))) else (camletlaw40_AsmBack.j1 k x0 x1)))
def camletlaw40_AsmBack.j1 : Nat → List (S36) → ByteArray → Option (Bool)
  | 0, _, _ => none
  | k + 1, x0, x1 => (asm_Read.f x1).bind fun bt158 => (if bt158.2.2 = 0 then ((asm_Show.f bt158.1).bind fun t163 => (camletlaw40_AsmBack.j2 k x0 (t163.toList != x1.toList))) else (camletlaw40_AsmBack.j2 k x0 false))
def camletlaw40_AsmBack.j2 : Nat → List (S36) → Bool → Option (Bool)
  | 0, _, _ => none
  | k + 1, x0, x80 => if x80 = true then (some false) else ((asm_Of.f x0).bind fun bt164 => (if bt164.2.2 = 0 then (camletlaw40_AsmBack.l0 k x0 bt164.1 true x0 (x0.length : Int) 0) else ((camletlaw40_knows.f k).bind fun t192 => (some t192))))
def camletlaw40_AsmBack.l0 : Nat → List (S36) → List Int → Bool → List (S36) → Int → Int → Option (Bool)
  | 0, _, _, _, _, _, _ => none
  | k + 1, x0, x16, x19, x89, x90, x91 => if x91 < x90 then (if 0 ≤ x91 then (if x91 < (x89.length : Int) then ((asm_Of.f (([(⟨(⟨#[]⟩ : ByteArray), (⟨(rd_T36 x89 x91).f1.f0, (rd_T36 x89 x91).f1.f1, (rd_T36 x89 x91).f1.f2, (rd_T36 x89 x91).f1.f3, (rd_T36 x89 x91).f1.f4⟩ : S34), (⟨#[]⟩ : ByteArray)⟩ : S36)] : List (S36)))).bind fun bt174 => (if x19 = true then (camletlaw40_AsmBack.l0 k x0 x16 (bt174.2.2 == 0) x89 x90 (wrap64 (x91 + 1))) else (camletlaw40_AsmBack.l0 k x0 x16 false x89 x90 (wrap64 (x91 + 1))))) else (none)) else (none)) else ((asm_Show.f x0).bind fun t179 => ((asm_Read.f t179).bind fun bt180 => (if x19 = true then (if bt180.2.2 = 0 then ((camletref40_Same.f k bt180.1 x0).bind fun t185 => (camletlaw40_AsmBack.j4 k x0 x16 (!t185))) else (camletlaw40_AsmBack.j4 k x0 x16 true)) else (camletlaw40_AsmBack.j4 k x0 x16 false))))
def camletlaw40_AsmBack.j4 : Nat → List (S36) → List Int → Bool → Option (Bool)
  | 0, _, _, _ => none
  | k + 1, x0, x16, x128 => if x128 = true then (some false) else ((asm_Back.f k x16).bind fun bt186 => (if bt186.2.2 = 0 then (if (bt186.1.length : Int) = (x0.length : Int) then ((camletlaw40_knows.f k).bind fun t191 => (some t191)) else (some false)) else (some false)))
end
def camletlaw40_AsmBack.f (k : Nat) (l0 : List (S36)) (a1 : ByteArray) (l2 : List Int) : Option (Bool) := (camletlaw40_few.f k l0).bind fun t145 => (if t145 = true then (if (a1.size : Int) > 3000 then (camletlaw40_AsmBack.j0 k l0 a1 l2 true) else (camletlaw40_AsmBack.j0 k l0 a1 l2 (decide ((l2.length : Int) > 200)))) else (camletlaw40_AsmBack.j0 k l0 a1 l2 true))
theorem camletlaw40_AsmBack.mono_l : ∀ k, (∀ y0 y1 y2 y3, LeO (camletlaw40_AsmBack.j0 k y0 y1 y2 y3) (camletlaw40_AsmBack.j0 (k + 1) y0 y1 y2 y3)) ∧ (∀ y0 y1, LeO (camletlaw40_AsmBack.j1 k y0 y1) (camletlaw40_AsmBack.j1 (k + 1) y0 y1)) ∧ (∀ y0 y1, LeO (camletlaw40_AsmBack.j2 k y0 y1) (camletlaw40_AsmBack.j2 (k + 1) y0 y1)) ∧ (∀ y0 y1 y2 y3 y4 y5, LeO (camletlaw40_AsmBack.l0 k y0 y1 y2 y3 y4 y5) (camletlaw40_AsmBack.l0 (k + 1) y0 y1 y2 y3 y4 y5)) ∧ (∀ y0 y1 y2, LeO (camletlaw40_AsmBack.j4 k y0 y1 y2) (camletlaw40_AsmBack.j4 (k + 1) y0 y1 y2))
  | 0 => ⟨fun _ _ _ _ r h => by simp [camletlaw40_AsmBack.j0] at h, fun _ _ r h => by simp [camletlaw40_AsmBack.j1] at h, fun _ _ r h => by simp [camletlaw40_AsmBack.j2] at h, fun _ _ _ _ _ _ r h => by simp [camletlaw40_AsmBack.l0] at h, fun _ _ _ r h => by simp [camletlaw40_AsmBack.j4] at h⟩
  | k + 1 => by
    obtain ⟨ih0, ih1, ih2, ih3, ih4⟩ := camletlaw40_AsmBack.mono_l k
    refine ⟨?_, ?_, ?_, ?_, ?_⟩
    · intro y0 y1 y2 y3
      unfold camletlaw40_AsmBack.j0
      repeat' first
      | (with_reducible exact ih0 _ _ _ _)
      | (with_reducible exact ih1 _ _)
      | (with_reducible exact ih2 _ _)
      | (with_reducible exact ih3 _ _ _ _ _ _)
      | (with_reducible exact ih4 _ _ _)
      | (with_reducible exact asm_Back.mono _ _)
      | (with_reducible exact camletlaw40_few.mono _ _)
      | (with_reducible exact camletlaw40_knows.mono _)
      | (with_reducible exact camletref40_Same.mono _ _ _)
      | (with_reducible exact camletref40_SameWords.mono _ _ _)
      | (with_reducible exact LeO.refl _)
      | (with_reducible exact LeO.none _)
      | (with_reducible refine LeO.ite ?_ ?_)
      | (with_reducible refine LeO.bind ?_ (fun _ => ?_))
      | exact ih0 _ _ _ _
      | exact ih1 _ _
      | exact ih2 _ _
      | exact ih3 _ _ _ _ _ _
      | exact ih4 _ _ _
      | exact asm_Back.mono _ _
      | exact camletlaw40_few.mono _ _
      | exact camletlaw40_knows.mono _
      | exact camletref40_Same.mono _ _ _
      | exact camletref40_SameWords.mono _ _ _
      | exact LeO.none _
      | refine LeO.ite ?_ ?_
      | refine LeO.bind ?_ (fun _ => ?_)
    · intro y0 y1
      unfold camletlaw40_AsmBack.j1
      repeat' first
      | (with_reducible exact ih0 _ _ _ _)
      | (with_reducible exact ih1 _ _)
      | (with_reducible exact ih2 _ _)
      | (with_reducible exact ih3 _ _ _ _ _ _)
      | (with_reducible exact ih4 _ _ _)
      | (with_reducible exact asm_Back.mono _ _)
      | (with_reducible exact camletlaw40_few.mono _ _)
      | (with_reducible exact camletlaw40_knows.mono _)
      | (with_reducible exact camletref40_Same.mono _ _ _)
      | (with_reducible exact camletref40_SameWords.mono _ _ _)
      | (with_reducible exact LeO.refl _)
      | (with_reducible exact LeO.none _)
      | (with_reducible refine LeO.ite ?_ ?_)
      | (with_reducible refine LeO.bind ?_ (fun _ => ?_))
      | exact ih0 _ _ _ _
      | exact ih1 _ _
      | exact ih2 _ _
      | exact ih3 _ _ _ _ _ _
      | exact ih4 _ _ _
      | exact asm_Back.mono _ _
      | exact camletlaw40_few.mono _ _
      | exact camletlaw40_knows.mono _
      | exact camletref40_Same.mono _ _ _
      | exact camletref40_SameWords.mono _ _ _
      | exact LeO.none _
      | refine LeO.ite ?_ ?_
      | refine LeO.bind ?_ (fun _ => ?_)
    · intro y0 y1
      unfold camletlaw40_AsmBack.j2
      repeat' first
      | (with_reducible exact ih0 _ _ _ _)
      | (with_reducible exact ih1 _ _)
      | (with_reducible exact ih2 _ _)
      | (with_reducible exact ih3 _ _ _ _ _ _)
      | (with_reducible exact ih4 _ _ _)
      | (with_reducible exact asm_Back.mono _ _)
      | (with_reducible exact camletlaw40_few.mono _ _)
      | (with_reducible exact camletlaw40_knows.mono _)
      | (with_reducible exact camletref40_Same.mono _ _ _)
      | (with_reducible exact camletref40_SameWords.mono _ _ _)
      | (with_reducible exact LeO.refl _)
      | (with_reducible exact LeO.none _)
      | (with_reducible refine LeO.ite ?_ ?_)
      | (with_reducible refine LeO.bind ?_ (fun _ => ?_))
      | exact ih0 _ _ _ _
      | exact ih1 _ _
      | exact ih2 _ _
      | exact ih3 _ _ _ _ _ _
      | exact ih4 _ _ _
      | exact asm_Back.mono _ _
      | exact camletlaw40_few.mono _ _
      | exact camletlaw40_knows.mono _
      | exact camletref40_Same.mono _ _ _
      | exact camletref40_SameWords.mono _ _ _
      | exact LeO.none _
      | refine LeO.ite ?_ ?_
      | refine LeO.bind ?_ (fun _ => ?_)
    · intro y0 y1 y2 y3 y4 y5
      unfold camletlaw40_AsmBack.l0
      repeat' first
      | (with_reducible exact ih0 _ _ _ _)
      | (with_reducible exact ih1 _ _)
      | (with_reducible exact ih2 _ _)
      | (with_reducible exact ih3 _ _ _ _ _ _)
      | (with_reducible exact ih4 _ _ _)
      | (with_reducible exact asm_Back.mono _ _)
      | (with_reducible exact camletlaw40_few.mono _ _)
      | (with_reducible exact camletlaw40_knows.mono _)
      | (with_reducible exact camletref40_Same.mono _ _ _)
      | (with_reducible exact camletref40_SameWords.mono _ _ _)
      | (with_reducible exact LeO.refl _)
      | (with_reducible exact LeO.none _)
      | (with_reducible refine LeO.ite ?_ ?_)
      | (with_reducible refine LeO.bind ?_ (fun _ => ?_))
      | exact ih0 _ _ _ _
      | exact ih1 _ _
      | exact ih2 _ _
      | exact ih3 _ _ _ _ _ _
      | exact ih4 _ _ _
      | exact asm_Back.mono _ _
      | exact camletlaw40_few.mono _ _
      | exact camletlaw40_knows.mono _
      | exact camletref40_Same.mono _ _ _
      | exact camletref40_SameWords.mono _ _ _
      | exact LeO.none _
      | refine LeO.ite ?_ ?_
      | refine LeO.bind ?_ (fun _ => ?_)
    · intro y0 y1 y2
      unfold camletlaw40_AsmBack.j4
      repeat' first
      | (with_reducible exact ih0 _ _ _ _)
      | (with_reducible exact ih1 _ _)
      | (with_reducible exact ih2 _ _)
      | (with_reducible exact ih3 _ _ _ _ _ _)
      | (with_reducible exact ih4 _ _ _)
      | (with_reducible exact asm_Back.mono _ _)
      | (with_reducible exact camletlaw40_few.mono _ _)
      | (with_reducible exact camletlaw40_knows.mono _)
      | (with_reducible exact camletref40_Same.mono _ _ _)
      | (with_reducible exact camletref40_SameWords.mono _ _ _)
      | (with_reducible exact LeO.refl _)
      | (with_reducible exact LeO.none _)
      | (with_reducible refine LeO.ite ?_ ?_)
      | (with_reducible refine LeO.bind ?_ (fun _ => ?_))
      | exact ih0 _ _ _ _
      | exact ih1 _ _
      | exact ih2 _ _
      | exact ih3 _ _ _ _ _ _
      | exact ih4 _ _ _
      | exact asm_Back.mono _ _
      | exact camletlaw40_few.mono _ _
      | exact camletlaw40_knows.mono _
      | exact camletref40_Same.mono _ _ _
      | exact camletref40_SameWords.mono _ _ _
      | exact LeO.none _
      | refine LeO.ite ?_ ?_
      | refine LeO.bind ?_ (fun _ => ?_)
theorem camletlaw40_AsmBack.mono : ∀ a0 a1 a2 k, LeO (camletlaw40_AsmBack.f k a0 a1 a2) (camletlaw40_AsmBack.f (k + 1) a0 a1 a2) := by
  intro a0 a1 a2 k
  obtain ⟨ih0, ih1, ih2, ih3, ih4⟩ := camletlaw40_AsmBack.mono_l k
  unfold camletlaw40_AsmBack.f
  repeat' first
      | (with_reducible exact ih0 _ _ _ _)
      | (with_reducible exact ih1 _ _)
      | (with_reducible exact ih2 _ _)
      | (with_reducible exact ih3 _ _ _ _ _ _)
      | (with_reducible exact ih4 _ _ _)
      | (with_reducible exact asm_Back.mono _ _)
      | (with_reducible exact camletlaw40_few.mono _ _)
      | (with_reducible exact camletlaw40_knows.mono _)
      | (with_reducible exact camletref40_Same.mono _ _ _)
      | (with_reducible exact camletref40_SameWords.mono _ _ _)
      | (with_reducible exact LeO.refl _)
      | (with_reducible exact LeO.none _)
      | (with_reducible refine LeO.ite ?_ ?_)
      | (with_reducible refine LeO.bind ?_ (fun _ => ?_))
      | exact ih0 _ _ _ _
      | exact ih1 _ _
      | exact ih2 _ _
      | exact ih3 _ _ _ _ _ _
      | exact ih4 _ _ _
      | exact asm_Back.mono _ _
      | exact camletlaw40_few.mono _ _
      | exact camletlaw40_knows.mono _
      | exact camletref40_Same.mono _ _ _
      | exact camletref40_SameWords.mono _ _ _
      | exact LeO.none _
      | refine LeO.ite ?_ ?_
      | refine LeO.bind ?_ (fun _ => ?_)
set_option maxHeartbeats 8000000 in
set_option maxRecDepth 100000 in
theorem camletlaw40_AsmBack.calls (k : Nat) (A0 : Option Addr) (c0 : Nat) (l0 : List (S36)) (a1 : ByteArray) (A2 : Option Addr) (c2 : Nat) (l2 : List Int) (r : Bool) (w : World) (hr0 : Kd.C k36 w A0 l0.length l0) (hc0 : l0.length ≤ c0) (hr2 : Kd.C (Kd.int .u32) w A2 l2.length l2) (hc2 : l2.length ≤ c2) (hG : Laid w) (h : camletlaw40_AsmBack.f k l0 a1 l2 = some r) :
    Calls Tryd.prog 7 #[.slice A0 l0.length c0, .string a1, .slice A2 l2.length c2] w fun e w' => e = .returned (.bool r) ∧ Below w.heap.size w w' := by
  have hu36 := Tryd.underlying36
  have hu34 := Tryd.underlying34
  have HG := Aside0.mk hG
  clear hG
  have HR0 := Aside0.mk hr0
  have HC0 := Aside0.mk hc0
  clear hr0 hc0
  have HR2 := Aside0.mk hr2
  have HC2 := Aside0.mk hc2
  clear hr2 hc2
  have HB := Aside0.mk (Below.refl w.heap.size w)
  have H : ((camletlaw40_few.f k l0).bind fun t145 => (if t145 = true then (if (a1.size : Int) > 3000 then (camletlaw40_AsmBack.j0 k l0 a1 l2 true) else (camletlaw40_AsmBack.j0 k l0 a1 l2 (decide ((l2.length : Int) > 200)))) else (camletlaw40_AsmBack.j0 k l0 a1 l2 true))) = some r := h
  clear h
  have HC4 := Aside0.mk H
  clear H
  go_enter Tryd.func7, Tryd.ntmps7
  go_upto_region 1 with (fail)
  go_cut [43] (fun v43 wc => ∃ (kq : Nat) (x43_3 : Bool), v43 = .bool x43_3 ∧ Aside0 (camletlaw40_AsmBack.j0 kq l0 a1 l2 x43_3 = some r) ∧ Aside0 (kq ≤ k) ∧ Aside0 (Below w.heap.size w wc))
  case first =>
    have H := HC4.out
    clear HC4
    replace H := Option.bind_eq_some_iff.mp H
    obtain ⟨t145, A50, H⟩ := H
    replace H : (if t145 = true then (if (a1.size : Int) > 3000 then (camletlaw40_AsmBack.j0 k l0 a1 l2 true) else (camletlaw40_AsmBack.j0 k l0 a1 l2 (decide ((l2.length : Int) > 200)))) else (camletlaw40_AsmBack.j0 k l0 a1 l2 true)) = some r := H
    have A5 := Aside0.mk A50
    clear A50
    by_cases c6 : t145 = true
    · subst c6
      have H1 : (if (a1.size : Int) > 3000 then (camletlaw40_AsmBack.j0 k l0 a1 l2 true) else (camletlaw40_AsmBack.j0 k l0 a1 l2 (decide ((l2.length : Int) > 200)))) = some r := by rw [if_pos rfl] at H; exact H
      clear H
      have H := H1
      clear H1
      by_cases c7 : (a1.size : Int) > 3000
      · rw [if_pos c7] at H
        have c7b0 : decide (3000 < (a1.size : Int)) = true := decide_eq_true c7
        have c7b1 : decide (3000 < a1.size) = true := decide_eq_true (by omega)
        clear c7
        (first | rw [c7b0] | (simp only [i64_w, i32_w]; rw [c7b0]) | skip)
        have H' := Aside0.mk H
        clear H
        go_wp2_with (first | (go_at_call 8; (with_reducible refine (camletlaw40_few.calls k _ _ l0 true _ ?side1 ?side2 A5.out).mono ?_); (case side1 => repeat (first | exact (Kd.C_below HR0.out HB.out) | (with_reducible refine Kd.C_alloc ?_ _) | (with_reducible refine Kd.C_drewN ?_ _) | (with_reducible refine Kd.C_drew ?_))); (case side2 => exact HC0.out); rintro e w8 ⟨rfl, hb⟩; have n0_ := Aside0.mk (below_step (by repeat (first | (with_reducible first | exact HB.out | apply below_alloc | apply pw_below_drewN | apply below_drew1) | exact HB.out)) hb); clear HB; have HB := n0_; clear n0_; (try clear hb); (try clear hb2); (try clear hk); (try clear hi)))
        go_meet
        case rel => exact ⟨_, (true), (by first | rfl | (simp; done) | (simp [*]; done) | (simp; generalize ByteArray.toList _ = z_; cases z_ <;> first | rfl | simp)), H', ⟨by first | omega | exact Nat.le_refl _⟩, ⟨by repeat (first | (with_reducible first | exact HB.out | apply below_alloc | apply pw_below_drewN | apply below_drew1) | exact HB.out)⟩⟩
      · rw [if_neg c7] at H
        have c7b0 : decide (3000 < (a1.size : Int)) = false := decide_eq_false c7
        have c7b1 : decide (3000 < a1.size) = false := decide_eq_false (by omega)
        clear c7
        (first | rw [c7b0] | (simp only [i64_w, i32_w]; rw [c7b0]) | skip)
        have H' := Aside0.mk H
        clear H
        go_wp2_with (first | (go_at_call 8; (with_reducible refine (camletlaw40_few.calls k _ _ l0 true _ ?side1 ?side2 A5.out).mono ?_); (case side1 => repeat (first | exact (Kd.C_below HR0.out HB.out) | (with_reducible refine Kd.C_alloc ?_ _) | (with_reducible refine Kd.C_drewN ?_ _) | (with_reducible refine Kd.C_drew ?_))); (case side2 => exact HC0.out); rintro e w9 ⟨rfl, hb⟩; have n0_ := Aside0.mk (below_step (by repeat (first | (with_reducible first | exact HB.out | apply below_alloc | apply pw_below_drewN | apply below_drew1) | exact HB.out)) hb); clear HB; have HB := n0_; clear n0_; (try clear hb); (try clear hb2); (try clear hk); (try clear hi)))
        go_meet
        case rel => exact ⟨_, (decide ((l2.length : Int) > 200)), (by first | rfl | (simp; done) | (simp [*]; done) | (simp; generalize ByteArray.toList _ = z_; cases z_ <;> first | rfl | simp)), H', ⟨by first | omega | exact Nat.le_refl _⟩, ⟨by repeat (first | (with_reducible first | exact HB.out | apply below_alloc | apply pw_below_drewN | apply below_drew1) | exact HB.out)⟩⟩
    · replace c6 := Bool.eq_false_iff.mpr c6
      subst c6
      have H1 : (camletlaw40_AsmBack.j0 k l0 a1 l2 true) = some r := by rw [if_neg (show ¬ (false = true) by decide)] at H; exact H
      clear H
      have H := H1
      clear H1
      have H' := Aside0.mk H
      clear H
      go_wp2_with (first | (go_at_call 8; (with_reducible refine (camletlaw40_few.calls k _ _ l0 false _ ?side1 ?side2 A5.out).mono ?_); (case side1 => repeat (first | exact (Kd.C_below HR0.out HB.out) | (with_reducible refine Kd.C_alloc ?_ _) | (with_reducible refine Kd.C_drewN ?_ _) | (with_reducible refine Kd.C_drew ?_))); (case side2 => exact HC0.out); rintro e w10 ⟨rfl, hb⟩; have n0_ := Aside0.mk (below_step (by repeat (first | (with_reducible first | exact HB.out | apply below_alloc | apply pw_below_drewN | apply below_drew1) | exact HB.out)) hb); clear HB; have HB := n0_; clear n0_; (try clear hb); (try clear hb2); (try clear hk); (try clear hi)))
      go_meet
      case rel => exact ⟨_, (true), (by first | rfl | (simp; done) | (simp [*]; done) | (simp; generalize ByteArray.toList _ = z_; cases z_ <;> first | rfl | simp)), H', ⟨by first | omega | exact Nat.le_refl _⟩, ⟨by repeat (first | (with_reducible first | exact HB.out | apply below_alloc | apply pw_below_drewN | apply below_drew1) | exact HB.out)⟩⟩
  case rest =>
    clear HC4
    try clear c2
    try clear p2
    try clear c6
    try clear c7
    try clear c7b0
    try clear c7b1
    obtain ⟨kq, x43_3, rfl, HA, HJ3, HB⟩ := hcut
    cases kq with
    | zero => exact absurd HA.out (by simp [camletlaw40_AsmBack.j0])
    | succ kj3 =>
      have H := HA.out
      clear HA
      simp only [camletlaw40_AsmBack.j0] at H
      by_cases c11 : x43_3 = true
      · subst c11
        have H1 : ((camletlaw40_knows.f kj3).bind fun t146 => (some t146)) = some r := by rw [if_pos rfl] at H; exact H
        clear H
        have H := H1
        clear H1
        replace H := Option.bind_eq_some_iff.mp H
        obtain ⟨t146, A120, H⟩ := H
        replace H : (some t146) = some r := H
        have A12 := Aside0.mk A120
        clear A120
        obtain rfl := Option.some.inj H
        go_wp2_with (first | (go_at_call 9; (with_reducible refine (camletlaw40_knows.calls kj3  t146 _ ?side1 A12.out).mono ?_); (case side1 => exact Laid.mono HG.out (by repeat (first | (with_reducible first | exact HB.out | apply below_alloc | apply pw_below_drewN | apply below_drew1) | exact HB.out))); rintro e w13 ⟨rfl, hb⟩; have n0_ := Aside0.mk (below_step (by repeat (first | (with_reducible first | exact HB.out | apply below_alloc | apply pw_below_drewN | apply below_drew1) | exact HB.out)) hb); clear HB; have HB := n0_; clear n0_; (try clear hb); (try clear hb2); (try clear hk); (try clear hi)))
        go_ret
        exact ⟨by first | rfl | (simp [errW_none, errW_some] <;> rfl) | (simp [*, errW_none, errW_some] <;> rfl), by repeat (first | (with_reducible first | exact HB.out | apply below_alloc | apply pw_below_drewN | apply below_drew1) | exact HB.out)⟩
      · replace c11 := Bool.eq_false_iff.mpr c11
        subst c11
        have H1 : ((asm_Back.f kj3 l2).bind fun bt147 => (if bt147.2.2 = 0 then ((asm_Of.f bt147.1).bind fun bt152 => (if bt152.2.2 = 0 then ((camletref40_SameWords.f kj3 bt152.1 l2).bind fun t157 => (if t157 = true then (camletlaw40_AsmBack.j1 kj3 l0 a1) else (some false))) else (some false))) else (camletlaw40_AsmBack.j1 kj3 l0 a1))) = some r := by rw [if_neg (show ¬ (false = true) by decide)] at H; exact H
        clear H
        have H := H1
        clear H1
        replace H := Option.bind_eq_some_iff.mp H
        obtain ⟨⟨t147, t148, t149⟩, A140, H⟩ := H
        replace H : (if t149 = 0 then ((asm_Of.f t147).bind fun bt152 => (if bt152.2.2 = 0 then ((camletref40_SameWords.f kj3 bt152.1 l2).bind fun t157 => (if t157 = true then (camletlaw40_AsmBack.j1 kj3 l0 a1) else (some false))) else (some false))) else (camletlaw40_AsmBack.j1 kj3 l0 a1)) = some r := H
        have A14 := Aside0.mk A140
        clear A140
        have HC15 := Aside0.mk H
        clear H
        go_upto_if 52 with (first | (go_at_call 17; (with_reducible refine (asm_Back.calls kj3 _ _ l2 t147 t148 t149 _ ?side1 ?side2 A14.out).mono ?_); (case side1 => repeat (first | exact (Kd.C_below HR2.out HB.out) | (with_reducible refine Kd.C_alloc ?_ _) | (with_reducible refine Kd.C_drewN ?_ _) | (with_reducible refine Kd.C_drew ?_))); (case side2 => exact HC2.out); rintro e w16 ⟨v150, rfl, ho0, hb⟩; have n0_ := Aside0.mk (Kd.R_lower ho0 (below_size (by repeat (first | (with_reducible first | exact HB.out | apply below_alloc | apply pw_below_drewN | apply below_drew1) | exact HB.out)))); have n1_ := Aside0.mk (below_step (by repeat (first | (with_reducible first | exact HB.out | apply below_alloc | apply pw_below_drewN | apply below_drew1) | exact HB.out)) hb); clear HB; have HO151 := n0_; have HB := n1_; clear n0_ n1_; (try clear hb); (try clear hb2); (try clear hk); (try clear hi); (try clear ho0)))
        (try simp only [Act.put, List.setIfInBounds_toArray, List.set_cons_zero, List.set_cons_succ])
        go_cut [] (fun wc => ∃ (kq : Nat), Aside0 (camletlaw40_AsmBack.j1 kq l0 a1 = some r) ∧ Aside0 (kq ≤ kj3) ∧ Aside0 (Below w.heap.size w wc))
        case first =>
          have H := HC15.out
          clear HC15
          by_cases c17 : t149 = 0
          · rw [if_pos c17] at H
            have c17b0 : (t149 == 0) = true := beq_iff_eq.mpr c17
            have c17b1 : (t149 != 0) = false := bne_eq_false_iff_eq.mpr c17
            clear c17
            (first | rw [c17b0] | (simp only [i64_w, i32_w]; rw [c17b0]) | skip)
            replace H := Option.bind_eq_some_iff.mp H
            obtain ⟨⟨t152, t153, t154⟩, A180, H⟩ := H
            replace H : (if t154 = 0 then ((camletref40_SameWords.f kj3 t152 l2).bind fun t157 => (if t157 = true then (camletlaw40_AsmBack.j1 kj3 l0 a1) else (some false))) else (some false)) = some r := H
            have A18 := Aside0.mk A180
            clear A180
            by_cases c19 : t154 = 0
            · rw [if_pos c19] at H
              have c19b0 : (t154 == 0) = true := beq_iff_eq.mpr c19
              have c19b1 : (t154 != 0) = false := bne_eq_false_iff_eq.mpr c19
              clear c19
              replace H := Option.bind_eq_some_iff.mp H
              obtain ⟨t157, A200, H⟩ := H
              replace H : (if t157 = true then (camletlaw40_AsmBack.j1 kj3 l0 a1) else (some false)) = some r := H
              have A20 := Aside0.mk A200
              clear A200
              by_cases c21 : t157 = true
              · subst c21
                have H1 : (camletlaw40_AsmBack.j1 kj3 l0 a1) = some r := by rw [if_pos rfl] at H; exact H
                clear H
                have H := H1
                clear H1
                have H' := Aside0.mk H
                clear H
                obtain ⟨Ao22, co22, eo22⟩ := Kd.R_slice HO151.out
                subst eo22
                go_wp2_with (first | (go_at_call 10; (with_reducible refine (asm_Of.calls _ _ t147 t152 t153 t154 _ ?side1 ?side2 A18.out).mono ?_); (case side1 => repeat (first | exact (Kd.R_reads' HO151.out).2.2 | (with_reducible refine Kd.C_alloc ?_ _) | (with_reducible refine Kd.C_drewN ?_ _) | (with_reducible refine Kd.C_drew ?_))); (case side2 => exact (Kd.R_reads' HO151.out).2.1); rintro e w23 ⟨v155, rfl, ho0, hb⟩; have n0_ := Aside0.mk (Kd.R_below (by (with_reducible repeat (first | apply Kd.R_alloc | apply Kd.R_drewN | apply Kd.R_drew)); exact HO151.out) hb); have n1_ := Aside0.mk (Kd.R_lower ho0 (below_size (by repeat (first | (with_reducible first | exact HB.out | apply below_alloc | apply pw_below_drewN | apply below_drew1) | exact HB.out)))); have n2_ := Aside0.mk (below_step (by repeat (first | (with_reducible first | exact HB.out | apply below_alloc | apply pw_below_drewN | apply below_drew1) | exact HB.out)) hb); clear HO151; clear HB; have HO151 := n0_; have HO156 := n1_; have HB := n2_; clear n0_ n1_ n2_; (try clear hb); (try clear hb2); (try clear hk); (try clear hi); (try clear ho0); obtain ⟨Ao24, co24, eo24⟩ := Kd.R_slice HO156.out; subst eo24) | (go_at_call 12; (with_reducible refine (camletref40_SameWords.calls kj3 _ _ t152 _ _ l2 true _ ?side1 ?side2 ?side3 ?side4 A20.out).mono ?_); (case side1 => repeat (first | exact (Kd.R_reads' HO156.out).2.2 | (with_reducible refine Kd.C_alloc ?_ _) | (with_reducible refine Kd.C_drewN ?_ _) | (with_reducible refine Kd.C_drew ?_))); (case side2 => exact (Kd.R_reads' HO156.out).2.1); (case side3 => repeat (first | exact (Kd.C_below HR2.out HB.out) | (with_reducible refine Kd.C_alloc ?_ _) | (with_reducible refine Kd.C_drewN ?_ _) | (with_reducible refine Kd.C_drew ?_))); (case side4 => exact HC2.out); rintro e w' ⟨rfl, ⟨nd, rfl⟩⟩))
                go_meet
                case rel => exact ⟨_, H', ⟨by have := HJ3.out; first | omega | exact Nat.le_refl _⟩, ⟨by repeat (first | (with_reducible first | exact HB.out | apply below_alloc | apply pw_below_drewN | apply below_drew1) | exact HB.out)⟩⟩
              · replace c21 := Bool.eq_false_iff.mpr c21
                subst c21
                have H1 : (some false) = some r := by rw [if_neg (show ¬ (false = true) by decide)] at H; exact H
                clear H
                have H := H1
                clear H1
                obtain rfl := Option.some.inj H
                obtain ⟨Ao25, co25, eo25⟩ := Kd.R_slice HO151.out
                subst eo25
                go_wp2_with (first | (go_at_call 10; (with_reducible refine (asm_Of.calls _ _ t147 t152 t153 t154 _ ?side1 ?side2 A18.out).mono ?_); (case side1 => repeat (first | exact (Kd.R_reads' HO151.out).2.2 | (with_reducible refine Kd.C_alloc ?_ _) | (with_reducible refine Kd.C_drewN ?_ _) | (with_reducible refine Kd.C_drew ?_))); (case side2 => exact (Kd.R_reads' HO151.out).2.1); rintro e w26 ⟨v155, rfl, ho0, hb⟩; have n0_ := Aside0.mk (Kd.R_below (by (with_reducible repeat (first | apply Kd.R_alloc | apply Kd.R_drewN | apply Kd.R_drew)); exact HO151.out) hb); have n1_ := Aside0.mk (Kd.R_lower ho0 (below_size (by repeat (first | (with_reducible first | exact HB.out | apply below_alloc | apply pw_below_drewN | apply below_drew1) | exact HB.out)))); have n2_ := Aside0.mk (below_step (by repeat (first | (with_reducible first | exact HB.out | apply below_alloc | apply pw_below_drewN | apply below_drew1) | exact HB.out)) hb); clear HO151; clear HB; have HO151 := n0_; have HO156 := n1_; have HB := n2_; clear n0_ n1_ n2_; (try clear hb); (try clear hb2); (try clear hk); (try clear hi); (try clear ho0); obtain ⟨Ao27, co27, eo27⟩ := Kd.R_slice HO156.out; subst eo27) | (go_at_call 12; (with_reducible refine (camletref40_SameWords.calls kj3 _ _ t152 _ _ l2 false _ ?side1 ?side2 ?side3 ?side4 A20.out).mono ?_); (case side1 => repeat (first | exact (Kd.R_reads' HO156.out).2.2 | (with_reducible refine Kd.C_alloc ?_ _) | (with_reducible refine Kd.C_drewN ?_ _) | (with_reducible refine Kd.C_drew ?_))); (case side2 => exact (Kd.R_reads' HO156.out).2.1); (case side3 => repeat (first | exact (Kd.C_below HR2.out HB.out) | (with_reducible refine Kd.C_alloc ?_ _) | (with_reducible refine Kd.C_drewN ?_ _) | (with_reducible refine Kd.C_drew ?_))); (case side4 => exact HC2.out); rintro e w' ⟨rfl, ⟨nd, rfl⟩⟩))
                go_ret
                exact ⟨by first | rfl | (simp [errW_none, errW_some] <;> rfl) | (simp [*, errW_none, errW_some] <;> rfl), by repeat (first | (with_reducible first | exact HB.out | apply below_alloc | apply pw_below_drewN | apply below_drew1) | exact HB.out)⟩
            · rw [if_neg c19] at H
              have c19b0 : (t154 == 0) = false := beq_eq_false_iff_ne.mpr c19
              have c19b1 : (t154 != 0) = true := bne_iff_ne.mpr c19
              obtain rfl := Option.some.inj H
              obtain ⟨Ao28, co28, eo28⟩ := Kd.R_slice HO151.out
              subst eo28
              go_wp2_with (first | (go_at_call 10; (with_reducible refine (asm_Of.calls _ _ t147 t152 t153 t154 _ ?side1 ?side2 A18.out).mono ?_); (case side1 => repeat (first | exact (Kd.R_reads' HO151.out).2.2 | (with_reducible refine Kd.C_alloc ?_ _) | (with_reducible refine Kd.C_drewN ?_ _) | (with_reducible refine Kd.C_drew ?_))); (case side2 => exact (Kd.R_reads' HO151.out).2.1); rintro e w29 ⟨v155, rfl, ho0, hb⟩; have n0_ := Aside0.mk (Kd.R_below (by (with_reducible repeat (first | apply Kd.R_alloc | apply Kd.R_drewN | apply Kd.R_drew)); exact HO151.out) hb); have n1_ := Aside0.mk (Kd.R_lower ho0 (below_size (by repeat (first | (with_reducible first | exact HB.out | apply below_alloc | apply pw_below_drewN | apply below_drew1) | exact HB.out)))); have n2_ := Aside0.mk (below_step (by repeat (first | (with_reducible first | exact HB.out | apply below_alloc | apply pw_below_drewN | apply below_drew1) | exact HB.out)) hb); clear HO151; clear HB; have HO151 := n0_; have HO156 := n1_; have HB := n2_; clear n0_ n1_ n2_; (try clear hb); (try clear hb2); (try clear hk); (try clear hi); (try clear ho0)))
              go_ret
              exact ⟨by first | rfl | (simp [errW_none, errW_some] <;> rfl) | (simp [*, errW_none, errW_some] <;> rfl), by repeat (first | (with_reducible first | exact HB.out | apply below_alloc | apply pw_below_drewN | apply below_drew1) | exact HB.out)⟩
          · rw [if_neg c17] at H
            have c17b0 : (t149 == 0) = false := beq_eq_false_iff_ne.mpr c17
            have c17b1 : (t149 != 0) = true := bne_iff_ne.mpr c17
            (first | rw [c17b0] | (simp only [i64_w, i32_w]; rw [c17b0]) | skip)
            have H' := Aside0.mk H
            clear H
            go_wp2
            go_meet
            case rel => exact ⟨_, H', ⟨by have := HJ3.out; first | omega | exact Nat.le_refl _⟩, ⟨by repeat (first | (with_reducible first | exact HB.out | apply below_alloc | apply pw_below_drewN | apply below_drew1) | exact HB.out)⟩⟩
        case rest =>
          clear HC15
          try clear c1
          try clear c2
          try clear p2
          try clear c6
          try clear c7
          try clear c7b0
          try clear c7b1
          try clear c11
          try clear c17
          try clear c17b0
          try clear c17b1
          try clear c19
          try clear c19b0
          try clear c19b1
          try clear c21
          try clear p2
          obtain ⟨kq, HA, HJ14, HB⟩ := hcut
          cases kq with
          | zero => exact absurd HA.out (by simp [camletlaw40_AsmBack.j1])
          | succ kj14 =>
            have H := HA.out
            clear HA
            simp only [camletlaw40_AsmBack.j1] at H
            replace H := Option.bind_eq_some_iff.mp H
            obtain ⟨⟨t158, t159, t160⟩, A300, H⟩ := H
            replace H : (if t160 = 0 then ((asm_Show.f t158).bind fun t163 => (camletlaw40_AsmBack.j2 kj14 l0 (t163.toList != a1.toList))) else (camletlaw40_AsmBack.j2 kj14 l0 false)) = some r := H
            have A30 := Aside0.mk A300
            clear A300
            have HC31 := Aside0.mk H
            clear H
            go_upto_region 9 with (first | (go_at_call 18; (with_reducible refine (asm_Read.calls a1 t158 t159 t160 _ ?side1 A30.out).mono ?_); (case side1 => exact Laid.mono HG.out (by repeat (first | (with_reducible first | exact HB.out | apply below_alloc | apply pw_below_drewN | apply below_drew1) | exact HB.out))); rintro e w32 ⟨v161, rfl, ho0, hb⟩; have n0_ := Aside0.mk (Kd.R_lower ho0 (below_size (by repeat (first | (with_reducible first | exact HB.out | apply below_alloc | apply pw_below_drewN | apply below_drew1) | exact HB.out)))); have n1_ := Aside0.mk (below_step (by repeat (first | (with_reducible first | exact HB.out | apply below_alloc | apply pw_below_drewN | apply below_drew1) | exact HB.out)) hb); clear HB; have HO162 := n0_; have HB := n1_; clear n0_ n1_; (try clear hb); (try clear hb2); (try clear hk); (try clear hi); (try clear ho0)))
            (try simp only [Act.put, List.setIfInBounds_toArray, List.set_cons_zero, List.set_cons_succ])
            go_cut [80] (fun v80 wc => ∃ (kq : Nat) (x80_30 : Bool), v80 = .bool x80_30 ∧ Aside0 (camletlaw40_AsmBack.j2 kq l0 x80_30 = some r) ∧ Aside0 (kq ≤ kj14) ∧ Aside0 (Below w.heap.size w wc))
            case first =>
              have H := HC31.out
              clear HC31
              by_cases c33 : t160 = 0
              · rw [if_pos c33] at H
                have c33b0 : (t160 == 0) = true := beq_iff_eq.mpr c33
                have c33b1 : (t160 != 0) = false := bne_eq_false_iff_eq.mpr c33
                clear c33
                (first | rw [c33b0] | (simp only [i64_w, i32_w]; rw [c33b0]) | skip)
                replace H := Option.bind_eq_some_iff.mp H
                obtain ⟨t163, A340, H⟩ := H
                replace H : (camletlaw40_AsmBack.j2 kj14 l0 (t163.toList != a1.toList)) = some r := H
                have A34 := Aside0.mk A340
                clear A340
                have H' := Aside0.mk H
                clear H
                obtain ⟨Ao35, co35, eo35⟩ := Kd.R_slice HO162.out
                subst eo35
                go_wp2_with (first | (go_at_call 19; (with_reducible refine (asm_Show.calls _ _ t158 t163 _ ?side1 ?side2 ?side3 A34.out).mono ?_); (case side1 => repeat (first | exact (Kd.R_reads' HO162.out).2.2 | (with_reducible refine Kd.C_alloc ?_ _) | (with_reducible refine Kd.C_drewN ?_ _) | (with_reducible refine Kd.C_drew ?_))); (case side2 => exact (Kd.R_reads' HO162.out).2.1); (case side3 => exact Laid.mono HG.out (by repeat (first | (with_reducible first | exact HB.out | apply below_alloc | apply pw_below_drewN | apply below_drew1) | exact HB.out))); rintro e w36 ⟨rfl, hb⟩; have n0_ := Aside0.mk (Kd.R_below (by (with_reducible repeat (first | apply Kd.R_alloc | apply Kd.R_drewN | apply Kd.R_drew)); exact HO162.out) hb); have n1_ := Aside0.mk (below_step (by repeat (first | (with_reducible first | exact HB.out | apply below_alloc | apply pw_below_drewN | apply below_drew1) | exact HB.out)) hb); clear HO162; clear HB; have HO162 := n0_; have HB := n1_; clear n0_ n1_; (try clear hb); (try clear hb2); (try clear hk); (try clear hi)))
                go_meet
                case rel => exact ⟨_, ((t163.toList != a1.toList)), (by first | rfl | (simp; done) | (simp [*]; done) | (simp; generalize ByteArray.toList _ = z_; cases z_ <;> first | rfl | simp)), H', ⟨by have := HJ3.out; have := HJ14.out; first | omega | exact Nat.le_refl _⟩, ⟨by repeat (first | (with_reducible first | exact HB.out | apply below_alloc | apply pw_below_drewN | apply below_drew1) | exact HB.out)⟩⟩
              · rw [if_neg c33] at H
                have c33b0 : (t160 == 0) = false := beq_eq_false_iff_ne.mpr c33
                have c33b1 : (t160 != 0) = true := bne_iff_ne.mpr c33
                (first | rw [c33b0] | (simp only [i64_w, i32_w]; rw [c33b0]) | skip)
                have H' := Aside0.mk H
                clear H
                go_wp2
                go_meet
                case rel => exact ⟨_, (false), (by first | rfl | (simp; done) | (simp [*]; done) | (simp; generalize ByteArray.toList _ = z_; cases z_ <;> first | rfl | simp)), H', ⟨by have := HJ3.out; have := HJ14.out; first | omega | exact Nat.le_refl _⟩, ⟨by repeat (first | (with_reducible first | exact HB.out | apply below_alloc | apply pw_below_drewN | apply below_drew1) | exact HB.out)⟩⟩
            case rest =>
              clear HC31
              try clear c1
              try clear c2
              try clear p2
              try clear c3
              try clear c6
              try clear c7
              try clear c7b0
              try clear c7b1
              try clear c11
              try clear c17
              try clear c17b0
              try clear c17b1
              try clear c19
              try clear c19b0
              try clear c19b1
              try clear c21
              try clear c33
              try clear c33b0
              try clear c33b1
              try clear p2
              obtain ⟨kq, x80_30, rfl, HA, HJ30, HB⟩ := hcut
              cases kq with
              | zero => exact absurd HA.out (by simp [camletlaw40_AsmBack.j2])
              | succ kj30 =>
                have H := HA.out
                clear HA
                simp only [camletlaw40_AsmBack.j2] at H
                by_cases c37 : x80_30 = true
                · subst c37
                  have H1 : (some false) = some r := by rw [if_pos rfl] at H; exact H
                  clear H
                  have H := H1
                  clear H1
                  obtain rfl := Option.some.inj H
                  go_wp2
                  go_ret
                  exact ⟨by first | rfl | (simp [errW_none, errW_some] <;> rfl) | (simp [*, errW_none, errW_some] <;> rfl), by repeat (first | (with_reducible first | exact HB.out | apply below_alloc | apply pw_below_drewN | apply below_drew1) | exact HB.out)⟩
                · replace c37 := Bool.eq_false_iff.mpr c37
                  subst c37
                  have H1 : ((asm_Of.f l0).bind fun bt164 => (if bt164.2.2 = 0 then (camletlaw40_AsmBack.l0 kj30 l0 bt164.1 true l0 (l0.length : Int) 0) else ((camletlaw40_knows.f kj30).bind fun t192 => (some t192)))) = some r := by rw [if_neg (show ¬ (false = true) by decide)] at H; exact H
                  clear H
                  have H := H1
                  clear H1
                  replace H := Option.bind_eq_some_iff.mp H
                  obtain ⟨⟨t164, t165, t166⟩, A380, H⟩ := H
                  replace H : (if t166 = 0 then (camletlaw40_AsmBack.l0 kj30 l0 t164 true l0 (l0.length : Int) 0) else ((camletlaw40_knows.f kj30).bind fun t192 => (some t192))) = some r := H
                  have A38 := Aside0.mk A380
                  clear A380
                  by_cases c39 : t166 = 0
                  · rw [if_pos c39] at H
                    have c39b0 : (t166 == 0) = true := beq_iff_eq.mpr c39
                    have c39b1 : (t166 != 0) = false := bne_eq_false_iff_eq.mpr c39
                    clear c39
                    have H' := Aside0.mk H
                    clear H
                    go_wp2_with (first | (go_at_call 10; (with_reducible refine (asm_Of.calls _ _ l0 t164 t165 t166 _ ?side1 ?side2 A38.out).mono ?_); (case side1 => repeat (first | exact (Kd.C_below HR0.out HB.out) | (with_reducible refine Kd.C_alloc ?_ _) | (with_reducible refine Kd.C_drewN ?_ _) | (with_reducible refine Kd.C_drew ?_))); (case side2 => exact HC0.out); rintro e w40 ⟨v167, rfl, ho0, hb⟩; have n0_ := Aside0.mk (Kd.R_lower ho0 (below_size (by repeat (first | (with_reducible first | exact HB.out | apply below_alloc | apply pw_below_drewN | apply below_drew1) | exact HB.out)))); have n1_ := Aside0.mk (below_step (by repeat (first | (with_reducible first | exact HB.out | apply below_alloc | apply pw_below_drewN | apply below_drew1) | exact HB.out)) hb); clear HB; have HO168 := n0_; have HB := n1_; clear n0_ n1_; (try clear hb); (try clear hb2); (try clear hk); (try clear hi); (try clear ho0)))
                    go_loopg [19, 91] kj30 (fun kq v19 v91 w' => ∃ (x19_4 : Bool) (x91_4 : Int), v19 = .bool x19_4 ∧ v91 = .int .i64 x91_4 ∧ Aside0 (camletlaw40_AsmBack.l0 kq l0 t164 x19_4 l0 (l0.length : Int) x91_4 = some r) ∧ Aside0 (kq ≤ kj30) ∧ Aside0 (Kd.R (Kd.int .u32) 37 w' w.heap.size (fun _ => True) v167 t164) ∧ Aside0 (Below w.heap.size w w'))
                    case atStart => exact ⟨(true), (0), (by first | rfl | (simp; done) | (simp [*]; done) | (simp; generalize ByteArray.toList _ = z_; cases z_ <;> first | rfl | simp)), (by first | rfl | (simp; done) | (simp [*]; done) | (simp; generalize ByteArray.toList _ = z_; cases z_ <;> first | rfl | simp)), H', ⟨Nat.le_refl _⟩, ⟨by (with_reducible repeat (first | apply Kd.R_alloc | apply Kd.R_drewN | apply Kd.R_drew)); exact HO168.out⟩, ⟨by repeat (first | (with_reducible first | exact HB.out | apply below_alloc | apply pw_below_drewN | apply below_drew1) | exact HB.out)⟩⟩
                    case round =>
                      clear H'
                      try clear c1
                      try clear c2
                      try clear p2
                      try clear c3
                      try clear c6
                      try clear c7
                      try clear c7b0
                      try clear c7b1
                      try clear c11
                      try clear c17
                      try clear c17b0
                      try clear c17b1
                      try clear c19
                      try clear c19b0
                      try clear c19b1
                      try clear c21
                      try clear c33
                      try clear c33b0
                      try clear c33b1
                      try clear c37
                      try clear c39
                      try clear c39b0
                      try clear c39b1
                      try clear p2
                      obtain ⟨x19_4, x91_4, rfl, rfl, HA, HK4, HO_16, HB⟩ := hrel
                      cases gk with
                      | zero => exact absurd HA.out (by simp [camletlaw40_AsmBack.l0])
                      | succ k4 =>
                        have H := HA.out
                        clear HA
                        simp only [camletlaw40_AsmBack.l0] at H
                        by_cases c41 : x91_4 < (l0.length : Int)
                        · rw [if_pos c41] at H
                          have c41b0 : decide (x91_4 < (l0.length : Int)) = true := decide_eq_true c41
                          clear c41
                          by_cases c42 : 0 ≤ x91_4
                          · rw [if_pos c42] at H
                            have c42b0 : decide (0 ≤ x91_4) = true := decide_eq_true c42
                            clear c42
                            by_cases c43 : x91_4 < (l0.length : Int)
                            · rw [if_pos c43] at H
                              have c43b0 : decide (x91_4 < (l0.length : Int)) = true := decide_eq_true c43
                              clear c43
                              obtain ⟨y171, hy171⟩ : ∃ y_ : List (S36), y_ = (([(⟨(⟨#[]⟩ : ByteArray), (⟨(rd_T36 l0 x91_4).f1.f0, (rd_T36 l0 x91_4).f1.f1, (rd_T36 l0 x91_4).f1.f2, (rd_T36 l0 x91_4).f1.f3, (rd_T36 l0 x91_4).f1.f4⟩ : S34), (⟨#[]⟩ : ByteArray)⟩ : S36)] : List (S36))) := ⟨_, rfl⟩
                              replace H : ((asm_Of.f y171).bind fun bt174 => (if x19_4 = true then (camletlaw40_AsmBack.l0 k4 l0 t164 (bt174.2.2 == 0) l0 (l0.length : Int) (wrap64 (x91_4 + 1))) else (camletlaw40_AsmBack.l0 k4 l0 t164 false l0 (l0.length : Int) (wrap64 (x91_4 + 1))))) = some r := by first | (rw [hy171]; with_reducible exact H) | (have H2_ := (Option.bind_some _ _).symm.trans H; rw [hy171]; with_reducible exact H2_) | (have H2_ := (Option.bind_some _ _).symm.trans H; with_reducible exact H2_) | with_reducible exact H | (rw [hy171]; exact H) | exact H
                              have Ny171 := Aside0.mk hy171
                              clear hy171
                              replace H := Option.bind_eq_some_iff.mp H
                              obtain ⟨⟨t174, t175, t176⟩, A440, H⟩ := H
                              replace H : (if x19_4 = true then (camletlaw40_AsmBack.l0 k4 l0 t164 (t176 == 0) l0 (l0.length : Int) (wrap64 (x91_4 + 1))) else (camletlaw40_AsmBack.l0 k4 l0 t164 false l0 (l0.length : Int) (wrap64 (x91_4 + 1)))) = some r := H
                              have A44 := Aside0.mk A440
                              clear A440
                              by_cases c45 : x19_4 = true
                              · subst c45
                                have H1 : (camletlaw40_AsmBack.l0 k4 l0 t164 (t176 == 0) l0 (l0.length : Int) (wrap64 (x91_4 + 1))) = some r := by rw [if_pos rfl] at H; exact H
                                clear H
                                have H := H1
                                clear H1
                                have H' := Aside0.mk H
                                clear H
                                have p169 : 0 ≤ (x91_4 : Int) := of_decide_eq_true (by first | (with_reducible assumption) | assumption)
                                have q169 : x91_4 < (l0.length : Int) := of_decide_eq_true (by first | (with_reducible assumption) | assumption)
                                obtain ⟨ad169, e169, hx169_0, hx169_1, hx169_2, hx169_3, hx169_4, hx169_5, hx169_6⟩ := at_T36 HR0.out x91_4 p169 q169
                                cases e169
                                replace hx169_0 := (HB.out.cell (World.block_lt_of_cell? w _ hx169_0)).trans hx169_0
                                replace hx169_1 := (HB.out.cell (World.block_lt_of_cell? w _ hx169_1)).trans hx169_1
                                replace hx169_2 := (HB.out.cell (World.block_lt_of_cell? w _ hx169_2)).trans hx169_2
                                replace hx169_3 := (HB.out.cell (World.block_lt_of_cell? w _ hx169_3)).trans hx169_3
                                replace hx169_4 := (HB.out.cell (World.block_lt_of_cell? w _ hx169_4)).trans hx169_4
                                replace hx169_5 := (HB.out.cell (World.block_lt_of_cell? w _ hx169_5)).trans hx169_5
                                replace hx169_6 := (HB.out.cell (World.block_lt_of_cell? w _ hx169_6)).trans hx169_6
                                replace p169 := eq_true p169
                                replace q169 := eq_true q169
                                go_wp2_with (first | ((with_reducible refine gate_dst (N := 21) rfl ?_); (try (refine gate_guard (by rfl) ?_; dsimp only)); refine box_event ?hg (N := 21) ?hd (cs := #[.string (⟨#[]⟩ : ByteArray), .int .i64 0, .int .i64 0, .int .i64 0, .int .i64 0, .int .i64 0, .string (⟨#[]⟩ : ByteArray)]) (t := 36) ?hr ?_; (case hd => rfl); (case hg => rfl); (case hr => first | (go_simp; done) | (go_simp; rfl)); intro gb170 hg w46 hbox hb; have n0_ := Aside0.mk (Kd.R_below (by (with_reducible repeat (first | apply Kd.R_alloc | apply Kd.R_drewN | apply Kd.R_drew)); exact HO_16.out) hb); have n1_ := Aside0.mk (below_step (by repeat (first | (with_reducible first | exact HB.out | apply below_alloc | apply pw_below_drewN | apply below_drew1) | exact HB.out)) hb); have n2_ := Aside0.mk (hbox); have n3_ := Aside0.mk ((by rw [hg]; exact (below_size (by repeat (first | (with_reducible first | exact HB.out | apply below_alloc | apply pw_below_drewN | apply below_drew1) | exact HB.out))) : w.heap.size ≤ gb170)); have n4_ := Aside0.mk ((by rw [hg]; exact (below_size (by repeat (first | (with_reducible first | exact HB.out | apply below_alloc | apply pw_below_drewN | apply below_drew1) | exact HB.out))) : w.heap.size ≤ gb170)); clear HO_16; clear HB; have HO_16 := n0_; have HB := n1_; have BK170 := n2_; have GW170 := n3_; have GE170 := n4_; clear n0_ n1_ n2_ n3_ n4_; clear hb hbox hg; have hcz47_0 : w46.cell? ⟨gb170, 0, none⟩ = some (.string (⟨#[]⟩ : ByteArray)) := (blk_cell BK170.out 0).trans rfl; have hcz47_1 : w46.cell? ⟨gb170, 1, none⟩ = some (.int .i64 0) := (blk_cell BK170.out 1).trans rfl; have hcz47_2 : w46.cell? ⟨gb170, 2, none⟩ = some (.int .i64 0) := (blk_cell BK170.out 2).trans rfl; have hcz47_3 : w46.cell? ⟨gb170, 3, none⟩ = some (.int .i64 0) := (blk_cell BK170.out 3).trans rfl; have hcz47_4 : w46.cell? ⟨gb170, 4, none⟩ = some (.int .i64 0) := (blk_cell BK170.out 4).trans rfl; have hcz47_5 : w46.cell? ⟨gb170, 5, none⟩ = some (.int .i64 0) := (blk_cell BK170.out 5).trans rfl; have hcz47_6 : w46.cell? ⟨gb170, 6, none⟩ = some (.string (⟨#[]⟩ : ByteArray)) := (blk_cell BK170.out 6).trans rfl; have hfz47_0 := blk_frozen BK170.out 0; have hfz47_1 := blk_frozen BK170.out 1; have hfz47_2 := blk_frozen BK170.out 2; have hfz47_3 := blk_frozen BK170.out 3; have hfz47_4 := blk_frozen BK170.out 4; have hfz47_5 := blk_frozen BK170.out 5; have hfz47_6 := blk_frozen BK170.out 6) | ((with_reducible refine gate_dst (N := 100) rfl ?_); (try (refine gate_guard (by rfl) ?_; dsimp only)); refine Kd.R_lit k36 _ 36 ?hg (N := 100) ?hd (xs := ([(⟨(⟨#[]⟩ : ByteArray), (⟨(rd_T36 l0 x91_4).f1.f0, (rd_T36 l0 x91_4).f1.f1, (rd_T36 l0 x91_4).f1.f2, (rd_T36 l0 x91_4).f1.f3, (rd_T36 l0 x91_4).f1.f4⟩ : S34), (⟨#[]⟩ : ByteArray)⟩ : S36)] : List (S36))) (inner := [.string (⟨#[]⟩ : ByteArray), .int .i64 ((rd_T36 l0 x91_4).f1.f0), .int .i64 ((rd_T36 l0 x91_4).f1.f1), .int .i64 ((rd_T36 l0 x91_4).f1.f2), .int .i64 ((rd_T36 l0 x91_4).f1.f3), .int .i64 ((rd_T36 l0 x91_4).f1.f4), .string (⟨#[]⟩ : ByteArray)]) (ok := fun _ => True) (okp := fun _ => True) ?hr ?hp (fun _ hk => hk) trivial (Below.refl _ _) (Nat.le_refl _) (by simp) ?_; (case hd => rfl); (case hg => rfl); (case hr => first | (go_simp; done) | (go_simp; rfl)); (case hp => exact (Reps.c7 (show Kd.M k36 _ _ _ (⟨(⟨#[]⟩ : ByteArray), (⟨(rd_T36 l0 x91_4).f1.f0, (rd_T36 l0 x91_4).f1.f1, (rd_T36 l0 x91_4).f1.f2, (rd_T36 l0 x91_4).f1.f3, (rd_T36 l0 x91_4).f1.f4⟩ : S34), (⟨#[]⟩ : ByteArray)⟩ : S36) [.string (⟨#[]⟩ : ByteArray), .int .i64 ((rd_T36 l0 x91_4).f1.f0), .int .i64 ((rd_T36 l0 x91_4).f1.f1), .int .i64 ((rd_T36 l0 x91_4).f1.f2), .int .i64 ((rd_T36 l0 x91_4).f1.f3), .int .i64 ((rd_T36 l0 x91_4).f1.f4), .string (⟨#[]⟩ : ByteArray)] from (k36_mkM _ _ _ (⟨(⟨#[]⟩ : ByteArray), (⟨(rd_T36 l0 x91_4).f1.f0, (rd_T36 l0 x91_4).f1.f1, (rd_T36 l0 x91_4).f1.f2, (rd_T36 l0 x91_4).f1.f3, (rd_T36 l0 x91_4).f1.f4⟩ : S34), (⟨#[]⟩ : ByteArray)⟩ : S36) )) (Reps.none _ _))); intro v172 w48 ho49 hb hg_ hnew_; clear hg_ hnew_; (first | rw [← Ny171.out] at ho49 | (simp only [Int.reduceToNat] at ho49; rw [← Ny171.out] at ho49)); have n0_ := Aside0.mk (Kd.R_below (by (with_reducible repeat (first | apply Kd.R_alloc | apply Kd.R_drewN | apply Kd.R_drew)); exact (Kd.R_mono (Kd.R_far (p := ⟨gb170, 6, none⟩) (Kd.R_far (p := ⟨gb170, 6, none⟩) (Kd.R_far (p := ⟨gb170, 5, none⟩) (Kd.R_far (p := ⟨gb170, 4, none⟩) (Kd.R_far (p := ⟨gb170, 3, none⟩) (Kd.R_far (p := ⟨gb170, 2, none⟩) (Kd.R_far (p := ⟨gb170, 1, none⟩) (Kd.R_far (p := ⟨gb170, 0, none⟩) (Kd.R_types HO_16.out BK170.out (by decide)) (fun _ hk => hk.2) (.string ((rd_T36 l0 x91_4).f0))) (fun _ hk => hk.2) (.int .i64 ((rd_T36 l0 x91_4).f1.f0))) (fun _ hk => hk.2) (.int .i64 ((rd_T36 l0 x91_4).f1.f1))) (fun _ hk => hk.2) (.int .i64 ((rd_T36 l0 x91_4).f1.f2))) (fun _ hk => hk.2) (.int .i64 ((rd_T36 l0 x91_4).f1.f3))) (fun _ hk => hk.2) (.int .i64 ((rd_T36 l0 x91_4).f1.f4))) (fun _ hk => hk.2) (.string ((rd_T36 l0 x91_4).f2))) (fun _ hk => hk.2) (.string (⟨#[]⟩ : ByteArray))) (fun _ h_ => h_.1))) hb); have n1_ := Aside0.mk (Kd.R_lower (Kd.R_newB ho49 (g := gb170) (o := .cells #[.string ((rd_T36 l0 x91_4).f0), .int .i64 ((rd_T36 l0 x91_4).f1.f0), .int .i64 ((rd_T36 l0 x91_4).f1.f1), .int .i64 ((rd_T36 l0 x91_4).f1.f2), .int .i64 ((rd_T36 l0 x91_4).f1.f3), .int .i64 ((rd_T36 l0 x91_4).f1.f4), .string (⟨#[]⟩ : ByteArray)] 36 (0, 0)) (by (with_reducible repeat (first | refine blk_drewN ?_ _ | refine blk_drew ?_ | refine blk_alloc ?_ _)); refine blk_put (cs := #[.string ((rd_T36 l0 x91_4).f0), .int .i64 ((rd_T36 l0 x91_4).f1.f0), .int .i64 ((rd_T36 l0 x91_4).f1.f1), .int .i64 ((rd_T36 l0 x91_4).f1.f2), .int .i64 ((rd_T36 l0 x91_4).f1.f3), .int .i64 ((rd_T36 l0 x91_4).f1.f4), .string ((rd_T36 l0 x91_4).f2)]) ?_ 6 _ rfl; (with_reducible repeat (first | refine blk_drewN ?_ _ | refine blk_drew ?_ | refine blk_alloc ?_ _)); refine blk_put (cs := #[.string ((rd_T36 l0 x91_4).f0), .int .i64 ((rd_T36 l0 x91_4).f1.f0), .int .i64 ((rd_T36 l0 x91_4).f1.f1), .int .i64 ((rd_T36 l0 x91_4).f1.f2), .int .i64 ((rd_T36 l0 x91_4).f1.f3), .int .i64 ((rd_T36 l0 x91_4).f1.f4), .string (⟨#[]⟩ : ByteArray)]) ?_ 6 _ rfl; (with_reducible repeat (first | refine blk_drewN ?_ _ | refine blk_drew ?_ | refine blk_alloc ?_ _)); refine blk_put (cs := #[.string ((rd_T36 l0 x91_4).f0), .int .i64 ((rd_T36 l0 x91_4).f1.f0), .int .i64 ((rd_T36 l0 x91_4).f1.f1), .int .i64 ((rd_T36 l0 x91_4).f1.f2), .int .i64 ((rd_T36 l0 x91_4).f1.f3), .int .i64 0, .string (⟨#[]⟩ : ByteArray)]) ?_ 5 _ rfl; (with_reducible repeat (first | refine blk_drewN ?_ _ | refine blk_drew ?_ | refine blk_alloc ?_ _)); refine blk_put (cs := #[.string ((rd_T36 l0 x91_4).f0), .int .i64 ((rd_T36 l0 x91_4).f1.f0), .int .i64 ((rd_T36 l0 x91_4).f1.f1), .int .i64 ((rd_T36 l0 x91_4).f1.f2), .int .i64 0, .int .i64 0, .string (⟨#[]⟩ : ByteArray)]) ?_ 4 _ rfl; (with_reducible repeat (first | refine blk_drewN ?_ _ | refine blk_drew ?_ | refine blk_alloc ?_ _)); refine blk_put (cs := #[.string ((rd_T36 l0 x91_4).f0), .int .i64 ((rd_T36 l0 x91_4).f1.f0), .int .i64 ((rd_T36 l0 x91_4).f1.f1), .int .i64 0, .int .i64 0, .int .i64 0, .string (⟨#[]⟩ : ByteArray)]) ?_ 3 _ rfl; (with_reducible repeat (first | refine blk_drewN ?_ _ | refine blk_drew ?_ | refine blk_alloc ?_ _)); refine blk_put (cs := #[.string ((rd_T36 l0 x91_4).f0), .int .i64 ((rd_T36 l0 x91_4).f1.f0), .int .i64 0, .int .i64 0, .int .i64 0, .int .i64 0, .string (⟨#[]⟩ : ByteArray)]) ?_ 2 _ rfl; (with_reducible repeat (first | refine blk_drewN ?_ _ | refine blk_drew ?_ | refine blk_alloc ?_ _)); refine blk_put (cs := #[.string ((rd_T36 l0 x91_4).f0), .int .i64 0, .int .i64 0, .int .i64 0, .int .i64 0, .int .i64 0, .string (⟨#[]⟩ : ByteArray)]) ?_ 1 _ rfl; (with_reducible repeat (first | refine blk_drewN ?_ _ | refine blk_drew ?_ | refine blk_alloc ?_ _)); refine blk_put (cs := #[.string (⟨#[]⟩ : ByteArray), .int .i64 0, .int .i64 0, .int .i64 0, .int .i64 0, .int .i64 0, .string (⟨#[]⟩ : ByteArray)]) ?_ 0 _ rfl; (with_reducible repeat (first | refine blk_drewN ?_ _ | refine blk_drew ?_ | refine blk_alloc ?_ _)); exact BK170.out)) (below_size (by repeat (first | (with_reducible first | exact HB.out | apply below_alloc | apply pw_below_drewN | apply below_drew1 | refine below_set ?_ GE170.out) | exact HB.out)))); have n2_ := Aside0.mk (blk_below (g := gb170) (o := .cells #[.string ((rd_T36 l0 x91_4).f0), .int .i64 ((rd_T36 l0 x91_4).f1.f0), .int .i64 ((rd_T36 l0 x91_4).f1.f1), .int .i64 ((rd_T36 l0 x91_4).f1.f2), .int .i64 ((rd_T36 l0 x91_4).f1.f3), .int .i64 ((rd_T36 l0 x91_4).f1.f4), .string (⟨#[]⟩ : ByteArray)] 36 (0, 0)) (by (with_reducible repeat (first | refine blk_drewN ?_ _ | refine blk_drew ?_ | refine blk_alloc ?_ _)); refine blk_put (cs := #[.string ((rd_T36 l0 x91_4).f0), .int .i64 ((rd_T36 l0 x91_4).f1.f0), .int .i64 ((rd_T36 l0 x91_4).f1.f1), .int .i64 ((rd_T36 l0 x91_4).f1.f2), .int .i64 ((rd_T36 l0 x91_4).f1.f3), .int .i64 ((rd_T36 l0 x91_4).f1.f4), .string ((rd_T36 l0 x91_4).f2)]) ?_ 6 _ rfl; (with_reducible repeat (first | refine blk_drewN ?_ _ | refine blk_drew ?_ | refine blk_alloc ?_ _)); refine blk_put (cs := #[.string ((rd_T36 l0 x91_4).f0), .int .i64 ((rd_T36 l0 x91_4).f1.f0), .int .i64 ((rd_T36 l0 x91_4).f1.f1), .int .i64 ((rd_T36 l0 x91_4).f1.f2), .int .i64 ((rd_T36 l0 x91_4).f1.f3), .int .i64 ((rd_T36 l0 x91_4).f1.f4), .string (⟨#[]⟩ : ByteArray)]) ?_ 6 _ rfl; (with_reducible repeat (first | refine blk_drewN ?_ _ | refine blk_drew ?_ | refine blk_alloc ?_ _)); refine blk_put (cs := #[.string ((rd_T36 l0 x91_4).f0), .int .i64 ((rd_T36 l0 x91_4).f1.f0), .int .i64 ((rd_T36 l0 x91_4).f1.f1), .int .i64 ((rd_T36 l0 x91_4).f1.f2), .int .i64 ((rd_T36 l0 x91_4).f1.f3), .int .i64 0, .string (⟨#[]⟩ : ByteArray)]) ?_ 5 _ rfl; (with_reducible repeat (first | refine blk_drewN ?_ _ | refine blk_drew ?_ | refine blk_alloc ?_ _)); refine blk_put (cs := #[.string ((rd_T36 l0 x91_4).f0), .int .i64 ((rd_T36 l0 x91_4).f1.f0), .int .i64 ((rd_T36 l0 x91_4).f1.f1), .int .i64 ((rd_T36 l0 x91_4).f1.f2), .int .i64 0, .int .i64 0, .string (⟨#[]⟩ : ByteArray)]) ?_ 4 _ rfl; (with_reducible repeat (first | refine blk_drewN ?_ _ | refine blk_drew ?_ | refine blk_alloc ?_ _)); refine blk_put (cs := #[.string ((rd_T36 l0 x91_4).f0), .int .i64 ((rd_T36 l0 x91_4).f1.f0), .int .i64 ((rd_T36 l0 x91_4).f1.f1), .int .i64 0, .int .i64 0, .int .i64 0, .string (⟨#[]⟩ : ByteArray)]) ?_ 3 _ rfl; (with_reducible repeat (first | refine blk_drewN ?_ _ | refine blk_drew ?_ | refine blk_alloc ?_ _)); refine blk_put (cs := #[.string ((rd_T36 l0 x91_4).f0), .int .i64 ((rd_T36 l0 x91_4).f1.f0), .int .i64 0, .int .i64 0, .int .i64 0, .int .i64 0, .string (⟨#[]⟩ : ByteArray)]) ?_ 2 _ rfl; (with_reducible repeat (first | refine blk_drewN ?_ _ | refine blk_drew ?_ | refine blk_alloc ?_ _)); refine blk_put (cs := #[.string ((rd_T36 l0 x91_4).f0), .int .i64 0, .int .i64 0, .int .i64 0, .int .i64 0, .int .i64 0, .string (⟨#[]⟩ : ByteArray)]) ?_ 1 _ rfl; (with_reducible repeat (first | refine blk_drewN ?_ _ | refine blk_drew ?_ | refine blk_alloc ?_ _)); refine blk_put (cs := #[.string (⟨#[]⟩ : ByteArray), .int .i64 0, .int .i64 0, .int .i64 0, .int .i64 0, .int .i64 0, .string (⟨#[]⟩ : ByteArray)]) ?_ 0 _ rfl; (with_reducible repeat (first | refine blk_drewN ?_ _ | refine blk_drew ?_ | refine blk_alloc ?_ _)); exact BK170.out) hb); have n3_ := Aside0.mk (below_step (by repeat (first | (with_reducible first | exact HB.out | apply below_alloc | apply pw_below_drewN | apply below_drew1 | refine below_set ?_ GE170.out) | exact HB.out)) hb); clear HO_16; clear BK170; clear HB; have HO_16 := n0_; have HO173 := n1_; have BK170 := n2_; have HB := n3_; clear n0_ n1_ n2_ n3_; clear hb ho49; obtain ⟨Ao50, co50, eo50⟩ := Kd.R_slice HO173.out; subst eo50) | (go_at_call 10; (with_reducible refine (asm_Of.calls _ _ y171 t174 t175 t176 _ ?side1 ?side2 A44.out).mono ?_); (case side1 => repeat (first | exact (Kd.R_reads' HO173.out).2.2 | (with_reducible refine Kd.C_alloc ?_ _) | (with_reducible refine Kd.C_drewN ?_ _) | (with_reducible refine Kd.C_drew ?_))); (case side2 => exact (Kd.R_reads' HO173.out).2.1); rintro e w51 ⟨v177, rfl, ho0, hb⟩; have n0_ := Aside0.mk (Kd.R_elder' (by (with_reducible repeat (first | apply Kd.R_alloc | apply Kd.R_drewN | apply Kd.R_drew)); exact HO_16.out) (Kd.R_base ho0) hb); have n1_ := Aside0.mk (Kd.R_below (by (with_reducible repeat (first | apply Kd.R_alloc | apply Kd.R_drewN | apply Kd.R_drew)); exact HO173.out) hb); have n2_ := Aside0.mk (Kd.R_lower (Kd.R_new' ho0 (Kd.R_lt (by (with_reducible repeat (first | apply Kd.R_alloc | apply Kd.R_drewN | apply Kd.R_drew)); exact HO_16.out))) (below_size (by repeat (first | (with_reducible first | exact HB.out | apply below_alloc | apply pw_below_drewN | apply below_drew1 | refine below_set ?_ GE170.out) | exact HB.out)))); have n3_ := Aside0.mk (blk_below (g := gb170) (o := .cells #[.string ((rd_T36 l0 x91_4).f0), .int .i64 ((rd_T36 l0 x91_4).f1.f0), .int .i64 ((rd_T36 l0 x91_4).f1.f1), .int .i64 ((rd_T36 l0 x91_4).f1.f2), .int .i64 ((rd_T36 l0 x91_4).f1.f3), .int .i64 ((rd_T36 l0 x91_4).f1.f4), .string (⟨#[]⟩ : ByteArray)] 36 (0, 0)) (by (with_reducible repeat (first | refine blk_drewN ?_ _ | refine blk_drew ?_ | refine blk_alloc ?_ _)); exact BK170.out) hb); have n4_ := Aside0.mk (below_step (by repeat (first | (with_reducible first | exact HB.out | apply below_alloc | apply pw_below_drewN | apply below_drew1 | refine below_set ?_ GE170.out) | exact HB.out)) hb); clear HO_16; clear HO173; clear BK170; clear HB; have HO_16 := n0_; have HO173 := n1_; have HO178 := n2_; have BK170 := n3_; have HB := n4_; clear n0_ n1_ n2_ n3_ n4_; (try clear hb); (try clear hb2); (try clear hk); (try clear hi); (try clear ho0)))
                                go_roundg k4
                                case measure => have := HJ3.out; have := HJ14.out; have := HJ30.out; have := HK4.out; omega
                                case rel => exact ⟨((t176 == 0)), (wrap64 (x91_4 + 1)), (by first | rfl | (simp; done) | (simp [*]; done) | (simp; generalize ByteArray.toList _ = z_; cases z_ <;> first | rfl | simp)), (by first | rfl | (simp; done) | (simp [*]; done) | (simp; generalize ByteArray.toList _ = z_; cases z_ <;> first | rfl | simp)), H', ⟨by have := HJ3.out; have := HJ14.out; have := HJ30.out; have := HK4.out; omega⟩, ⟨by (with_reducible repeat (first | apply Kd.R_alloc | apply Kd.R_drewN | apply Kd.R_drew)); exact Kd.R_mono HO_16.out (fun _ hk => trivial)⟩, ⟨by repeat (first | (with_reducible first | exact HB.out | apply below_alloc | apply pw_below_drewN | apply below_drew1 | refine below_set ?_ GE170.out) | exact HB.out)⟩⟩
                              · replace c45 := Bool.eq_false_iff.mpr c45
                                subst c45
                                have H1 : (camletlaw40_AsmBack.l0 k4 l0 t164 false l0 (l0.length : Int) (wrap64 (x91_4 + 1))) = some r := by rw [if_neg (show ¬ (false = true) by decide)] at H; exact H
                                clear H
                                have H := H1
                                clear H1
                                have H' := Aside0.mk H
                                clear H
                                have p169 : 0 ≤ (x91_4 : Int) := of_decide_eq_true (by first | (with_reducible assumption) | assumption)
                                have q169 : x91_4 < (l0.length : Int) := of_decide_eq_true (by first | (with_reducible assumption) | assumption)
                                obtain ⟨ad169, e169, hx169_0, hx169_1, hx169_2, hx169_3, hx169_4, hx169_5, hx169_6⟩ := at_T36 HR0.out x91_4 p169 q169
                                cases e169
                                replace hx169_0 := (HB.out.cell (World.block_lt_of_cell? w _ hx169_0)).trans hx169_0
                                replace hx169_1 := (HB.out.cell (World.block_lt_of_cell? w _ hx169_1)).trans hx169_1
                                replace hx169_2 := (HB.out.cell (World.block_lt_of_cell? w _ hx169_2)).trans hx169_2
                                replace hx169_3 := (HB.out.cell (World.block_lt_of_cell? w _ hx169_3)).trans hx169_3
                                replace hx169_4 := (HB.out.cell (World.block_lt_of_cell? w _ hx169_4)).trans hx169_4
                                replace hx169_5 := (HB.out.cell (World.block_lt_of_cell? w _ hx169_5)).trans hx169_5
                                replace hx169_6 := (HB.out.cell (World.block_lt_of_cell? w _ hx169_6)).trans hx169_6
                                replace p169 := eq_true p169
                                replace q169 := eq_true q169
                                go_wp2_with (first | ((with_reducible refine gate_dst (N := 21) rfl ?_); (try (refine gate_guard (by rfl) ?_; dsimp only)); refine box_event ?hg (N := 21) ?hd (cs := #[.string (⟨#[]⟩ : ByteArray), .int .i64 0, .int .i64 0, .int .i64 0, .int .i64 0, .int .i64 0, .string (⟨#[]⟩ : ByteArray)]) (t := 36) ?hr ?_; (case hd => rfl); (case hg => rfl); (case hr => first | (go_simp; done) | (go_simp; rfl)); intro gb170 hg w52 hbox hb; have n0_ := Aside0.mk (Kd.R_below (by (with_reducible repeat (first | apply Kd.R_alloc | apply Kd.R_drewN | apply Kd.R_drew)); exact HO_16.out) hb); have n1_ := Aside0.mk (below_step (by repeat (first | (with_reducible first | exact HB.out | apply below_alloc | apply pw_below_drewN | apply below_drew1) | exact HB.out)) hb); have n2_ := Aside0.mk (hbox); have n3_ := Aside0.mk ((by rw [hg]; exact (below_size (by repeat (first | (with_reducible first | exact HB.out | apply below_alloc | apply pw_below_drewN | apply below_drew1) | exact HB.out))) : w.heap.size ≤ gb170)); have n4_ := Aside0.mk ((by rw [hg]; exact (below_size (by repeat (first | (with_reducible first | exact HB.out | apply below_alloc | apply pw_below_drewN | apply below_drew1) | exact HB.out))) : w.heap.size ≤ gb170)); clear HO_16; clear HB; have HO_16 := n0_; have HB := n1_; have BK170 := n2_; have GW170 := n3_; have GE170 := n4_; clear n0_ n1_ n2_ n3_ n4_; clear hb hbox hg; have hcz53_0 : w52.cell? ⟨gb170, 0, none⟩ = some (.string (⟨#[]⟩ : ByteArray)) := (blk_cell BK170.out 0).trans rfl; have hcz53_1 : w52.cell? ⟨gb170, 1, none⟩ = some (.int .i64 0) := (blk_cell BK170.out 1).trans rfl; have hcz53_2 : w52.cell? ⟨gb170, 2, none⟩ = some (.int .i64 0) := (blk_cell BK170.out 2).trans rfl; have hcz53_3 : w52.cell? ⟨gb170, 3, none⟩ = some (.int .i64 0) := (blk_cell BK170.out 3).trans rfl; have hcz53_4 : w52.cell? ⟨gb170, 4, none⟩ = some (.int .i64 0) := (blk_cell BK170.out 4).trans rfl; have hcz53_5 : w52.cell? ⟨gb170, 5, none⟩ = some (.int .i64 0) := (blk_cell BK170.out 5).trans rfl; have hcz53_6 : w52.cell? ⟨gb170, 6, none⟩ = some (.string (⟨#[]⟩ : ByteArray)) := (blk_cell BK170.out 6).trans rfl; have hfz53_0 := blk_frozen BK170.out 0; have hfz53_1 := blk_frozen BK170.out 1; have hfz53_2 := blk_frozen BK170.out 2; have hfz53_3 := blk_frozen BK170.out 3; have hfz53_4 := blk_frozen BK170.out 4; have hfz53_5 := blk_frozen BK170.out 5; have hfz53_6 := blk_frozen BK170.out 6) | ((with_reducible refine gate_dst (N := 100) rfl ?_); (try (refine gate_guard (by rfl) ?_; dsimp only)); refine Kd.R_lit k36 _ 36 ?hg (N := 100) ?hd (xs := ([(⟨(⟨#[]⟩ : ByteArray), (⟨(rd_T36 l0 x91_4).f1.f0, (rd_T36 l0 x91_4).f1.f1, (rd_T36 l0 x91_4).f1.f2, (rd_T36 l0 x91_4).f1.f3, (rd_T36 l0 x91_4).f1.f4⟩ : S34), (⟨#[]⟩ : ByteArray)⟩ : S36)] : List (S36))) (inner := [.string (⟨#[]⟩ : ByteArray), .int .i64 ((rd_T36 l0 x91_4).f1.f0), .int .i64 ((rd_T36 l0 x91_4).f1.f1), .int .i64 ((rd_T36 l0 x91_4).f1.f2), .int .i64 ((rd_T36 l0 x91_4).f1.f3), .int .i64 ((rd_T36 l0 x91_4).f1.f4), .string (⟨#[]⟩ : ByteArray)]) (ok := fun _ => True) (okp := fun _ => True) ?hr ?hp (fun _ hk => hk) trivial (Below.refl _ _) (Nat.le_refl _) (by simp) ?_; (case hd => rfl); (case hg => rfl); (case hr => first | (go_simp; done) | (go_simp; rfl)); (case hp => exact (Reps.c7 (show Kd.M k36 _ _ _ (⟨(⟨#[]⟩ : ByteArray), (⟨(rd_T36 l0 x91_4).f1.f0, (rd_T36 l0 x91_4).f1.f1, (rd_T36 l0 x91_4).f1.f2, (rd_T36 l0 x91_4).f1.f3, (rd_T36 l0 x91_4).f1.f4⟩ : S34), (⟨#[]⟩ : ByteArray)⟩ : S36) [.string (⟨#[]⟩ : ByteArray), .int .i64 ((rd_T36 l0 x91_4).f1.f0), .int .i64 ((rd_T36 l0 x91_4).f1.f1), .int .i64 ((rd_T36 l0 x91_4).f1.f2), .int .i64 ((rd_T36 l0 x91_4).f1.f3), .int .i64 ((rd_T36 l0 x91_4).f1.f4), .string (⟨#[]⟩ : ByteArray)] from (k36_mkM _ _ _ (⟨(⟨#[]⟩ : ByteArray), (⟨(rd_T36 l0 x91_4).f1.f0, (rd_T36 l0 x91_4).f1.f1, (rd_T36 l0 x91_4).f1.f2, (rd_T36 l0 x91_4).f1.f3, (rd_T36 l0 x91_4).f1.f4⟩ : S34), (⟨#[]⟩ : ByteArray)⟩ : S36) )) (Reps.none _ _))); intro v172 w54 ho55 hb hg_ hnew_; clear hg_ hnew_; (first | rw [← Ny171.out] at ho55 | (simp only [Int.reduceToNat] at ho55; rw [← Ny171.out] at ho55)); have n0_ := Aside0.mk (Kd.R_below (by (with_reducible repeat (first | apply Kd.R_alloc | apply Kd.R_drewN | apply Kd.R_drew)); exact (Kd.R_mono (Kd.R_far (p := ⟨gb170, 6, none⟩) (Kd.R_far (p := ⟨gb170, 6, none⟩) (Kd.R_far (p := ⟨gb170, 5, none⟩) (Kd.R_far (p := ⟨gb170, 4, none⟩) (Kd.R_far (p := ⟨gb170, 3, none⟩) (Kd.R_far (p := ⟨gb170, 2, none⟩) (Kd.R_far (p := ⟨gb170, 1, none⟩) (Kd.R_far (p := ⟨gb170, 0, none⟩) (Kd.R_types HO_16.out BK170.out (by decide)) (fun _ hk => hk.2) (.string ((rd_T36 l0 x91_4).f0))) (fun _ hk => hk.2) (.int .i64 ((rd_T36 l0 x91_4).f1.f0))) (fun _ hk => hk.2) (.int .i64 ((rd_T36 l0 x91_4).f1.f1))) (fun _ hk => hk.2) (.int .i64 ((rd_T36 l0 x91_4).f1.f2))) (fun _ hk => hk.2) (.int .i64 ((rd_T36 l0 x91_4).f1.f3))) (fun _ hk => hk.2) (.int .i64 ((rd_T36 l0 x91_4).f1.f4))) (fun _ hk => hk.2) (.string ((rd_T36 l0 x91_4).f2))) (fun _ hk => hk.2) (.string (⟨#[]⟩ : ByteArray))) (fun _ h_ => h_.1))) hb); have n1_ := Aside0.mk (Kd.R_lower (Kd.R_newB ho55 (g := gb170) (o := .cells #[.string ((rd_T36 l0 x91_4).f0), .int .i64 ((rd_T36 l0 x91_4).f1.f0), .int .i64 ((rd_T36 l0 x91_4).f1.f1), .int .i64 ((rd_T36 l0 x91_4).f1.f2), .int .i64 ((rd_T36 l0 x91_4).f1.f3), .int .i64 ((rd_T36 l0 x91_4).f1.f4), .string (⟨#[]⟩ : ByteArray)] 36 (0, 0)) (by (with_reducible repeat (first | refine blk_drewN ?_ _ | refine blk_drew ?_ | refine blk_alloc ?_ _)); refine blk_put (cs := #[.string ((rd_T36 l0 x91_4).f0), .int .i64 ((rd_T36 l0 x91_4).f1.f0), .int .i64 ((rd_T36 l0 x91_4).f1.f1), .int .i64 ((rd_T36 l0 x91_4).f1.f2), .int .i64 ((rd_T36 l0 x91_4).f1.f3), .int .i64 ((rd_T36 l0 x91_4).f1.f4), .string ((rd_T36 l0 x91_4).f2)]) ?_ 6 _ rfl; (with_reducible repeat (first | refine blk_drewN ?_ _ | refine blk_drew ?_ | refine blk_alloc ?_ _)); refine blk_put (cs := #[.string ((rd_T36 l0 x91_4).f0), .int .i64 ((rd_T36 l0 x91_4).f1.f0), .int .i64 ((rd_T36 l0 x91_4).f1.f1), .int .i64 ((rd_T36 l0 x91_4).f1.f2), .int .i64 ((rd_T36 l0 x91_4).f1.f3), .int .i64 ((rd_T36 l0 x91_4).f1.f4), .string (⟨#[]⟩ : ByteArray)]) ?_ 6 _ rfl; (with_reducible repeat (first | refine blk_drewN ?_ _ | refine blk_drew ?_ | refine blk_alloc ?_ _)); refine blk_put (cs := #[.string ((rd_T36 l0 x91_4).f0), .int .i64 ((rd_T36 l0 x91_4).f1.f0), .int .i64 ((rd_T36 l0 x91_4).f1.f1), .int .i64 ((rd_T36 l0 x91_4).f1.f2), .int .i64 ((rd_T36 l0 x91_4).f1.f3), .int .i64 0, .string (⟨#[]⟩ : ByteArray)]) ?_ 5 _ rfl; (with_reducible repeat (first | refine blk_drewN ?_ _ | refine blk_drew ?_ | refine blk_alloc ?_ _)); refine blk_put (cs := #[.string ((rd_T36 l0 x91_4).f0), .int .i64 ((rd_T36 l0 x91_4).f1.f0), .int .i64 ((rd_T36 l0 x91_4).f1.f1), .int .i64 ((rd_T36 l0 x91_4).f1.f2), .int .i64 0, .int .i64 0, .string (⟨#[]⟩ : ByteArray)]) ?_ 4 _ rfl; (with_reducible repeat (first | refine blk_drewN ?_ _ | refine blk_drew ?_ | refine blk_alloc ?_ _)); refine blk_put (cs := #[.string ((rd_T36 l0 x91_4).f0), .int .i64 ((rd_T36 l0 x91_4).f1.f0), .int .i64 ((rd_T36 l0 x91_4).f1.f1), .int .i64 0, .int .i64 0, .int .i64 0, .string (⟨#[]⟩ : ByteArray)]) ?_ 3 _ rfl; (with_reducible repeat (first | refine blk_drewN ?_ _ | refine blk_drew ?_ | refine blk_alloc ?_ _)); refine blk_put (cs := #[.string ((rd_T36 l0 x91_4).f0), .int .i64 ((rd_T36 l0 x91_4).f1.f0), .int .i64 0, .int .i64 0, .int .i64 0, .int .i64 0, .string (⟨#[]⟩ : ByteArray)]) ?_ 2 _ rfl; (with_reducible repeat (first | refine blk_drewN ?_ _ | refine blk_drew ?_ | refine blk_alloc ?_ _)); refine blk_put (cs := #[.string ((rd_T36 l0 x91_4).f0), .int .i64 0, .int .i64 0, .int .i64 0, .int .i64 0, .int .i64 0, .string (⟨#[]⟩ : ByteArray)]) ?_ 1 _ rfl; (with_reducible repeat (first | refine blk_drewN ?_ _ | refine blk_drew ?_ | refine blk_alloc ?_ _)); refine blk_put (cs := #[.string (⟨#[]⟩ : ByteArray), .int .i64 0, .int .i64 0, .int .i64 0, .int .i64 0, .int .i64 0, .string (⟨#[]⟩ : ByteArray)]) ?_ 0 _ rfl; (with_reducible repeat (first | refine blk_drewN ?_ _ | refine blk_drew ?_ | refine blk_alloc ?_ _)); exact BK170.out)) (below_size (by repeat (first | (with_reducible first | exact HB.out | apply below_alloc | apply pw_below_drewN | apply below_drew1 | refine below_set ?_ GE170.out) | exact HB.out)))); have n2_ := Aside0.mk (blk_below (g := gb170) (o := .cells #[.string ((rd_T36 l0 x91_4).f0), .int .i64 ((rd_T36 l0 x91_4).f1.f0), .int .i64 ((rd_T36 l0 x91_4).f1.f1), .int .i64 ((rd_T36 l0 x91_4).f1.f2), .int .i64 ((rd_T36 l0 x91_4).f1.f3), .int .i64 ((rd_T36 l0 x91_4).f1.f4), .string (⟨#[]⟩ : ByteArray)] 36 (0, 0)) (by (with_reducible repeat (first | refine blk_drewN ?_ _ | refine blk_drew ?_ | refine blk_alloc ?_ _)); refine blk_put (cs := #[.string ((rd_T36 l0 x91_4).f0), .int .i64 ((rd_T36 l0 x91_4).f1.f0), .int .i64 ((rd_T36 l0 x91_4).f1.f1), .int .i64 ((rd_T36 l0 x91_4).f1.f2), .int .i64 ((rd_T36 l0 x91_4).f1.f3), .int .i64 ((rd_T36 l0 x91_4).f1.f4), .string ((rd_T36 l0 x91_4).f2)]) ?_ 6 _ rfl; (with_reducible repeat (first | refine blk_drewN ?_ _ | refine blk_drew ?_ | refine blk_alloc ?_ _)); refine blk_put (cs := #[.string ((rd_T36 l0 x91_4).f0), .int .i64 ((rd_T36 l0 x91_4).f1.f0), .int .i64 ((rd_T36 l0 x91_4).f1.f1), .int .i64 ((rd_T36 l0 x91_4).f1.f2), .int .i64 ((rd_T36 l0 x91_4).f1.f3), .int .i64 ((rd_T36 l0 x91_4).f1.f4), .string (⟨#[]⟩ : ByteArray)]) ?_ 6 _ rfl; (with_reducible repeat (first | refine blk_drewN ?_ _ | refine blk_drew ?_ | refine blk_alloc ?_ _)); refine blk_put (cs := #[.string ((rd_T36 l0 x91_4).f0), .int .i64 ((rd_T36 l0 x91_4).f1.f0), .int .i64 ((rd_T36 l0 x91_4).f1.f1), .int .i64 ((rd_T36 l0 x91_4).f1.f2), .int .i64 ((rd_T36 l0 x91_4).f1.f3), .int .i64 0, .string (⟨#[]⟩ : ByteArray)]) ?_ 5 _ rfl; (with_reducible repeat (first | refine blk_drewN ?_ _ | refine blk_drew ?_ | refine blk_alloc ?_ _)); refine blk_put (cs := #[.string ((rd_T36 l0 x91_4).f0), .int .i64 ((rd_T36 l0 x91_4).f1.f0), .int .i64 ((rd_T36 l0 x91_4).f1.f1), .int .i64 ((rd_T36 l0 x91_4).f1.f2), .int .i64 0, .int .i64 0, .string (⟨#[]⟩ : ByteArray)]) ?_ 4 _ rfl; (with_reducible repeat (first | refine blk_drewN ?_ _ | refine blk_drew ?_ | refine blk_alloc ?_ _)); refine blk_put (cs := #[.string ((rd_T36 l0 x91_4).f0), .int .i64 ((rd_T36 l0 x91_4).f1.f0), .int .i64 ((rd_T36 l0 x91_4).f1.f1), .int .i64 0, .int .i64 0, .int .i64 0, .string (⟨#[]⟩ : ByteArray)]) ?_ 3 _ rfl; (with_reducible repeat (first | refine blk_drewN ?_ _ | refine blk_drew ?_ | refine blk_alloc ?_ _)); refine blk_put (cs := #[.string ((rd_T36 l0 x91_4).f0), .int .i64 ((rd_T36 l0 x91_4).f1.f0), .int .i64 0, .int .i64 0, .int .i64 0, .int .i64 0, .string (⟨#[]⟩ : ByteArray)]) ?_ 2 _ rfl; (with_reducible repeat (first | refine blk_drewN ?_ _ | refine blk_drew ?_ | refine blk_alloc ?_ _)); refine blk_put (cs := #[.string ((rd_T36 l0 x91_4).f0), .int .i64 0, .int .i64 0, .int .i64 0, .int .i64 0, .int .i64 0, .string (⟨#[]⟩ : ByteArray)]) ?_ 1 _ rfl; (with_reducible repeat (first | refine blk_drewN ?_ _ | refine blk_drew ?_ | refine blk_alloc ?_ _)); refine blk_put (cs := #[.string (⟨#[]⟩ : ByteArray), .int .i64 0, .int .i64 0, .int .i64 0, .int .i64 0, .int .i64 0, .string (⟨#[]⟩ : ByteArray)]) ?_ 0 _ rfl; (with_reducible repeat (first | refine blk_drewN ?_ _ | refine blk_drew ?_ | refine blk_alloc ?_ _)); exact BK170.out) hb); have n3_ := Aside0.mk (below_step (by repeat (first | (with_reducible first | exact HB.out | apply below_alloc | apply pw_below_drewN | apply below_drew1 | refine below_set ?_ GE170.out) | exact HB.out)) hb); clear HO_16; clear BK170; clear HB; have HO_16 := n0_; have HO173 := n1_; have BK170 := n2_; have HB := n3_; clear n0_ n1_ n2_ n3_; clear hb ho55; obtain ⟨Ao56, co56, eo56⟩ := Kd.R_slice HO173.out; subst eo56) | (go_at_call 10; (with_reducible refine (asm_Of.calls _ _ y171 t174 t175 t176 _ ?side1 ?side2 A44.out).mono ?_); (case side1 => repeat (first | exact (Kd.R_reads' HO173.out).2.2 | (with_reducible refine Kd.C_alloc ?_ _) | (with_reducible refine Kd.C_drewN ?_ _) | (with_reducible refine Kd.C_drew ?_))); (case side2 => exact (Kd.R_reads' HO173.out).2.1); rintro e w57 ⟨v177, rfl, ho0, hb⟩; have n0_ := Aside0.mk (Kd.R_elder' (by (with_reducible repeat (first | apply Kd.R_alloc | apply Kd.R_drewN | apply Kd.R_drew)); exact HO_16.out) (Kd.R_base ho0) hb); have n1_ := Aside0.mk (Kd.R_below (by (with_reducible repeat (first | apply Kd.R_alloc | apply Kd.R_drewN | apply Kd.R_drew)); exact HO173.out) hb); have n2_ := Aside0.mk (Kd.R_lower (Kd.R_new' ho0 (Kd.R_lt (by (with_reducible repeat (first | apply Kd.R_alloc | apply Kd.R_drewN | apply Kd.R_drew)); exact HO_16.out))) (below_size (by repeat (first | (with_reducible first | exact HB.out | apply below_alloc | apply pw_below_drewN | apply below_drew1 | refine below_set ?_ GE170.out) | exact HB.out)))); have n3_ := Aside0.mk (blk_below (g := gb170) (o := .cells #[.string ((rd_T36 l0 x91_4).f0), .int .i64 ((rd_T36 l0 x91_4).f1.f0), .int .i64 ((rd_T36 l0 x91_4).f1.f1), .int .i64 ((rd_T36 l0 x91_4).f1.f2), .int .i64 ((rd_T36 l0 x91_4).f1.f3), .int .i64 ((rd_T36 l0 x91_4).f1.f4), .string (⟨#[]⟩ : ByteArray)] 36 (0, 0)) (by (with_reducible repeat (first | refine blk_drewN ?_ _ | refine blk_drew ?_ | refine blk_alloc ?_ _)); exact BK170.out) hb); have n4_ := Aside0.mk (below_step (by repeat (first | (with_reducible first | exact HB.out | apply below_alloc | apply pw_below_drewN | apply below_drew1 | refine below_set ?_ GE170.out) | exact HB.out)) hb); clear HO_16; clear HO173; clear BK170; clear HB; have HO_16 := n0_; have HO173 := n1_; have HO178 := n2_; have BK170 := n3_; have HB := n4_; clear n0_ n1_ n2_ n3_ n4_; (try clear hb); (try clear hb2); (try clear hk); (try clear hi); (try clear ho0)))
                                go_roundg k4
                                case measure => have := HJ3.out; have := HJ14.out; have := HJ30.out; have := HK4.out; omega
                                case rel => exact ⟨(false), (wrap64 (x91_4 + 1)), (by first | rfl | (simp; done) | (simp [*]; done) | (simp; generalize ByteArray.toList _ = z_; cases z_ <;> first | rfl | simp)), (by first | rfl | (simp; done) | (simp [*]; done) | (simp; generalize ByteArray.toList _ = z_; cases z_ <;> first | rfl | simp)), H', ⟨by have := HJ3.out; have := HJ14.out; have := HJ30.out; have := HK4.out; omega⟩, ⟨by (with_reducible repeat (first | apply Kd.R_alloc | apply Kd.R_drewN | apply Kd.R_drew)); exact Kd.R_mono HO_16.out (fun _ hk => trivial)⟩, ⟨by repeat (first | (with_reducible first | exact HB.out | apply below_alloc | apply pw_below_drewN | apply below_drew1 | refine below_set ?_ GE170.out) | exact HB.out)⟩⟩
                            · rw [if_neg c43] at H
                              exact absurd H (by simp)
                          · rw [if_neg c42] at H
                            exact absurd H (by simp)
                        · rw [if_neg c41] at H
                          have c41b0 : decide (x91_4 < (l0.length : Int)) = false := decide_eq_false c41
                          clear c41
                          replace H := Option.bind_eq_some_iff.mp H
                          obtain ⟨t179, A580, H⟩ := H
                          replace H : ((asm_Read.f t179).bind fun bt180 => (if x19_4 = true then (if bt180.2.2 = 0 then ((camletref40_Same.f k4 bt180.1 l0).bind fun t185 => (camletlaw40_AsmBack.j4 k4 l0 t164 (!t185))) else (camletlaw40_AsmBack.j4 k4 l0 t164 true)) else (camletlaw40_AsmBack.j4 k4 l0 t164 false))) = some r := H
                          have A58 := Aside0.mk A580
                          clear A580
                          replace H := Option.bind_eq_some_iff.mp H
                          obtain ⟨⟨t180, t181, t182⟩, A590, H⟩ := H
                          replace H : (if x19_4 = true then (if t182 = 0 then ((camletref40_Same.f k4 t180 l0).bind fun t185 => (camletlaw40_AsmBack.j4 k4 l0 t164 (!t185))) else (camletlaw40_AsmBack.j4 k4 l0 t164 true)) else (camletlaw40_AsmBack.j4 k4 l0 t164 false)) = some r := H
                          have A59 := Aside0.mk A590
                          clear A590
                          have HC60 := Aside0.mk H
                          clear H
                          go_upto_region 22 with (first | (go_at_call 19; (with_reducible refine (asm_Show.calls _ _ l0 t179 _ ?side1 ?side2 ?side3 A58.out).mono ?_); (case side1 => repeat (first | exact (Kd.C_below HR0.out HB.out) | (with_reducible refine Kd.C_alloc ?_ _) | (with_reducible refine Kd.C_drewN ?_ _) | (with_reducible refine Kd.C_drew ?_))); (case side2 => exact HC0.out); (case side3 => exact Laid.mono HG.out (by repeat (first | (with_reducible first | exact HB.out | apply below_alloc | apply pw_below_drewN | apply below_drew1) | exact HB.out))); rintro e w61 ⟨rfl, hb⟩; have n0_ := Aside0.mk (Kd.R_below (by (with_reducible repeat (first | apply Kd.R_alloc | apply Kd.R_drewN | apply Kd.R_drew)); exact HO_16.out) hb); have n1_ := Aside0.mk (below_step (by repeat (first | (with_reducible first | exact HB.out | apply below_alloc | apply pw_below_drewN | apply below_drew1) | exact HB.out)) hb); clear HO_16; clear HB; have HO_16 := n0_; have HB := n1_; clear n0_ n1_; (try clear hb); (try clear hb2); (try clear hk); (try clear hi)) | (go_at_call 18; (with_reducible refine (asm_Read.calls t179 t180 t181 t182 _ ?side1 A59.out).mono ?_); (case side1 => exact Laid.mono HG.out (by repeat (first | (with_reducible first | exact HB.out | apply below_alloc | apply pw_below_drewN | apply below_drew1) | exact HB.out))); rintro e w62 ⟨v183, rfl, ho0, hb⟩; have n0_ := Aside0.mk (Kd.R_below (by (with_reducible repeat (first | apply Kd.R_alloc | apply Kd.R_drewN | apply Kd.R_drew)); exact HO_16.out) hb); have n1_ := Aside0.mk (Kd.R_lower ho0 (below_size (by repeat (first | (with_reducible first | exact HB.out | apply below_alloc | apply pw_below_drewN | apply below_drew1) | exact HB.out)))); have n2_ := Aside0.mk (below_step (by repeat (first | (with_reducible first | exact HB.out | apply below_alloc | apply pw_below_drewN | apply below_drew1) | exact HB.out)) hb); clear HO_16; clear HB; have HO_16 := n0_; have HO184 := n1_; have HB := n2_; clear n0_ n1_ n2_; (try clear hb); (try clear hb2); (try clear hk); (try clear hi); (try clear ho0)))
                          (try simp only [Act.put, List.setIfInBounds_toArray, List.set_cons_zero, List.set_cons_succ])
                          go_cut [128] (fun v128 wc => ∃ (kq : Nat) (x128_59 : Bool), v128 = .bool x128_59 ∧ Aside0 (camletlaw40_AsmBack.j4 kq l0 t164 x128_59 = some r) ∧ Aside0 (kq ≤ k4) ∧ Aside0 (Kd.R (Kd.int .u32) 37 wc w.heap.size (fun _ => True) v167 t164) ∧ Aside0 (Below w.heap.size w wc))
                          case first =>
                            have H := HC60.out
                            clear HC60
                            by_cases c63 : x19_4 = true
                            · subst c63
                              have H1 : (if t182 = 0 then ((camletref40_Same.f k4 t180 l0).bind fun t185 => (camletlaw40_AsmBack.j4 k4 l0 t164 (!t185))) else (camletlaw40_AsmBack.j4 k4 l0 t164 true)) = some r := by rw [if_pos rfl] at H; exact H
                              clear H
                              have H := H1
                              clear H1
                              by_cases c64 : t182 = 0
                              · rw [if_pos c64] at H
                                have c64b0 : (t182 == 0) = true := beq_iff_eq.mpr c64
                                have c64b1 : (t182 != 0) = false := bne_eq_false_iff_eq.mpr c64
                                clear c64
                                (first | rw [c64b0] | (simp only [i64_w, i32_w]; rw [c64b0]) | skip)
                                replace H := Option.bind_eq_some_iff.mp H
                                obtain ⟨t185, A650, H⟩ := H
                                replace H : (camletlaw40_AsmBack.j4 k4 l0 t164 (!t185)) = some r := H
                                have A65 := Aside0.mk A650
                                clear A650
                                have H' := Aside0.mk H
                                clear H
                                obtain ⟨Ao66, co66, eo66⟩ := Kd.R_slice HO184.out
                                subst eo66
                                go_wp2_with (first | (go_at_call 20; (with_reducible refine (camletref40_Same.calls k4 _ _ t180 _ _ l0 t185 _ ?side1 ?side2 ?side3 ?side4 A65.out).mono ?_); (case side1 => repeat (first | exact (Kd.R_reads' HO184.out).2.2 | (with_reducible refine Kd.C_alloc ?_ _) | (with_reducible refine Kd.C_drewN ?_ _) | (with_reducible refine Kd.C_drew ?_))); (case side2 => exact (Kd.R_reads' HO184.out).2.1); (case side3 => repeat (first | exact (Kd.C_below HR0.out HB.out) | (with_reducible refine Kd.C_alloc ?_ _) | (with_reducible refine Kd.C_drewN ?_ _) | (with_reducible refine Kd.C_drew ?_))); (case side4 => exact HC0.out); rintro e w' ⟨rfl, ⟨nd, rfl⟩⟩))
                                go_meet
                                case rel => exact ⟨_, (!t185), (by first | rfl | (simp; done) | (simp [*]; done) | (simp; generalize ByteArray.toList _ = z_; cases z_ <;> first | rfl | simp)), H', ⟨by have := HJ3.out; have := HJ14.out; have := HJ30.out; have := HK4.out; first | omega | exact Nat.le_refl _⟩, ⟨by (with_reducible repeat (first | apply Kd.R_alloc | apply Kd.R_drewN | apply Kd.R_drew)); exact HO_16.out⟩, ⟨by repeat (first | (with_reducible first | exact HB.out | apply below_alloc | apply pw_below_drewN | apply below_drew1) | exact HB.out)⟩⟩
                              · rw [if_neg c64] at H
                                have c64b0 : (t182 == 0) = false := beq_eq_false_iff_ne.mpr c64
                                have c64b1 : (t182 != 0) = true := bne_iff_ne.mpr c64
                                (first | rw [c64b0] | (simp only [i64_w, i32_w]; rw [c64b0]) | skip)
                                have H' := Aside0.mk H
                                clear H
                                go_wp2
                                go_meet
                                case rel => exact ⟨_, (true), (by first | rfl | (simp; done) | (simp [*]; done) | (simp; generalize ByteArray.toList _ = z_; cases z_ <;> first | rfl | simp)), H', ⟨by have := HJ3.out; have := HJ14.out; have := HJ30.out; have := HK4.out; first | omega | exact Nat.le_refl _⟩, ⟨by (with_reducible repeat (first | apply Kd.R_alloc | apply Kd.R_drewN | apply Kd.R_drew)); exact HO_16.out⟩, ⟨by repeat (first | (with_reducible first | exact HB.out | apply below_alloc | apply pw_below_drewN | apply below_drew1) | exact HB.out)⟩⟩
                            · replace c63 := Bool.eq_false_iff.mpr c63
                              subst c63
                              have H1 : (camletlaw40_AsmBack.j4 k4 l0 t164 false) = some r := by rw [if_neg (show ¬ (false = true) by decide)] at H; exact H
                              clear H
                              have H := H1
                              clear H1
                              have H' := Aside0.mk H
                              clear H
                              go_wp2
                              go_meet
                              case rel => exact ⟨_, (false), (by first | rfl | (simp; done) | (simp [*]; done) | (simp; generalize ByteArray.toList _ = z_; cases z_ <;> first | rfl | simp)), H', ⟨by have := HJ3.out; have := HJ14.out; have := HJ30.out; have := HK4.out; first | omega | exact Nat.le_refl _⟩, ⟨by (with_reducible repeat (first | apply Kd.R_alloc | apply Kd.R_drewN | apply Kd.R_drew)); exact HO_16.out⟩, ⟨by repeat (first | (with_reducible first | exact HB.out | apply below_alloc | apply pw_below_drewN | apply below_drew1) | exact HB.out)⟩⟩
                          case rest =>
                            clear HC60
                            try clear c1
                            try clear p1
                            try clear q1
                            try clear hx1
                            try clear c2
                            try clear p2
                            try clear c3
                            try clear c4
                            try clear c6
                            try clear p6
                            try clear c7
                            try clear c7b0
                            try clear c7b1
                            try clear c11
                            try clear p16
                            try clear q16
                            try clear hx16
                            try clear c17
                            try clear c17b0
                            try clear c17b1
                            try clear c19
                            try clear c19b0
                            try clear c19b1
                            try clear c21
                            try clear c33
                            try clear c33b0
                            try clear c33b1
                            try clear c37
                            try clear c39
                            try clear c39b0
                            try clear c39b1
                            try clear c41
                            try clear c41b0
                            try clear c42
                            try clear c42b0
                            try clear c43
                            try clear c43b0
                            try clear c45
                            try clear c63
                            try clear c64
                            try clear c64b0
                            try clear c64b1
                            try clear p64
                            try clear hcz47_0
                            try clear hcz47_1
                            try clear hcz47_2
                            try clear hcz47_3
                            try clear hcz47_4
                            try clear hcz47_5
                            try clear hcz47_6
                            try clear hcz53_0
                            try clear hcz53_1
                            try clear hcz53_2
                            try clear hcz53_3
                            try clear hcz53_4
                            try clear hcz53_5
                            try clear hcz53_6
                            try clear hfz47_0
                            try clear hfz47_1
                            try clear hfz47_2
                            try clear hfz47_3
                            try clear hfz47_4
                            try clear hfz47_5
                            try clear hfz47_6
                            try clear hfz53_0
                            try clear hfz53_1
                            try clear hfz53_2
                            try clear hfz53_3
                            try clear hfz53_4
                            try clear hfz53_5
                            try clear hfz53_6
                            try clear hx169_0
                            try clear hx169_1
                            try clear hx169_2
                            try clear hx169_3
                            try clear hx169_4
                            try clear hx169_5
                            try clear hx169_6
                            try clear p169
                            try clear p2
                            try clear q169
                            obtain ⟨kq, x128_59, rfl, HA, HJ59, HO_16, HB⟩ := hcut
                            cases kq with
                            | zero => exact absurd HA.out (by simp [camletlaw40_AsmBack.j4])
                            | succ kj59 =>
                              have H := HA.out
                              clear HA
                              simp only [camletlaw40_AsmBack.j4] at H
                              by_cases c67 : x128_59 = true
                              · subst c67
                                have H1 : (some false) = some r := by rw [if_pos rfl] at H; exact H
                                clear H
                                have H := H1
                                clear H1
                                obtain rfl := Option.some.inj H
                                go_wp2
                                go_ret
                                exact ⟨by first | rfl | (simp [errW_none, errW_some] <;> rfl) | (simp [*, errW_none, errW_some] <;> rfl), by repeat (first | (with_reducible first | exact HB.out | apply below_alloc | apply pw_below_drewN | apply below_drew1) | exact HB.out)⟩
                              · replace c67 := Bool.eq_false_iff.mpr c67
                                subst c67
                                have H1 : ((asm_Back.f kj59 t164).bind fun bt186 => (if bt186.2.2 = 0 then (if (bt186.1.length : Int) = (l0.length : Int) then ((camletlaw40_knows.f kj59).bind fun t191 => (some t191)) else (some false)) else (some false))) = some r := by rw [if_neg (show ¬ (false = true) by decide)] at H; exact H
                                clear H
                                have H := H1
                                clear H1
                                replace H := Option.bind_eq_some_iff.mp H
                                obtain ⟨⟨t186, t187, t188⟩, A680, H⟩ := H
                                replace H : (if t188 = 0 then (if (t186.length : Int) = (l0.length : Int) then ((camletlaw40_knows.f kj59).bind fun t191 => (some t191)) else (some false)) else (some false)) = some r := H
                                have A68 := Aside0.mk A680
                                clear A680
                                by_cases c69 : t188 = 0
                                · rw [if_pos c69] at H
                                  have c69b0 : (t188 == 0) = true := beq_iff_eq.mpr c69
                                  have c69b1 : (t188 != 0) = false := bne_eq_false_iff_eq.mpr c69
                                  clear c69
                                  by_cases c70 : (t186.length : Int) = (l0.length : Int)
                                  · rw [if_pos c70] at H
                                    have c70b0 : ((t186.length : Int) == (l0.length : Int)) = true := beq_iff_eq.mpr c70
                                    have c70b1 : ((t186.length : Int) != (l0.length : Int)) = false := bne_eq_false_iff_eq.mpr c70
                                    have c70b2 : (t186.length == l0.length) = true := by first | simpa using c70 | (simp at c70 ⊢; omega)
                                    clear c70
                                    replace H := Option.bind_eq_some_iff.mp H
                                    obtain ⟨t191, A710, H⟩ := H
                                    replace H : (some t191) = some r := H
                                    have A71 := Aside0.mk A710
                                    clear A710
                                    obtain rfl := Option.some.inj H
                                    obtain ⟨Ao72, co72, eo72⟩ := Kd.R_slice HO_16.out
                                    subst eo72
                                    go_wp2_with (first | (go_at_call 17; (with_reducible refine (asm_Back.calls kj59 _ _ t164 t186 t187 t188 _ ?side1 ?side2 A68.out).mono ?_); (case side1 => repeat (first | exact (Kd.R_reads' HO_16.out).2.2 | (with_reducible refine Kd.C_alloc ?_ _) | (with_reducible refine Kd.C_drewN ?_ _) | (with_reducible refine Kd.C_drew ?_))); (case side2 => exact (Kd.R_reads' HO_16.out).2.1); rintro e w73 ⟨v189, rfl, ho0, hb⟩; have n0_ := Aside0.mk (Kd.R_below (by (with_reducible repeat (first | apply Kd.R_alloc | apply Kd.R_drewN | apply Kd.R_drew)); exact HO_16.out) hb); have n1_ := Aside0.mk (Kd.R_lower ho0 (below_size (by repeat (first | (with_reducible first | exact HB.out | apply below_alloc | apply pw_below_drewN | apply below_drew1) | exact HB.out)))); have n2_ := Aside0.mk (below_step (by repeat (first | (with_reducible first | exact HB.out | apply below_alloc | apply pw_below_drewN | apply below_drew1) | exact HB.out)) hb); clear HO_16; clear HB; have HO_16 := n0_; have HO190 := n1_; have HB := n2_; clear n0_ n1_ n2_; (try clear hb); (try clear hb2); (try clear hk); (try clear hi); (try clear ho0); obtain ⟨Ao74, co74, eo74⟩ := Kd.R_slice HO190.out; subst eo74) | (go_at_call 9; (with_reducible refine (camletlaw40_knows.calls kj59  t191 _ ?side1 A71.out).mono ?_); (case side1 => exact Laid.mono HG.out (by repeat (first | (with_reducible first | exact HB.out | apply below_alloc | apply pw_below_drewN | apply below_drew1) | exact HB.out))); rintro e w75 ⟨rfl, hb⟩; have n0_ := Aside0.mk (Kd.R_below (by (with_reducible repeat (first | apply Kd.R_alloc | apply Kd.R_drewN | apply Kd.R_drew)); exact HO_16.out) hb); have n1_ := Aside0.mk (Kd.R_below (by (with_reducible repeat (first | apply Kd.R_alloc | apply Kd.R_drewN | apply Kd.R_drew)); exact HO190.out) hb); have n2_ := Aside0.mk (below_step (by repeat (first | (with_reducible first | exact HB.out | apply below_alloc | apply pw_below_drewN | apply below_drew1) | exact HB.out)) hb); clear HO_16; clear HO190; clear HB; have HO_16 := n0_; have HO190 := n1_; have HB := n2_; clear n0_ n1_ n2_; (try clear hb); (try clear hb2); (try clear hk); (try clear hi)))
                                    go_ret
                                    exact ⟨by first | rfl | (simp [errW_none, errW_some] <;> rfl) | (simp [*, errW_none, errW_some] <;> rfl), by repeat (first | (with_reducible first | exact HB.out | apply below_alloc | apply pw_below_drewN | apply below_drew1) | exact HB.out)⟩
                                  · rw [if_neg c70] at H
                                    have c70b0 : ((t186.length : Int) == (l0.length : Int)) = false := beq_eq_false_iff_ne.mpr c70
                                    have c70b1 : ((t186.length : Int) != (l0.length : Int)) = true := bne_iff_ne.mpr c70
                                    have c70b2 : (t186.length == l0.length) = false := by first | simpa using c70 | (simp at c70 ⊢; omega)
                                    obtain rfl := Option.some.inj H
                                    obtain ⟨Ao76, co76, eo76⟩ := Kd.R_slice HO_16.out
                                    subst eo76
                                    go_wp2_with (first | (go_at_call 17; (with_reducible refine (asm_Back.calls kj59 _ _ t164 t186 t187 t188 _ ?side1 ?side2 A68.out).mono ?_); (case side1 => repeat (first | exact (Kd.R_reads' HO_16.out).2.2 | (with_reducible refine Kd.C_alloc ?_ _) | (with_reducible refine Kd.C_drewN ?_ _) | (with_reducible refine Kd.C_drew ?_))); (case side2 => exact (Kd.R_reads' HO_16.out).2.1); rintro e w77 ⟨v189, rfl, ho0, hb⟩; have n0_ := Aside0.mk (Kd.R_below (by (with_reducible repeat (first | apply Kd.R_alloc | apply Kd.R_drewN | apply Kd.R_drew)); exact HO_16.out) hb); have n1_ := Aside0.mk (Kd.R_lower ho0 (below_size (by repeat (first | (with_reducible first | exact HB.out | apply below_alloc | apply pw_below_drewN | apply below_drew1) | exact HB.out)))); have n2_ := Aside0.mk (below_step (by repeat (first | (with_reducible first | exact HB.out | apply below_alloc | apply pw_below_drewN | apply below_drew1) | exact HB.out)) hb); clear HO_16; clear HB; have HO_16 := n0_; have HO190 := n1_; have HB := n2_; clear n0_ n1_ n2_; (try clear hb); (try clear hb2); (try clear hk); (try clear hi); (try clear ho0); obtain ⟨Ao78, co78, eo78⟩ := Kd.R_slice HO190.out; subst eo78))
                                    go_ret
                                    exact ⟨by first | rfl | (simp [errW_none, errW_some] <;> rfl) | (simp [*, errW_none, errW_some] <;> rfl), by repeat (first | (with_reducible first | exact HB.out | apply below_alloc | apply pw_below_drewN | apply below_drew1) | exact HB.out)⟩
                                · rw [if_neg c69] at H
                                  have c69b0 : (t188 == 0) = false := beq_eq_false_iff_ne.mpr c69
                                  have c69b1 : (t188 != 0) = true := bne_iff_ne.mpr c69
                                  obtain rfl := Option.some.inj H
                                  obtain ⟨Ao79, co79, eo79⟩ := Kd.R_slice HO_16.out
                                  subst eo79
                                  go_wp2_with (first | (go_at_call 17; (with_reducible refine (asm_Back.calls kj59 _ _ t164 t186 t187 t188 _ ?side1 ?side2 A68.out).mono ?_); (case side1 => repeat (first | exact (Kd.R_reads' HO_16.out).2.2 | (with_reducible refine Kd.C_alloc ?_ _) | (with_reducible refine Kd.C_drewN ?_ _) | (with_reducible refine Kd.C_drew ?_))); (case side2 => exact (Kd.R_reads' HO_16.out).2.1); rintro e w80 ⟨v189, rfl, ho0, hb⟩; have n0_ := Aside0.mk (Kd.R_below (by (with_reducible repeat (first | apply Kd.R_alloc | apply Kd.R_drewN | apply Kd.R_drew)); exact HO_16.out) hb); have n1_ := Aside0.mk (Kd.R_lower ho0 (below_size (by repeat (first | (with_reducible first | exact HB.out | apply below_alloc | apply pw_below_drewN | apply below_drew1) | exact HB.out)))); have n2_ := Aside0.mk (below_step (by repeat (first | (with_reducible first | exact HB.out | apply below_alloc | apply pw_below_drewN | apply below_drew1) | exact HB.out)) hb); clear HO_16; clear HB; have HO_16 := n0_; have HO190 := n1_; have HB := n2_; clear n0_ n1_ n2_; (try clear hb); (try clear hb2); (try clear hk); (try clear hi); (try clear ho0)))
                                  go_ret
                                  exact ⟨by first | rfl | (simp [errW_none, errW_some] <;> rfl) | (simp [*, errW_none, errW_some] <;> rfl), by repeat (first | (with_reducible first | exact HB.out | apply below_alloc | apply pw_below_drewN | apply below_drew1) | exact HB.out)⟩
                  · rw [if_neg c39] at H
                    have c39b0 : (t166 == 0) = false := beq_eq_false_iff_ne.mpr c39
                    have c39b1 : (t166 != 0) = true := bne_iff_ne.mpr c39
                    replace H := Option.bind_eq_some_iff.mp H
                    obtain ⟨t192, A810, H⟩ := H
                    replace H : (some t192) = some r := H
                    have A81 := Aside0.mk A810
                    clear A810
                    obtain rfl := Option.some.inj H
                    go_wp2_with (first | (go_at_call 10; (with_reducible refine (asm_Of.calls _ _ l0 t164 t165 t166 _ ?side1 ?side2 A38.out).mono ?_); (case side1 => repeat (first | exact (Kd.C_below HR0.out HB.out) | (with_reducible refine Kd.C_alloc ?_ _) | (with_reducible refine Kd.C_drewN ?_ _) | (with_reducible refine Kd.C_drew ?_))); (case side2 => exact HC0.out); rintro e w82 ⟨v167, rfl, ho0, hb⟩; have n0_ := Aside0.mk (Kd.R_lower ho0 (below_size (by repeat (first | (with_reducible first | exact HB.out | apply below_alloc | apply pw_below_drewN | apply below_drew1) | exact HB.out)))); have n1_ := Aside0.mk (below_step (by repeat (first | (with_reducible first | exact HB.out | apply below_alloc | apply pw_below_drewN | apply below_drew1) | exact HB.out)) hb); clear HB; have HO168 := n0_; have HB := n1_; clear n0_ n1_; (try clear hb); (try clear hb2); (try clear hk); (try clear hi); (try clear ho0)) | (go_at_call 9; (with_reducible refine (camletlaw40_knows.calls kj30  t192 _ ?side1 A81.out).mono ?_); (case side1 => exact Laid.mono HG.out (by repeat (first | (with_reducible first | exact HB.out | apply below_alloc | apply pw_below_drewN | apply below_drew1) | exact HB.out))); rintro e w83 ⟨rfl, hb⟩; have n0_ := Aside0.mk (Kd.R_below (by (with_reducible repeat (first | apply Kd.R_alloc | apply Kd.R_drewN | apply Kd.R_drew)); exact HO168.out) hb); have n1_ := Aside0.mk (below_step (by repeat (first | (with_reducible first | exact HB.out | apply below_alloc | apply pw_below_drewN | apply below_drew1) | exact HB.out)) hb); clear HO168; clear HB; have HO168 := n0_; have HB := n1_; clear n0_ n1_; (try clear hb); (try clear hb2); (try clear hk); (try clear hi)))
                    go_ret
                    exact ⟨by first | rfl | (simp [errW_none, errW_some] <;> rfl) | (simp [*, errW_none, errW_some] <;> rfl), by repeat (first | (with_reducible first | exact HB.out | apply below_alloc | apply pw_below_drewN | apply below_drew1) | exact HB.out)⟩

end Go.Proofs.YtlhkojnocconfaaDoor.Q
