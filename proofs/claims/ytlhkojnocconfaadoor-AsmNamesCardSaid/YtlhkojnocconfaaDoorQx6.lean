-- Made by a program of this session (wip/tools/pr.py) out of the translation, over the kit's printer. Not trusted: Lean checks it.
import Derived.Test.YtlhkojnocconfaaDoorQx0
import Derived.Test.YtlhkojnocconfaaDoorQx2
import Derived.Test.YtlhkojnocconfaaDoorQx5
import Derived.Test.YtlhkojnocconfaaDoorHasmKnows
import Derived.Test.YtlhkojnocconfaaDoorHasmOf
import Derived.Test.YtlhkojnocconfaaDoorLaid
namespace Go.Proofs.YtlhkojnocconfaaDoor.Q
open Go.RowKit Go.Proofs.YtlhkojnocconfaaDoorW.PrintWords Go.Proofs.YtlhkojnocconfaaDoorW.PrintLast Go.Proofs.YtlhkojnocconfaaDoorW.PrintMore
attribute [local go_sem] max2_int min2_int max_two min_two max_three min_three max_four min_four   -- for this text's walks alone
set_option linter.unusedVariables false
set_option linter.unusedSimpArgs false

/-! ### camletlaw40_AsmNames: function 4 -/
mutual
def camletlaw40_AsmNames.l0 : Nat → List (S36) → List (S36) → Int → Int → Option (Bool)
  | 0, _, _, _, _ => none
  | k + 1, x0, x3, x19, x20 => if x20 < x19 then (if 0 ≤ x20 then (if x20 < (x3.length : Int) then (if (((rd_T36 x3 x20).f0).size : Int) ≥ 32 then (camletlaw40_AsmNames.j1 k x0 x3 x20 x19 x20 true) else (camletlaw40_AsmNames.j1 k x0 x3 x20 x19 x20 (decide ((((rd_T36 x3 x20).f2).size : Int) ≥ 32)))) else (none)) else (none)) else ((asm_Of.f x0).bind fun bt141 => ((asm_Of.f x3).bind fun bt146 => ((camletref40_SameWords.f k bt141.1 bt146.1).bind fun t151 => (if t151 = true then (if bt141.2.1 = bt146.2.1 then (if bt141.2.2 = bt146.2.2 then ((camletlaw40_knows.f k).bind fun t152 => (some t152)) else (some false)) else (some false)) else (some false)))))
def camletlaw40_AsmNames.j1 : Nat → List (S36) → List (S36) → Int → Int → Int → Bool → Option (Bool)
  | 0, _, _, _, _, _, _ => none
  | k + 1, x0, x3, x4, x19, x20, x38 => if x38 = true then ((camletlaw40_knows.f k).bind fun t131 => (some t131)) else (if 0 ≤ x4 then (if x4 < (x3.length : Int) then (if ((rd_T36 x3 x4).f0).toList = ([] : List UInt8) then (if ((rd_T36 x3 x4).f2).toList = ([] : List UInt8) then (camletlaw40_AsmNames.l0 k x0 x3 x19 (wrap64 (x20 + 1))) else (if 1 + ((rd_T36 x3 x4).f2).size ≤ 9223372036854775807 then (camletlaw40_AsmNames.l0 k x0 (x3.set (x4 : Int).toNat (⟨(rd_T36 x3 x4).f0, (⟨(rd_T36 x3 x4).f1.f0, (rd_T36 x3 x4).f1.f1, (rd_T36 x3 x4).f1.f2, (rd_T36 x3 x4).f1.f3, (rd_T36 x3 x4).f1.f4⟩ : S34), (⟨#[122]⟩ : ByteArray) ++ ((rd_T36 x3 x4).f2)⟩ : S36)) x19 (wrap64 (x20 + 1))) else (none))) else (if 1 + ((rd_T36 x3 x4).f0).size ≤ 9223372036854775807 then ((some (x3.set (x4 : Int).toNat (⟨(⟨#[122]⟩ : ByteArray) ++ ((rd_T36 x3 x4).f0), (⟨(rd_T36 x3 x4).f1.f0, (rd_T36 x3 x4).f1.f1, (rd_T36 x3 x4).f1.f2, (rd_T36 x3 x4).f1.f3, (rd_T36 x3 x4).f1.f4⟩ : S34), (rd_T36 x3 x4).f2⟩ : S36) : List (S36))).bind fun y137 => (if ((rd_T36 y137 x4).f2).toList = ([] : List UInt8) then (camletlaw40_AsmNames.l0 k x0 y137 x19 (wrap64 (x20 + 1))) else (if 1 + ((rd_T36 y137 x4).f2).size ≤ 9223372036854775807 then (camletlaw40_AsmNames.l0 k x0 (y137.set (x4 : Int).toNat (⟨(rd_T36 y137 x4).f0, (⟨(rd_T36 y137 x4).f1.f0, (rd_T36 y137 x4).f1.f1, (rd_T36 y137 x4).f1.f2, (rd_T36 y137 x4).f1.f3, (rd_T36 y137 x4).f1.f4⟩ : S34), (⟨#[122]⟩ : ByteArray) ++ ((rd_T36 y137 x4).f2)⟩ : S36)) x19 (wrap64 (x20 + 1))) else (none)))) else (none))) else (none)) else (none))
end
def camletlaw40_AsmNames.f (k : Nat) (l0 : List (S36)) : Option (Bool) := (camletlaw40_few.f k l0).bind fun t121 => (if t121 = true then ((some (([] : List (S36)) : List (S36))).bind fun y123 => (if y123.length + l0.length < 1954687338268 then ((some (y123 ++ l0 : List (S36))).bind fun y126 => (camletlaw40_AsmNames.l0 k l0 y126 (y126.length : Int) 0)) else (none))) else ((camletlaw40_knows.f k).bind fun t122 => (some t122)))
theorem camletlaw40_AsmNames.mono_l : ∀ k, (∀ y0 y1 y2 y3, LeO (camletlaw40_AsmNames.l0 k y0 y1 y2 y3) (camletlaw40_AsmNames.l0 (k + 1) y0 y1 y2 y3)) ∧ (∀ y0 y1 y2 y3 y4 y5, LeO (camletlaw40_AsmNames.j1 k y0 y1 y2 y3 y4 y5) (camletlaw40_AsmNames.j1 (k + 1) y0 y1 y2 y3 y4 y5))
  | 0 => ⟨fun _ _ _ _ r h => by simp [camletlaw40_AsmNames.l0] at h, fun _ _ _ _ _ _ r h => by simp [camletlaw40_AsmNames.j1] at h⟩
  | k + 1 => by
    obtain ⟨ih0, ih1⟩ := camletlaw40_AsmNames.mono_l k
    refine ⟨?_, ?_⟩
    · intro y0 y1 y2 y3
      unfold camletlaw40_AsmNames.l0
      repeat' first
      | (with_reducible exact ih0 _ _ _ _)
      | (with_reducible exact ih1 _ _ _ _ _ _)
      | (with_reducible exact camletlaw40_few.mono _ _)
      | (with_reducible exact camletlaw40_knows.mono _)
      | (with_reducible exact camletref40_SameWords.mono _ _ _)
      | (with_reducible exact LeO.refl _)
      | (with_reducible exact LeO.none _)
      | (with_reducible refine LeO.ite ?_ ?_)
      | (with_reducible refine LeO.bind ?_ (fun _ => ?_))
      | exact ih0 _ _ _ _
      | exact ih1 _ _ _ _ _ _
      | exact camletlaw40_few.mono _ _
      | exact camletlaw40_knows.mono _
      | exact camletref40_SameWords.mono _ _ _
      | exact LeO.none _
      | refine LeO.ite ?_ ?_
      | refine LeO.bind ?_ (fun _ => ?_)
    · intro y0 y1 y2 y3 y4 y5
      unfold camletlaw40_AsmNames.j1
      repeat' first
      | (with_reducible exact ih0 _ _ _ _)
      | (with_reducible exact ih1 _ _ _ _ _ _)
      | (with_reducible exact camletlaw40_few.mono _ _)
      | (with_reducible exact camletlaw40_knows.mono _)
      | (with_reducible exact camletref40_SameWords.mono _ _ _)
      | (with_reducible exact LeO.refl _)
      | (with_reducible exact LeO.none _)
      | (with_reducible refine LeO.ite ?_ ?_)
      | (with_reducible refine LeO.bind ?_ (fun _ => ?_))
      | exact ih0 _ _ _ _
      | exact ih1 _ _ _ _ _ _
      | exact camletlaw40_few.mono _ _
      | exact camletlaw40_knows.mono _
      | exact camletref40_SameWords.mono _ _ _
      | exact LeO.none _
      | refine LeO.ite ?_ ?_
      | refine LeO.bind ?_ (fun _ => ?_)
theorem camletlaw40_AsmNames.mono : ∀ a0 k, LeO (camletlaw40_AsmNames.f k a0) (camletlaw40_AsmNames.f (k + 1) a0) := by
  intro a0 k
  obtain ⟨ih0, ih1⟩ := camletlaw40_AsmNames.mono_l k
  unfold camletlaw40_AsmNames.f
  repeat' first
      | (with_reducible exact ih0 _ _ _ _)
      | (with_reducible exact ih1 _ _ _ _ _ _)
      | (with_reducible exact camletlaw40_few.mono _ _)
      | (with_reducible exact camletlaw40_knows.mono _)
      | (with_reducible exact camletref40_SameWords.mono _ _ _)
      | (with_reducible exact LeO.refl _)
      | (with_reducible exact LeO.none _)
      | (with_reducible refine LeO.ite ?_ ?_)
      | (with_reducible refine LeO.bind ?_ (fun _ => ?_))
      | exact ih0 _ _ _ _
      | exact ih1 _ _ _ _ _ _
      | exact camletlaw40_few.mono _ _
      | exact camletlaw40_knows.mono _
      | exact camletref40_SameWords.mono _ _ _
      | exact LeO.none _
      | refine LeO.ite ?_ ?_
      | refine LeO.bind ?_ (fun _ => ?_)
set_option maxHeartbeats 8000000 in
set_option maxRecDepth 100000 in
theorem camletlaw40_AsmNames.calls (k : Nat) (A0 : Option Addr) (c0 : Nat) (l0 : List (S36)) (r : Bool) (w : World) (hr0 : Kd.C k36 w A0 l0.length l0) (hc0 : l0.length ≤ c0) (hG : Laid w) (h : camletlaw40_AsmNames.f k l0 = some r) :
    Calls Tryd.prog 4 #[.slice A0 l0.length c0] w fun e w' => e = .returned (.bool r) ∧ Below w.heap.size w w' := by
  have HG := Aside0.mk hG
  clear hG
  have HR0 := Aside0.mk hr0
  have HC0 := Aside0.mk hc0
  clear hr0 hc0
  have HB := Aside0.mk (Below.refl w.heap.size w)
  have H : ((camletlaw40_few.f k l0).bind fun t121 => (if t121 = true then ((some (([] : List (S36)) : List (S36))).bind fun y123 => (if y123.length + l0.length < 1954687338268 then ((some (y123 ++ l0 : List (S36))).bind fun y126 => (camletlaw40_AsmNames.l0 k l0 y126 (y126.length : Int) 0)) else (none))) else ((camletlaw40_knows.f k).bind fun t122 => (some t122)))) = some r := h
  clear h
  replace H := Option.bind_eq_some_iff.mp H
  obtain ⟨t121, A20, H⟩ := H
  replace H : (if t121 = true then ((some (([] : List (S36)) : List (S36))).bind fun y123 => (if y123.length + l0.length < 1954687338268 then ((some (y123 ++ l0 : List (S36))).bind fun y126 => (camletlaw40_AsmNames.l0 k l0 y126 (y126.length : Int) 0)) else (none))) else ((camletlaw40_knows.f k).bind fun t122 => (some t122))) = some r := H
  have A2 := Aside0.mk A20
  clear A20
  by_cases c3 : t121 = true
  · subst c3
    have H1 : ((some (([] : List (S36)) : List (S36))).bind fun y123 => (if y123.length + l0.length < 1954687338268 then ((some (y123 ++ l0 : List (S36))).bind fun y126 => (camletlaw40_AsmNames.l0 k l0 y126 (y126.length : Int) 0)) else (none))) = some r := by rw [if_pos rfl] at H; exact H
    clear H
    have H := H1
    clear H1
    obtain ⟨y123, hy123⟩ : ∃ y_ : List (S36), y_ = (([] : List (S36))) := ⟨_, rfl⟩
    replace H : (if y123.length + l0.length < 1954687338268 then ((some (y123 ++ l0 : List (S36))).bind fun y126 => (camletlaw40_AsmNames.l0 k l0 y126 (y126.length : Int) 0)) else (none)) = some r := by first | (rw [hy123]; with_reducible exact H) | (have H2_ := (Option.bind_some _ _).symm.trans H; rw [hy123]; with_reducible exact H2_) | (have H2_ := (Option.bind_some _ _).symm.trans H; with_reducible exact H2_) | with_reducible exact H | (rw [hy123]; exact H) | exact H
    have Ny123 := Aside0.mk hy123
    clear hy123
    by_cases c4 : y123.length + l0.length < 1954687338268
    · rw [if_pos c4] at H
      have LMc4 := Aside0.mk c4
      clear c4
      obtain ⟨y126, hy126⟩ : ∃ y_ : List (S36), y_ = (y123 ++ l0) := ⟨_, rfl⟩
      replace H : (camletlaw40_AsmNames.l0 k l0 y126 (y126.length : Int) 0) = some r := by first | (rw [hy126]; with_reducible exact H) | (have H2_ := (Option.bind_some _ _).symm.trans H; rw [hy126]; with_reducible exact H2_) | (have H2_ := (Option.bind_some _ _).symm.trans H; with_reducible exact H2_) | with_reducible exact H | (rw [hy126]; exact H) | exact H
      have Ny126 := Aside0.mk hy126
      clear hy126
      have H' := Aside0.mk H
      clear H
      go_enter Tryd.func4, Tryd.ntmps4
      go_wp2_with (first | (go_at_call 8; (with_reducible refine (camletlaw40_few.calls k _ _ l0 true _ ?side1 ?side2 A2.out).mono ?_); (case side1 => repeat (first | exact HR0.out | (with_reducible refine Kd.C_alloc ?_ _) | (with_reducible refine Kd.C_drewN ?_ _) | (with_reducible refine Kd.C_drew ?_))); (case side2 => exact HC0.out); rintro e w5 ⟨rfl, hb⟩; have n0_ := Aside0.mk (below_step (by repeat (first | (with_reducible first | exact HB.out | apply below_alloc | apply pw_below_drewN | apply below_drew1) | exact HB.out)) hb); clear HB; have HB := n0_; clear n0_; (try clear hb); (try clear hb2); (try clear hk); (try clear hi)) | ((with_reducible refine gate_dst (N := 15) rfl ?_); (try (refine gate_guard (by rfl) ?_; dsimp only)); refine Kd.R_lit k36 _ 36 ?hg (N := 15) ?hd (xs := ([] : List (S36))) (inner := []) (ok := fun _ => True) (okp := fun _ => True) ?hr ?hp (fun _ hk => hk) trivial (Below.refl _ _) (Nat.le_refl _) (by simp) ?_; (case hd => rfl); (case hg => rfl); (case hr => first | (go_simp; done) | (go_simp; rfl)); (case hp => exact (Reps.none _ _)); intro v124 w6 ho7 hb hg_ hnew_; clear hg_ hnew_; (first | rw [← Ny123.out] at ho7 | (simp only [Int.reduceToNat] at ho7; rw [← Ny123.out] at ho7)); have n0_ := Aside0.mk (Kd.R_lower ho7 (below_size (by repeat (first | (with_reducible first | exact HB.out | apply below_alloc | apply pw_below_drewN | apply below_drew1) | exact HB.out)))); have n1_ := Aside0.mk (below_step (by repeat (first | (with_reducible first | exact HB.out | apply below_alloc | apply pw_below_drewN | apply below_drew1) | exact HB.out)) hb); clear HB; have HO125 := n0_; have HB := n1_; clear n0_ n1_; clear hb ho7) | ((with_reducible refine gate_builtin (b := .append) (xs := #[.tmp 15, .tmp 16]) rfl ?_); (try (refine gate_guard (by rfl) ?_; dsimp only)); at_builtin; refine Kd.R_append_rows k36 (w0 := w) w.heap.size rfl (.tmp 15) (.tmp 16) 22 36 (.agg #[(.string ⟨#[]⟩), (.int .i64 0), (.int .i64 0), (.int .i64 0), (.int .i64 0), (.int .i64 0), (.string ⟨#[]⟩)]) 72 rfl Tryd.underlying22 info36 rfl (by decide) (by omega) v124 y123 l0 _ _ _ (fun _ => True) (fun _ => False) rfl rfl ?aO ?aR (fun _ _ h => h) (fun _ h => h.elim) ?aF ?aB ?aS ?aL ?_; (case aR => repeat (first | exact (Kd.C_below HR0.out HB.out) | (with_reducible refine Kd.C_alloc ?_ _) | (with_reducible refine Kd.C_drewN ?_ _) | (with_reducible refine Kd.C_drew ?_))); (case aB => exact (by repeat (first | (with_reducible first | exact HB.out | apply below_alloc | apply pw_below_drewN | apply below_drew1) | exact HB.out))); (case aF => exact (fun _ _ => trivial)); (case aO => exact (by (with_reducible repeat (first | apply Kd.R_alloc | apply Kd.R_drewN | apply Kd.R_drew)); exact HO125.out)); (case aS => exact (below_size (by repeat (first | (with_reducible first | exact HB.out | apply below_alloc | apply pw_below_drewN | apply below_drew1) | exact HB.out)))); (case aL => have := LMc4.out; omega); intro v127 w8 ho hb hg hat; rw [← Ny126.out] at ho; have n0_ := Aside0.mk (hb); have n1_ := Aside0.mk (ho); clear HB; clear HO125; have HB := n0_; have HO128 := n1_; clear n0_ n1_; clear ho hb hg hat; obtain ⟨Ao9, co9, eo9⟩ := Kd.R_slice HO128.out; subst eo9))
      go_loopg [20] k (fun kq v20 w' => ∃ (x3_1 : List (S36)) (x20_1 : Int), v20 = .int .i64 x20_1 ∧ Aside0 (camletlaw40_AsmNames.l0 kq l0 x3_1 (y126.length : Int) x20_1 = some r) ∧ Aside0 (kq ≤ k) ∧ Aside0 (Kd.R k36 36 w' w.heap.size (fun _ => True) (.slice Ao9 y126.length co9) x3_1) ∧ Aside0 (Below w.heap.size w w'))
      case atStart => exact ⟨(y126), (0), (by first | rfl | (simp; done) | (simp [*]; done) | (simp; generalize ByteArray.toList _ = z_; cases z_ <;> first | rfl | simp)), H', ⟨Nat.le_refl _⟩, ⟨by (with_reducible repeat (first | apply Kd.R_alloc | apply Kd.R_drewN | apply Kd.R_drew)); exact HO128.out⟩, ⟨by repeat (first | (with_reducible first | exact HB.out | apply below_alloc | apply pw_below_drewN | apply below_drew1) | exact HB.out)⟩⟩
      case round =>
        clear H'
        try clear p2
        try clear c3
        try clear c4
        obtain ⟨x3_1, x20_1, rfl, HA, HK1, HO_3, HB⟩ := hrel
        have hl3_1 := (Kd.R_reads' HO_3.out).1
        rw [hl3_1] at HO_3
        (try simp only [hl3_1])
        cases gk with
        | zero => exact absurd HA.out (by simp [camletlaw40_AsmNames.l0])
        | succ k1 =>
          have H := HA.out
          clear HA
          simp only [camletlaw40_AsmNames.l0] at H
          by_cases c10 : x20_1 < (y126.length : Int)
          · rw [if_pos c10] at H
            have c10b0 : decide (x20_1 < (y126.length : Int)) = true := decide_eq_true c10
            (try simp only [hl3_1] at c10b0)
            clear c10
            have HC11 := Aside0.mk H
            clear H
            go_upto_region 7 with (fail)
            go_cut [38] (fun v38 wc => ∃ (kq : Nat) (x38_10 : Bool), v38 = .bool x38_10 ∧ Aside0 (camletlaw40_AsmNames.j1 kq l0 x3_1 x20_1 (y126.length : Int) x20_1 x38_10 = some r) ∧ Aside0 (kq ≤ k1) ∧ Aside0 (Kd.R k36 36 wc w.heap.size (fun _ => True) (.slice Ao9 x3_1.length co9) x3_1) ∧ Aside0 (Below w.heap.size w wc))
            case first =>
              have H := HC11.out
              clear HC11
              by_cases c12 : 0 ≤ x20_1
              · rw [if_pos c12] at H
                have c12b0 : decide (0 ≤ x20_1) = true := decide_eq_true c12
                clear c12
                (first | rw [c12b0] | (simp only [i64_w, i32_w]; rw [c12b0]) | skip)
                by_cases c13 : x20_1 < (x3_1.length : Int)
                · rw [if_pos c13] at H
                  have c13b0 : decide (x20_1 < (x3_1.length : Int)) = true := decide_eq_true c13
                  (try simp only [hl3_1] at c13b0)
                  clear c13
                  by_cases c14 : (((rd_T36 x3_1 x20_1).f0).size : Int) ≥ 32
                  · rw [if_pos c14] at H
                    have c14b0 : decide (32 ≤ (((rd_T36 x3_1 x20_1).f0).size : Int)) = true := decide_eq_true c14
                    have c14b1 : decide (32 ≤ ((rd_T36 x3_1 x20_1).f0).size) = true := decide_eq_true (by omega)
                    clear c14
                    have H' := Aside0.mk H
                    clear H
                    have p129 : 0 ≤ (x20_1 : Int) := of_decide_eq_true (by first | (with_reducible assumption) | assumption)
                    have q129 : x20_1 < (x3_1.length : Int) := of_decide_eq_true (by first | (with_reducible assumption) | assumption)
                    obtain ⟨ad129, e129, hx129_0, hx129_1, hx129_2, hx129_3, hx129_4, hx129_5, hx129_6⟩ := at_T36 (Kd.R_reads' HO_3.out).2.2 x20_1 p129 q129
                    cases e129
                    replace p129 := eq_true p129
                    replace q129 := eq_true q129
                    go_wp2
                    go_meet
                    case rel => exact ⟨_, (true), (by first | rfl | (simp; done) | (simp [*]; done) | (simp; generalize ByteArray.toList _ = z_; cases z_ <;> first | rfl | simp)), H', ⟨by have := HK1.out; first | omega | exact Nat.le_refl _⟩, ⟨by (try simp only [hl3_1]); (with_reducible repeat (first | apply Kd.R_alloc | apply Kd.R_drewN | apply Kd.R_drew)); exact HO_3.out⟩, ⟨by repeat (first | (with_reducible first | exact HB.out | apply below_alloc | apply pw_below_drewN | apply below_drew1) | exact HB.out)⟩⟩
                  · rw [if_neg c14] at H
                    have c14b0 : decide (32 ≤ (((rd_T36 x3_1 x20_1).f0).size : Int)) = false := decide_eq_false c14
                    have c14b1 : decide (32 ≤ ((rd_T36 x3_1 x20_1).f0).size) = false := decide_eq_false (by omega)
                    clear c14
                    have H' := Aside0.mk H
                    clear H
                    have p129 : 0 ≤ (x20_1 : Int) := of_decide_eq_true (by first | (with_reducible assumption) | assumption)
                    have q129 : x20_1 < (x3_1.length : Int) := of_decide_eq_true (by first | (with_reducible assumption) | assumption)
                    obtain ⟨ad129, e129, hx129_0, hx129_1, hx129_2, hx129_3, hx129_4, hx129_5, hx129_6⟩ := at_T36 (Kd.R_reads' HO_3.out).2.2 x20_1 p129 q129
                    cases e129
                    replace p129 := eq_true p129
                    replace q129 := eq_true q129
                    have p130 : 0 ≤ (x20_1 : Int) := of_decide_eq_true (by first | (with_reducible assumption) | assumption)
                    have q130 : x20_1 < (x3_1.length : Int) := of_decide_eq_true (by first | (with_reducible assumption) | assumption)
                    obtain ⟨ad130, e130, hx130_0, hx130_1, hx130_2, hx130_3, hx130_4, hx130_5, hx130_6⟩ := at_T36 (Kd.R_reads' HO_3.out).2.2 x20_1 p130 q130
                    obtain rfl : ad129 = ad130 := (by injection e130)
                    replace p130 := eq_true p130
                    replace q130 := eq_true q130
                    go_wp2
                    go_meet
                    case rel => exact ⟨_, (decide ((((rd_T36 x3_1 x20_1).f2).size : Int) ≥ 32)), (by first | rfl | (simp; done) | (simp [*]; done) | (simp; generalize ByteArray.toList _ = z_; cases z_ <;> first | rfl | simp)), H', ⟨by have := HK1.out; first | omega | exact Nat.le_refl _⟩, ⟨by (try simp only [hl3_1]); (with_reducible repeat (first | apply Kd.R_alloc | apply Kd.R_drewN | apply Kd.R_drew)); exact HO_3.out⟩, ⟨by repeat (first | (with_reducible first | exact HB.out | apply below_alloc | apply pw_below_drewN | apply below_drew1) | exact HB.out)⟩⟩
                · rw [if_neg c13] at H
                  exact absurd H (by simp)
              · rw [if_neg c12] at H
                exact absurd H (by simp)
            case rest =>
              clear HC11
              try clear c1
              try clear p1
              try clear q1
              try clear hx1
              try clear p2
              try clear c3
              try clear c4
              try clear c10
              try clear c10b0
              try clear c12
              try clear c12b0
              try clear p12
              try clear q12
              try clear hx12
              try clear c13
              try clear c13b0
              try clear p13
              try clear q13
              try clear hx13
              try clear c14
              try clear c14b0
              try clear c14b1
              try clear hx129_0
              try clear hx129_1
              try clear hx129_2
              try clear hx129_3
              try clear hx129_4
              try clear hx129_5
              try clear hx129_6
              try clear hx130_0
              try clear hx130_1
              try clear hx130_2
              try clear hx130_3
              try clear hx130_4
              try clear hx130_5
              try clear hx130_6
              try clear p129
              try clear p130
              try clear p2
              try clear q129
              try clear q130
              obtain ⟨kq, x38_10, rfl, HA, HJ10, HO_3, HB⟩ := hcut
              cases kq with
              | zero => exact absurd HA.out (by simp [camletlaw40_AsmNames.j1])
              | succ kj10 =>
                have H := HA.out
                clear HA
                simp only [camletlaw40_AsmNames.j1] at H
                by_cases c15 : x38_10 = true
                · subst c15
                  have H1 : ((camletlaw40_knows.f kj10).bind fun t131 => (some t131)) = some r := by rw [if_pos rfl] at H; exact H
                  clear H
                  have H := H1
                  clear H1
                  replace H := Option.bind_eq_some_iff.mp H
                  obtain ⟨t131, A160, H⟩ := H
                  replace H : (some t131) = some r := H
                  have A16 := Aside0.mk A160
                  clear A160
                  obtain rfl := Option.some.inj H
                  go_wp2_with (first | (go_at_call 9; (with_reducible refine (camletlaw40_knows.calls kj10  t131 _ ?side1 A16.out).mono ?_); (case side1 => exact Laid.mono HG.out (by repeat (first | (with_reducible first | exact HB.out | apply below_alloc | apply pw_below_drewN | apply below_drew1) | exact HB.out))); rintro e w17 ⟨rfl, hb⟩; have n0_ := Aside0.mk (Kd.R_below (by (with_reducible repeat (first | apply Kd.R_alloc | apply Kd.R_drewN | apply Kd.R_drew)); exact HO_3.out) hb); have n1_ := Aside0.mk (below_step (by repeat (first | (with_reducible first | exact HB.out | apply below_alloc | apply pw_below_drewN | apply below_drew1) | exact HB.out)) hb); clear HO_3; clear HB; have HO_3 := n0_; have HB := n1_; clear n0_ n1_; (try clear hb); (try clear hb2); (try clear hk); (try clear hi)))
                  go_ret
                  exact ⟨by first | rfl | (simp [errW_none, errW_some] <;> rfl) | (simp [*, errW_none, errW_some] <;> rfl), by repeat (first | (with_reducible first | exact HB.out | apply below_alloc | apply pw_below_drewN | apply below_drew1) | exact HB.out)⟩
                · replace c15 := Bool.eq_false_iff.mpr c15
                  subst c15
                  have H1 : (if 0 ≤ x20_1 then (if x20_1 < (x3_1.length : Int) then (if ((rd_T36 x3_1 x20_1).f0).toList = ([] : List UInt8) then (if ((rd_T36 x3_1 x20_1).f2).toList = ([] : List UInt8) then (camletlaw40_AsmNames.l0 kj10 l0 x3_1 (y126.length : Int) (wrap64 (x20_1 + 1))) else (if 1 + ((rd_T36 x3_1 x20_1).f2).size ≤ 9223372036854775807 then (camletlaw40_AsmNames.l0 kj10 l0 (x3_1.set (x20_1 : Int).toNat (⟨(rd_T36 x3_1 x20_1).f0, (⟨(rd_T36 x3_1 x20_1).f1.f0, (rd_T36 x3_1 x20_1).f1.f1, (rd_T36 x3_1 x20_1).f1.f2, (rd_T36 x3_1 x20_1).f1.f3, (rd_T36 x3_1 x20_1).f1.f4⟩ : S34), (⟨#[122]⟩ : ByteArray) ++ ((rd_T36 x3_1 x20_1).f2)⟩ : S36)) (y126.length : Int) (wrap64 (x20_1 + 1))) else (none))) else (if 1 + ((rd_T36 x3_1 x20_1).f0).size ≤ 9223372036854775807 then ((some (x3_1.set (x20_1 : Int).toNat (⟨(⟨#[122]⟩ : ByteArray) ++ ((rd_T36 x3_1 x20_1).f0), (⟨(rd_T36 x3_1 x20_1).f1.f0, (rd_T36 x3_1 x20_1).f1.f1, (rd_T36 x3_1 x20_1).f1.f2, (rd_T36 x3_1 x20_1).f1.f3, (rd_T36 x3_1 x20_1).f1.f4⟩ : S34), (rd_T36 x3_1 x20_1).f2⟩ : S36) : List (S36))).bind fun y137 => (if ((rd_T36 y137 x20_1).f2).toList = ([] : List UInt8) then (camletlaw40_AsmNames.l0 kj10 l0 y137 (y126.length : Int) (wrap64 (x20_1 + 1))) else (if 1 + ((rd_T36 y137 x20_1).f2).size ≤ 9223372036854775807 then (camletlaw40_AsmNames.l0 kj10 l0 (y137.set (x20_1 : Int).toNat (⟨(rd_T36 y137 x20_1).f0, (⟨(rd_T36 y137 x20_1).f1.f0, (rd_T36 y137 x20_1).f1.f1, (rd_T36 y137 x20_1).f1.f2, (rd_T36 y137 x20_1).f1.f3, (rd_T36 y137 x20_1).f1.f4⟩ : S34), (⟨#[122]⟩ : ByteArray) ++ ((rd_T36 y137 x20_1).f2)⟩ : S36)) (y126.length : Int) (wrap64 (x20_1 + 1))) else (none)))) else (none))) else (none)) else (none)) = some r := by rw [if_neg (show ¬ (false = true) by decide)] at H; exact H
                  clear H
                  have H := H1
                  clear H1
                  by_cases c18 : 0 ≤ x20_1
                  · rw [if_pos c18] at H
                    have c18b0 : decide (0 ≤ x20_1) = true := decide_eq_true c18
                    clear c18
                    by_cases c19 : x20_1 < (x3_1.length : Int)
                    · rw [if_pos c19] at H
                      have c19b0 : decide (x20_1 < (x3_1.length : Int)) = true := decide_eq_true c19
                      (try simp only [hl3_1] at c19b0)
                      clear c19
                      by_cases c20 : ((rd_T36 x3_1 x20_1).f0).toList = ([] : List UInt8)
                      · rw [if_pos c20] at H
                        have c20b0 : (((rd_T36 x3_1 x20_1).f0).toList == ([] : List UInt8)) = true := beq_iff_eq.mpr c20
                        have c20b1 : (((rd_T36 x3_1 x20_1).f0).toList != ([] : List UInt8)) = false := bne_eq_false_iff_eq.mpr c20
                        clear c20
                        by_cases c21 : ((rd_T36 x3_1 x20_1).f2).toList = ([] : List UInt8)
                        · rw [if_pos c21] at H
                          have c21b0 : (((rd_T36 x3_1 x20_1).f2).toList == ([] : List UInt8)) = true := beq_iff_eq.mpr c21
                          have c21b1 : (((rd_T36 x3_1 x20_1).f2).toList != ([] : List UInt8)) = false := bne_eq_false_iff_eq.mpr c21
                          clear c21
                          have H' := Aside0.mk H
                          clear H
                          have p132 : 0 ≤ (x20_1 : Int) := of_decide_eq_true (by first | (with_reducible assumption) | assumption)
                          have q132 : x20_1 < (x3_1.length : Int) := of_decide_eq_true (by first | (with_reducible assumption) | assumption)
                          obtain ⟨ad132, e132, hx132_0, hx132_1, hx132_2, hx132_3, hx132_4, hx132_5, hx132_6⟩ := at_T36 (Kd.R_reads' HO_3.out).2.2 x20_1 p132 q132
                          cases e132
                          replace p132 := eq_true p132
                          replace q132 := eq_true q132
                          have p133 : 0 ≤ (x20_1 : Int) := of_decide_eq_true (by first | (with_reducible assumption) | assumption)
                          have q133 : x20_1 < (x3_1.length : Int) := of_decide_eq_true (by first | (with_reducible assumption) | assumption)
                          obtain ⟨ad133, e133, hx133_0, hx133_1, hx133_2, hx133_3, hx133_4, hx133_5, hx133_6⟩ := at_T36 (Kd.R_reads' HO_3.out).2.2 x20_1 p133 q133
                          obtain rfl : ad132 = ad133 := (by injection e133)
                          replace p133 := eq_true p133
                          replace q133 := eq_true q133
                          go_wp2
                          (try simp only [← hl3_1])
                          go_roundg kj10
                          case measure => have := HK1.out; have := HJ10.out; omega
                          case rel => exact ⟨(x3_1), (wrap64 (x20_1 + 1)), (by first | rfl | (simp; done) | (simp [*]; done) | (simp; generalize ByteArray.toList _ = z_; cases z_ <;> first | rfl | simp)), H', ⟨by have := HK1.out; have := HJ10.out; omega⟩, ⟨by (try simp only [hl3_1]); (with_reducible repeat (first | apply Kd.R_alloc | apply Kd.R_drewN | apply Kd.R_drew)); exact HO_3.out⟩, ⟨by repeat (first | (with_reducible first | exact HB.out | apply below_alloc | apply pw_below_drewN | apply below_drew1) | exact HB.out)⟩⟩
                        · rw [if_neg c21] at H
                          have c21b0 : (((rd_T36 x3_1 x20_1).f2).toList == ([] : List UInt8)) = false := beq_eq_false_iff_ne.mpr c21
                          have c21b1 : (((rd_T36 x3_1 x20_1).f2).toList != ([] : List UInt8)) = true := bne_iff_ne.mpr c21
                          by_cases c22 : 1 + ((rd_T36 x3_1 x20_1).f2).size ≤ 9223372036854775807
                          · rw [if_pos c22] at H
                            have c22b0 := eq_true c22
                            have c22b1 : decide (1 + ((rd_T36 x3_1 x20_1).f2).size ≤ 9223372036854775807) = true := decide_eq_true c22
                            try have c22b2 : (9223372036854775807 < 1 + ((rd_T36 x3_1 x20_1).f2).size) = False := eq_false (Nat.not_lt.2 c22)
                            (try (have c22b3 := of_eq_true c22b0; simp only [ByteArray.size_append] at c22b3; have c22b4 := eq_false (Nat.not_lt.2 c22b3)))
                            obtain ⟨y135, hy135⟩ : ∃ y_ : List (S36), y_ = (x3_1.set (x20_1 : Int).toNat (⟨(rd_T36 x3_1 x20_1).f0, (⟨(rd_T36 x3_1 x20_1).f1.f0, (rd_T36 x3_1 x20_1).f1.f1, (rd_T36 x3_1 x20_1).f1.f2, (rd_T36 x3_1 x20_1).f1.f3, (rd_T36 x3_1 x20_1).f1.f4⟩ : S34), (⟨#[122]⟩ : ByteArray) ++ ((rd_T36 x3_1 x20_1).f2)⟩ : S36)) := ⟨_, rfl⟩
                            replace H : (camletlaw40_AsmNames.l0 kj10 l0 y135 (y126.length : Int) (wrap64 (x20_1 + 1))) = some r := by first | (rw [hy135]; with_reducible exact H) | (have H2_ := (Option.bind_some _ _).symm.trans H; rw [hy135]; with_reducible exact H2_) | (have H2_ := (Option.bind_some _ _).symm.trans H; with_reducible exact H2_) | with_reducible exact H | (rw [hy135]; exact H) | exact H
                            have Ny135 := Aside0.mk hy135
                            clear hy135
                            have H' := Aside0.mk H
                            clear H
                            have p132 : 0 ≤ (x20_1 : Int) := of_decide_eq_true (by first | (with_reducible assumption) | assumption)
                            have q132 : x20_1 < (x3_1.length : Int) := of_decide_eq_true (by first | (with_reducible assumption) | assumption)
                            obtain ⟨ad132, e132, hx132_0, hx132_1, hx132_2, hx132_3, hx132_4, hx132_5, hx132_6⟩ := at_T36 (Kd.R_reads' HO_3.out).2.2 x20_1 p132 q132
                            cases e132
                            replace p132 := eq_true p132
                            replace q132 := eq_true q132
                            have p133 : 0 ≤ (x20_1 : Int) := of_decide_eq_true (by first | (with_reducible assumption) | assumption)
                            have q133 : x20_1 < (x3_1.length : Int) := of_decide_eq_true (by first | (with_reducible assumption) | assumption)
                            obtain ⟨ad133, e133, hx133_0, hx133_1, hx133_2, hx133_3, hx133_4, hx133_5, hx133_6⟩ := at_T36 (Kd.R_reads' HO_3.out).2.2 x20_1 p133 q133
                            obtain rfl : ad132 = ad133 := (by injection e133)
                            replace p133 := eq_true p133
                            replace q133 := eq_true q133
                            have p134 : 0 ≤ (x20_1 : Int) := of_decide_eq_true (by first | (with_reducible assumption) | assumption)
                            have q134 : x20_1 < (x3_1.length : Int) := of_decide_eq_true (by first | (with_reducible assumption) | assumption)
                            obtain ⟨ad134, e134, hx134_0, hx134_1, hx134_2, hx134_3, hx134_4, hx134_5, hx134_6⟩ := at_T36 (Kd.R_reads' HO_3.out).2.2 x20_1 p134 q134
                            obtain rfl : ad132 = ad134 := (by injection e134)
                            replace p134 := eq_true p134
                            replace q134 := eq_true q134
                            have p23 : 0 ≤ (x20_1 : Int) := of_decide_eq_true (by first | (with_reducible assumption) | assumption)
                            have q23 : (x20_1 : Int) < ((x3_1.length : Int) : Int) := of_decide_eq_true (by first | (with_reducible assumption) | assumption)
                            obtain ⟨go23, co23, eo23, gb23, gl23, cl23, HG23⟩ := Kd.R_form HO_3.out (by omega)
                            (first | cases eo23 | (injection eo23 with ea_ en_ ec_; (first | subst ea_ | (injection ea_ with ea_; subst ea_)); subst ec_; clear en_))
                            have GB23 := Aside0.mk gb23
                            have GG23 := Aside0.mk HG23
                            clear gb23 gl23 HG23
                            (first | simp only [add_plain] at hx132_0 | skip)
                            (first | simp only [add_plain] at hx132_1 | skip)
                            (first | simp only [add_plain] at hx132_2 | skip)
                            (first | simp only [add_plain] at hx132_3 | skip)
                            (first | simp only [add_plain] at hx132_4 | skip)
                            (first | simp only [add_plain] at hx132_5 | skip)
                            (first | simp only [add_plain] at hx132_6 | skip)
                            (first | simp only [add_plain] at hx133_0 | skip)
                            (first | simp only [add_plain] at hx133_1 | skip)
                            (first | simp only [add_plain] at hx133_2 | skip)
                            (first | simp only [add_plain] at hx133_3 | skip)
                            (first | simp only [add_plain] at hx133_4 | skip)
                            (first | simp only [add_plain] at hx133_5 | skip)
                            (first | simp only [add_plain] at hx133_6 | skip)
                            (first | simp only [add_plain] at hx134_0 | skip)
                            (first | simp only [add_plain] at hx134_1 | skip)
                            (first | simp only [add_plain] at hx134_2 | skip)
                            (first | simp only [add_plain] at hx134_3 | skip)
                            (first | simp only [add_plain] at hx134_4 | skip)
                            (first | simp only [add_plain] at hx134_5 | skip)
                            (first | simp only [add_plain] at hx134_6 | skip)
                            obtain ⟨ce23, hcl23, hM23, hcc23, hfr23⟩ := Kd.R_elem HO_3.out z36 (x20_1 : Int) p23 q23
                            obtain rfl := k36_openM hM23
                            have hx23_0 : wc.cell? ⟨go23, (x20_1 : Int).toNat * 7, none⟩ = some (.string ((rd_T36 x3_1 x20_1).f0)) := hcc23 0 _ rfl
                            have hx23_1 : wc.cell? ⟨go23, (x20_1 : Int).toNat * 7 + 1, none⟩ = some (.int .i64 ((rd_T36 x3_1 x20_1).f1.f0)) := hcc23 1 _ rfl
                            have hx23_2 : wc.cell? ⟨go23, (x20_1 : Int).toNat * 7 + 2, none⟩ = some (.int .i64 ((rd_T36 x3_1 x20_1).f1.f1)) := hcc23 2 _ rfl
                            have hx23_3 : wc.cell? ⟨go23, (x20_1 : Int).toNat * 7 + 3, none⟩ = some (.int .i64 ((rd_T36 x3_1 x20_1).f1.f2)) := hcc23 3 _ rfl
                            have hx23_4 : wc.cell? ⟨go23, (x20_1 : Int).toNat * 7 + 4, none⟩ = some (.int .i64 ((rd_T36 x3_1 x20_1).f1.f3)) := hcc23 4 _ rfl
                            have hx23_5 : wc.cell? ⟨go23, (x20_1 : Int).toNat * 7 + 5, none⟩ = some (.int .i64 ((rd_T36 x3_1 x20_1).f1.f4)) := hcc23 5 _ rfl
                            have hx23_6 : wc.cell? ⟨go23, (x20_1 : Int).toNat * 7 + 6, none⟩ = some (.string ((rd_T36 x3_1 x20_1).f2)) := hcc23 6 _ rfl
                            have hf23_0 : wc.frozen? ⟨go23, (x20_1 : Int).toNat * 7, none⟩ = false := hfr23 0
                            have hf23_1 : wc.frozen? ⟨go23, (x20_1 : Int).toNat * 7 + 1, none⟩ = false := hfr23 1
                            have hf23_2 : wc.frozen? ⟨go23, (x20_1 : Int).toNat * 7 + 2, none⟩ = false := hfr23 2
                            have hf23_3 : wc.frozen? ⟨go23, (x20_1 : Int).toNat * 7 + 3, none⟩ = false := hfr23 3
                            have hf23_4 : wc.frozen? ⟨go23, (x20_1 : Int).toNat * 7 + 4, none⟩ = false := hfr23 4
                            have hf23_5 : wc.frozen? ⟨go23, (x20_1 : Int).toNat * 7 + 5, none⟩ = false := hfr23 5
                            have hf23_6 : wc.frozen? ⟨go23, (x20_1 : Int).toNat * 7 + 6, none⟩ = false := hfr23 6
                            clear hcl23 hcc23 hfr23 hM23
                            replace p23 := eq_true p23
                            replace q23 := eq_true q23
                            have HX24 := Aside0.mk (show Kd.R k36 36 wc w.heap.size (fun _ => True) (.slice (some ⟨go23, 0, none⟩) x3_1.length co9) x3_1 from (by (with_reducible repeat (first | apply Kd.R_alloc | apply Kd.R_drewN | apply Kd.R_drew)); exact HO_3.out))
                            obtain ⟨ce24, hcl24, hM24, hcc24, hfr24⟩ := Kd.R_elem HX24.out z36 (x20_1 : Int) (of_decide_eq_true (by first | (with_reducible assumption) | assumption)) (by have h_ : (x20_1 : Int) < ((x3_1.length : Int) : Int) := of_decide_eq_true (by first | (with_reducible assumption) | assumption); first | exact h_ | (have e_ := (Kd.R_reads' HO_3.out).1; omega) | simpa using h_)
                            obtain rfl := k36_openM hM24
                            have HP24 := Kd.R_seg HX24.out (x20_1 : Int) (of_decide_eq_true (by first | (with_reducible assumption) | assumption)) (by have h_ : (x20_1 : Int) < ((x3_1.length : Int) : Int) := of_decide_eq_true (by first | (with_reducible assumption) | assumption); first | exact h_ | (have e_ := (Kd.R_reads' HO_3.out).1; omega) | simpa using h_) (seg := [.string ((⟨#[122]⟩ : ByteArray) ++ ((rd_T36 x3_1 x20_1).f2))]) (j := 6) hcl24 hcc24 (show 7 ≤ 7 from by decide) (x' := (⟨(rd_T36 x3_1 x20_1).f0, (⟨(rd_T36 x3_1 x20_1).f1.f0, (rd_T36 x3_1 x20_1).f1.f1, (rd_T36 x3_1 x20_1).f1.f2, (rd_T36 x3_1 x20_1).f1.f3, (rd_T36 x3_1 x20_1).f1.f4⟩ : S34), (⟨#[122]⟩ : ByteArray) ++ ((rd_T36 x3_1 x20_1).f2)⟩ : S36)) (k36_mkM _ _ _ (⟨(rd_T36 x3_1 x20_1).f0, (⟨(rd_T36 x3_1 x20_1).f1.f0, (rd_T36 x3_1 x20_1).f1.f1, (rd_T36 x3_1 x20_1).f1.f2, (rd_T36 x3_1 x20_1).f1.f3, (rd_T36 x3_1 x20_1).f1.f4⟩ : S34), (⟨#[122]⟩ : ByteArray) ++ ((rd_T36 x3_1 x20_1).f2)⟩ : S36) ) (fun _ hk => hk)
                            have hx24_6 := hcc24 6 _ rfl
                            (try simp only [show (k36).sz = 7 from rfl, Nat.mul_one, Nat.add_zero] at hx24_6)
                            have hf24_6 := hfr24 6
                            (try simp only [show (k36).sz = 7 from rfl, Nat.mul_one, Nat.add_zero] at hf24_6)
                            clear hcl24 hcc24 hfr24 hM24
                            go_wp2_with (first | ((with_reducible refine gate_store (t := 9) (p := 71) rfl ?_); refine store_event (t := 9) (p := 71) (v := ?vo_w25) (w1 := (wc.setCell ⟨go23, (x20_1 : Int).toNat * 7 + 6, none⟩ (.string ((⟨#[122]⟩ : ByteArray) ++ ((rd_T36 x3_1 x20_1).f2))))) ?hg ?ho ?hn ?hr ?_; (case ho => rfl); (case hg => rfl); (case hn => rfl); (case hr => first | (go_simp; done) | (go_simp; rfl)); intro w25 hw; have hg : wc.grownBy w25 (some go23) := (by rw [hw]; exact HP24.2); have hp_ : Kd.R k36 36 w25 w.heap.size (fun _ => True) (.slice (some ⟨go23, 0, none⟩) x3_1.length co9) y135 := (by rw [hw, Ny135.out]; exact HP24.1); clear HP24; have n0_ := Aside0.mk (hp_); have n1_ := Aside0.mk ((by rw [hw]; exact below_set (HB.out) GB23.out : Below w.heap.size w w25)); clear HO_3; clear HB; have HO_3 := n0_; have HB := n1_; clear n0_ n1_; clear hg hw hp_))
                            (try simp only [← hl3_1])
                            go_roundg kj10
                            case measure => have := HK1.out; have := HJ10.out; omega
                            case rel => exact ⟨(y135), (wrap64 (x20_1 + 1)), (by first | rfl | (simp; done) | (simp [*]; done) | (simp; generalize ByteArray.toList _ = z_; cases z_ <;> first | rfl | simp)), H', ⟨by have := HK1.out; have := HJ10.out; omega⟩, ⟨by (try simp only [hl3_1]); (with_reducible repeat (first | apply Kd.R_alloc | apply Kd.R_drewN | apply Kd.R_drew)); exact HO_3.out⟩, ⟨by repeat (first | (with_reducible first | exact HB.out | apply below_alloc | apply pw_below_drewN | apply below_drew1) | exact HB.out)⟩⟩
                          · rw [if_neg c22] at H
                            exact absurd H (by simp)
                      · rw [if_neg c20] at H
                        have c20b0 : (((rd_T36 x3_1 x20_1).f0).toList == ([] : List UInt8)) = false := beq_eq_false_iff_ne.mpr c20
                        have c20b1 : (((rd_T36 x3_1 x20_1).f0).toList != ([] : List UInt8)) = true := bne_iff_ne.mpr c20
                        by_cases c26 : 1 + ((rd_T36 x3_1 x20_1).f0).size ≤ 9223372036854775807
                        · rw [if_pos c26] at H
                          have c26b0 := eq_true c26
                          have c26b1 : decide (1 + ((rd_T36 x3_1 x20_1).f0).size ≤ 9223372036854775807) = true := decide_eq_true c26
                          try have c26b2 : (9223372036854775807 < 1 + ((rd_T36 x3_1 x20_1).f0).size) = False := eq_false (Nat.not_lt.2 c26)
                          (try (have c26b3 := of_eq_true c26b0; simp only [ByteArray.size_append] at c26b3; have c26b4 := eq_false (Nat.not_lt.2 c26b3)))
                          obtain ⟨y137, hy137⟩ : ∃ y_ : List (S36), y_ = (x3_1.set (x20_1 : Int).toNat (⟨(⟨#[122]⟩ : ByteArray) ++ ((rd_T36 x3_1 x20_1).f0), (⟨(rd_T36 x3_1 x20_1).f1.f0, (rd_T36 x3_1 x20_1).f1.f1, (rd_T36 x3_1 x20_1).f1.f2, (rd_T36 x3_1 x20_1).f1.f3, (rd_T36 x3_1 x20_1).f1.f4⟩ : S34), (rd_T36 x3_1 x20_1).f2⟩ : S36)) := ⟨_, rfl⟩
                          replace H : (if ((rd_T36 y137 x20_1).f2).toList = ([] : List UInt8) then (camletlaw40_AsmNames.l0 kj10 l0 y137 (y126.length : Int) (wrap64 (x20_1 + 1))) else (if 1 + ((rd_T36 y137 x20_1).f2).size ≤ 9223372036854775807 then (camletlaw40_AsmNames.l0 kj10 l0 (y137.set (x20_1 : Int).toNat (⟨(rd_T36 y137 x20_1).f0, (⟨(rd_T36 y137 x20_1).f1.f0, (rd_T36 y137 x20_1).f1.f1, (rd_T36 y137 x20_1).f1.f2, (rd_T36 y137 x20_1).f1.f3, (rd_T36 y137 x20_1).f1.f4⟩ : S34), (⟨#[122]⟩ : ByteArray) ++ ((rd_T36 y137 x20_1).f2)⟩ : S36)) (y126.length : Int) (wrap64 (x20_1 + 1))) else (none))) = some r := by first | (rw [hy137]; with_reducible exact H) | (have H2_ := (Option.bind_some _ _).symm.trans H; rw [hy137]; with_reducible exact H2_) | (have H2_ := (Option.bind_some _ _).symm.trans H; with_reducible exact H2_) | with_reducible exact H | (rw [hy137]; exact H) | exact H
                          have Ny137 := Aside0.mk hy137
                          clear hy137
                          by_cases c28 : ((rd_T36 y137 x20_1).f2).toList = ([] : List UInt8)
                          · rw [if_pos c28] at H
                            have c28b0 : (((rd_T36 y137 x20_1).f2).toList == ([] : List UInt8)) = true := beq_iff_eq.mpr c28
                            have c28b1 : (((rd_T36 y137 x20_1).f2).toList != ([] : List UInt8)) = false := bne_eq_false_iff_eq.mpr c28
                            clear c28
                            have H' := Aside0.mk H
                            clear H
                            have p132 : 0 ≤ (x20_1 : Int) := of_decide_eq_true (by first | (with_reducible assumption) | assumption)
                            have q132 : x20_1 < (x3_1.length : Int) := of_decide_eq_true (by first | (with_reducible assumption) | assumption)
                            obtain ⟨ad132, e132, hx132_0, hx132_1, hx132_2, hx132_3, hx132_4, hx132_5, hx132_6⟩ := at_T36 (Kd.R_reads' HO_3.out).2.2 x20_1 p132 q132
                            cases e132
                            replace p132 := eq_true p132
                            replace q132 := eq_true q132
                            have p136 : 0 ≤ (x20_1 : Int) := of_decide_eq_true (by first | (with_reducible assumption) | assumption)
                            have q136 : x20_1 < (x3_1.length : Int) := of_decide_eq_true (by first | (with_reducible assumption) | assumption)
                            obtain ⟨ad136, e136, hx136_0, hx136_1, hx136_2, hx136_3, hx136_4, hx136_5, hx136_6⟩ := at_T36 (Kd.R_reads' HO_3.out).2.2 x20_1 p136 q136
                            obtain rfl : ad132 = ad136 := (by injection e136)
                            replace p136 := eq_true p136
                            replace q136 := eq_true q136
                            have p27 : 0 ≤ (x20_1 : Int) := of_decide_eq_true (by first | (with_reducible assumption) | assumption)
                            have q27 : (x20_1 : Int) < ((x3_1.length : Int) : Int) := of_decide_eq_true (by first | (with_reducible assumption) | assumption)
                            obtain ⟨go27, co27, eo27, gb27, gl27, cl27, HG27⟩ := Kd.R_form HO_3.out (by omega)
                            (first | cases eo27 | (injection eo27 with ea_ en_ ec_; (first | subst ea_ | (injection ea_ with ea_; subst ea_)); subst ec_; clear en_))
                            have GB27 := Aside0.mk gb27
                            have GG27 := Aside0.mk HG27
                            clear gb27 gl27 HG27
                            (first | simp only [add_plain] at hx132_0 | skip)
                            (first | simp only [add_plain] at hx132_1 | skip)
                            (first | simp only [add_plain] at hx132_2 | skip)
                            (first | simp only [add_plain] at hx132_3 | skip)
                            (first | simp only [add_plain] at hx132_4 | skip)
                            (first | simp only [add_plain] at hx132_5 | skip)
                            (first | simp only [add_plain] at hx132_6 | skip)
                            (first | simp only [add_plain] at hx136_0 | skip)
                            (first | simp only [add_plain] at hx136_1 | skip)
                            (first | simp only [add_plain] at hx136_2 | skip)
                            (first | simp only [add_plain] at hx136_3 | skip)
                            (first | simp only [add_plain] at hx136_4 | skip)
                            (first | simp only [add_plain] at hx136_5 | skip)
                            (first | simp only [add_plain] at hx136_6 | skip)
                            obtain ⟨ce27, hcl27, hM27, hcc27, hfr27⟩ := Kd.R_elem HO_3.out z36 (x20_1 : Int) p27 q27
                            obtain rfl := k36_openM hM27
                            have hx27_0 : wc.cell? ⟨go27, (x20_1 : Int).toNat * 7, none⟩ = some (.string ((rd_T36 x3_1 x20_1).f0)) := hcc27 0 _ rfl
                            have hx27_1 : wc.cell? ⟨go27, (x20_1 : Int).toNat * 7 + 1, none⟩ = some (.int .i64 ((rd_T36 x3_1 x20_1).f1.f0)) := hcc27 1 _ rfl
                            have hx27_2 : wc.cell? ⟨go27, (x20_1 : Int).toNat * 7 + 2, none⟩ = some (.int .i64 ((rd_T36 x3_1 x20_1).f1.f1)) := hcc27 2 _ rfl
                            have hx27_3 : wc.cell? ⟨go27, (x20_1 : Int).toNat * 7 + 3, none⟩ = some (.int .i64 ((rd_T36 x3_1 x20_1).f1.f2)) := hcc27 3 _ rfl
                            have hx27_4 : wc.cell? ⟨go27, (x20_1 : Int).toNat * 7 + 4, none⟩ = some (.int .i64 ((rd_T36 x3_1 x20_1).f1.f3)) := hcc27 4 _ rfl
                            have hx27_5 : wc.cell? ⟨go27, (x20_1 : Int).toNat * 7 + 5, none⟩ = some (.int .i64 ((rd_T36 x3_1 x20_1).f1.f4)) := hcc27 5 _ rfl
                            have hx27_6 : wc.cell? ⟨go27, (x20_1 : Int).toNat * 7 + 6, none⟩ = some (.string ((rd_T36 x3_1 x20_1).f2)) := hcc27 6 _ rfl
                            have hf27_0 : wc.frozen? ⟨go27, (x20_1 : Int).toNat * 7, none⟩ = false := hfr27 0
                            have hf27_1 : wc.frozen? ⟨go27, (x20_1 : Int).toNat * 7 + 1, none⟩ = false := hfr27 1
                            have hf27_2 : wc.frozen? ⟨go27, (x20_1 : Int).toNat * 7 + 2, none⟩ = false := hfr27 2
                            have hf27_3 : wc.frozen? ⟨go27, (x20_1 : Int).toNat * 7 + 3, none⟩ = false := hfr27 3
                            have hf27_4 : wc.frozen? ⟨go27, (x20_1 : Int).toNat * 7 + 4, none⟩ = false := hfr27 4
                            have hf27_5 : wc.frozen? ⟨go27, (x20_1 : Int).toNat * 7 + 5, none⟩ = false := hfr27 5
                            have hf27_6 : wc.frozen? ⟨go27, (x20_1 : Int).toNat * 7 + 6, none⟩ = false := hfr27 6
                            clear hcl27 hcc27 hfr27 hM27
                            replace p27 := eq_true p27
                            replace q27 := eq_true q27
                            have HX29 := Aside0.mk (show Kd.R k36 36 wc w.heap.size (fun _ => True) (.slice (some ⟨go27, 0, none⟩) x3_1.length co9) x3_1 from (by (with_reducible repeat (first | apply Kd.R_alloc | apply Kd.R_drewN | apply Kd.R_drew)); exact HO_3.out))
                            obtain ⟨ce29, hcl29, hM29, hcc29, hfr29⟩ := Kd.R_elem HX29.out z36 (x20_1 : Int) (of_decide_eq_true (by first | (with_reducible assumption) | assumption)) (by have h_ : (x20_1 : Int) < ((x3_1.length : Int) : Int) := of_decide_eq_true (by first | (with_reducible assumption) | assumption); first | exact h_ | (have e_ := (Kd.R_reads' HO_3.out).1; omega) | simpa using h_)
                            obtain rfl := k36_openM hM29
                            have HP29 := Kd.R_seg HX29.out (x20_1 : Int) (of_decide_eq_true (by first | (with_reducible assumption) | assumption)) (by have h_ : (x20_1 : Int) < ((x3_1.length : Int) : Int) := of_decide_eq_true (by first | (with_reducible assumption) | assumption); first | exact h_ | (have e_ := (Kd.R_reads' HO_3.out).1; omega) | simpa using h_) (seg := [.string ((⟨#[122]⟩ : ByteArray) ++ ((rd_T36 x3_1 x20_1).f0))]) (j := 0) hcl29 hcc29 (show 1 ≤ 7 from by decide) (x' := (⟨(⟨#[122]⟩ : ByteArray) ++ ((rd_T36 x3_1 x20_1).f0), (⟨(rd_T36 x3_1 x20_1).f1.f0, (rd_T36 x3_1 x20_1).f1.f1, (rd_T36 x3_1 x20_1).f1.f2, (rd_T36 x3_1 x20_1).f1.f3, (rd_T36 x3_1 x20_1).f1.f4⟩ : S34), (rd_T36 x3_1 x20_1).f2⟩ : S36)) (k36_mkM _ _ _ (⟨(⟨#[122]⟩ : ByteArray) ++ ((rd_T36 x3_1 x20_1).f0), (⟨(rd_T36 x3_1 x20_1).f1.f0, (rd_T36 x3_1 x20_1).f1.f1, (rd_T36 x3_1 x20_1).f1.f2, (rd_T36 x3_1 x20_1).f1.f3, (rd_T36 x3_1 x20_1).f1.f4⟩ : S34), (rd_T36 x3_1 x20_1).f2⟩ : S36) ) (fun _ hk => hk)
                            have hx29_0 := hcc29 0 _ rfl
                            (try simp only [show (k36).sz = 7 from rfl, Nat.mul_one, Nat.add_zero] at hx29_0)
                            have hf29_0 := hfr29 0
                            (try simp only [show (k36).sz = 7 from rfl, Nat.mul_one, Nat.add_zero] at hf29_0)
                            clear hcl29 hcc29 hfr29 hM29
                            go_wp2_with (first | ((with_reducible refine gate_store (t := 9) (p := 55) rfl ?_); refine store_event (t := 9) (p := 55) (v := ?vo_w30) (w1 := (wc.setCell ⟨go27, (x20_1 : Int).toNat * 7, none⟩ (.string ((⟨#[122]⟩ : ByteArray) ++ ((rd_T36 x3_1 x20_1).f0))))) ?hg ?ho ?hn ?hr ?_; (case ho => rfl); (case hg => rfl); (case hn => rfl); (case hr => first | (go_simp; done) | (go_simp; rfl)); intro w30 hw; have hg : wc.grownBy w30 (some go27) := (by rw [hw]; exact HP29.2); have hp_ : Kd.R k36 36 w30 w.heap.size (fun _ => True) (.slice (some ⟨go27, 0, none⟩) x3_1.length co9) y137 := (by rw [hw, Ny137.out]; exact HP29.1); clear HP29; have n0_ := Aside0.mk (hp_); have n1_ := Aside0.mk ((by rw [hw]; exact below_set (HB.out) GB27.out : Below w.heap.size w w30)); clear HO_3; clear HB; have HO_3 := n0_; have HB := n1_; clear n0_ n1_; clear hg hw hp_; have p138 : 0 ≤ (x20_1 : Int) := of_decide_eq_true (by first | (with_reducible assumption) | assumption); have q138 : x20_1 < (y137.length : Int) := (by have h_ : (x20_1 : Int) < ((x3_1.length : Int) : Int) := of_decide_eq_true (by first | (with_reducible assumption) | assumption); first | (have e_ := (Kd.R_reads' HO_3.out).1; omega) | simpa only [Ny137.out, List.length_set] using h_); have ql138 : ((x20_1 : Int) < ((x3_1.length : Int) : Int)) = True := eq_true (of_decide_eq_true (by first | (with_reducible assumption) | assumption)); obtain ⟨ad138, e138, hx138_0, hx138_1, hx138_2, hx138_3, hx138_4, hx138_5, hx138_6⟩ := at_T36 (Kd.R_reads' HO_3.out).2.2 x20_1 p138 q138; obtain rfl : (⟨go27, 0, none⟩ : Addr) = ad138 := (by injection e138); (first | simp only [add_plain] at hx138_0 | simp only [add_at] at hx138_0 | simp only [Addr.add, Nat.zero_add] at hx138_0 | skip); (first | simp only [add_plain] at hx138_1 | simp only [add_at] at hx138_1 | simp only [Addr.add, Nat.zero_add] at hx138_1 | skip); (first | simp only [add_plain] at hx138_2 | simp only [add_at] at hx138_2 | simp only [Addr.add, Nat.zero_add] at hx138_2 | skip); (first | simp only [add_plain] at hx138_3 | simp only [add_at] at hx138_3 | simp only [Addr.add, Nat.zero_add] at hx138_3 | skip); (first | simp only [add_plain] at hx138_4 | simp only [add_at] at hx138_4 | simp only [Addr.add, Nat.zero_add] at hx138_4 | skip); (first | simp only [add_plain] at hx138_5 | simp only [add_at] at hx138_5 | simp only [Addr.add, Nat.zero_add] at hx138_5 | skip); (first | simp only [add_plain] at hx138_6 | simp only [add_at] at hx138_6 | simp only [Addr.add, Nat.zero_add] at hx138_6 | skip); replace p138 := eq_true p138; replace q138 := eq_true q138))
                            (try simp only [← hl3_1])
                            go_roundg kj10
                            case measure => have := HK1.out; have := HJ10.out; omega
                            case rel => exact ⟨(y137), (wrap64 (x20_1 + 1)), (by first | rfl | (simp; done) | (simp [*]; done) | (simp; generalize ByteArray.toList _ = z_; cases z_ <;> first | rfl | simp)), H', ⟨by have := HK1.out; have := HJ10.out; omega⟩, ⟨by (try simp only [hl3_1]); (with_reducible repeat (first | apply Kd.R_alloc | apply Kd.R_drewN | apply Kd.R_drew)); exact HO_3.out⟩, ⟨by repeat (first | (with_reducible first | exact HB.out | apply below_alloc | apply pw_below_drewN | apply below_drew1) | exact HB.out)⟩⟩
                          · rw [if_neg c28] at H
                            have c28b0 : (((rd_T36 y137 x20_1).f2).toList == ([] : List UInt8)) = false := beq_eq_false_iff_ne.mpr c28
                            have c28b1 : (((rd_T36 y137 x20_1).f2).toList != ([] : List UInt8)) = true := bne_iff_ne.mpr c28
                            by_cases c31 : 1 + ((rd_T36 y137 x20_1).f2).size ≤ 9223372036854775807
                            · rw [if_pos c31] at H
                              have c31b0 := eq_true c31
                              have c31b1 : decide (1 + ((rd_T36 y137 x20_1).f2).size ≤ 9223372036854775807) = true := decide_eq_true c31
                              try have c31b2 : (9223372036854775807 < 1 + ((rd_T36 y137 x20_1).f2).size) = False := eq_false (Nat.not_lt.2 c31)
                              (try (have c31b3 := of_eq_true c31b0; simp only [ByteArray.size_append] at c31b3; have c31b4 := eq_false (Nat.not_lt.2 c31b3)))
                              obtain ⟨y140, hy140⟩ : ∃ y_ : List (S36), y_ = (y137.set (x20_1 : Int).toNat (⟨(rd_T36 y137 x20_1).f0, (⟨(rd_T36 y137 x20_1).f1.f0, (rd_T36 y137 x20_1).f1.f1, (rd_T36 y137 x20_1).f1.f2, (rd_T36 y137 x20_1).f1.f3, (rd_T36 y137 x20_1).f1.f4⟩ : S34), (⟨#[122]⟩ : ByteArray) ++ ((rd_T36 y137 x20_1).f2)⟩ : S36)) := ⟨_, rfl⟩
                              replace H : (camletlaw40_AsmNames.l0 kj10 l0 y140 (y126.length : Int) (wrap64 (x20_1 + 1))) = some r := by first | (rw [hy140]; with_reducible exact H) | (have H2_ := (Option.bind_some _ _).symm.trans H; rw [hy140]; with_reducible exact H2_) | (have H2_ := (Option.bind_some _ _).symm.trans H; with_reducible exact H2_) | with_reducible exact H | (rw [hy140]; exact H) | exact H
                              have Ny140 := Aside0.mk hy140
                              clear hy140
                              have H' := Aside0.mk H
                              clear H
                              have p132 : 0 ≤ (x20_1 : Int) := of_decide_eq_true (by first | (with_reducible assumption) | assumption)
                              have q132 : x20_1 < (x3_1.length : Int) := of_decide_eq_true (by first | (with_reducible assumption) | assumption)
                              obtain ⟨ad132, e132, hx132_0, hx132_1, hx132_2, hx132_3, hx132_4, hx132_5, hx132_6⟩ := at_T36 (Kd.R_reads' HO_3.out).2.2 x20_1 p132 q132
                              cases e132
                              replace p132 := eq_true p132
                              replace q132 := eq_true q132
                              have p136 : 0 ≤ (x20_1 : Int) := of_decide_eq_true (by first | (with_reducible assumption) | assumption)
                              have q136 : x20_1 < (x3_1.length : Int) := of_decide_eq_true (by first | (with_reducible assumption) | assumption)
                              obtain ⟨ad136, e136, hx136_0, hx136_1, hx136_2, hx136_3, hx136_4, hx136_5, hx136_6⟩ := at_T36 (Kd.R_reads' HO_3.out).2.2 x20_1 p136 q136
                              obtain rfl : ad132 = ad136 := (by injection e136)
                              replace p136 := eq_true p136
                              replace q136 := eq_true q136
                              have p27 : 0 ≤ (x20_1 : Int) := of_decide_eq_true (by first | (with_reducible assumption) | assumption)
                              have q27 : (x20_1 : Int) < ((x3_1.length : Int) : Int) := of_decide_eq_true (by first | (with_reducible assumption) | assumption)
                              obtain ⟨go27, co27, eo27, gb27, gl27, cl27, HG27⟩ := Kd.R_form HO_3.out (by omega)
                              (first | cases eo27 | (injection eo27 with ea_ en_ ec_; (first | subst ea_ | (injection ea_ with ea_; subst ea_)); subst ec_; clear en_))
                              have GB27 := Aside0.mk gb27
                              have GG27 := Aside0.mk HG27
                              clear gb27 gl27 HG27
                              (first | simp only [add_plain] at hx132_0 | skip)
                              (first | simp only [add_plain] at hx132_1 | skip)
                              (first | simp only [add_plain] at hx132_2 | skip)
                              (first | simp only [add_plain] at hx132_3 | skip)
                              (first | simp only [add_plain] at hx132_4 | skip)
                              (first | simp only [add_plain] at hx132_5 | skip)
                              (first | simp only [add_plain] at hx132_6 | skip)
                              (first | simp only [add_plain] at hx136_0 | skip)
                              (first | simp only [add_plain] at hx136_1 | skip)
                              (first | simp only [add_plain] at hx136_2 | skip)
                              (first | simp only [add_plain] at hx136_3 | skip)
                              (first | simp only [add_plain] at hx136_4 | skip)
                              (first | simp only [add_plain] at hx136_5 | skip)
                              (first | simp only [add_plain] at hx136_6 | skip)
                              obtain ⟨ce27, hcl27, hM27, hcc27, hfr27⟩ := Kd.R_elem HO_3.out z36 (x20_1 : Int) p27 q27
                              obtain rfl := k36_openM hM27
                              have hx27_0 : wc.cell? ⟨go27, (x20_1 : Int).toNat * 7, none⟩ = some (.string ((rd_T36 x3_1 x20_1).f0)) := hcc27 0 _ rfl
                              have hx27_1 : wc.cell? ⟨go27, (x20_1 : Int).toNat * 7 + 1, none⟩ = some (.int .i64 ((rd_T36 x3_1 x20_1).f1.f0)) := hcc27 1 _ rfl
                              have hx27_2 : wc.cell? ⟨go27, (x20_1 : Int).toNat * 7 + 2, none⟩ = some (.int .i64 ((rd_T36 x3_1 x20_1).f1.f1)) := hcc27 2 _ rfl
                              have hx27_3 : wc.cell? ⟨go27, (x20_1 : Int).toNat * 7 + 3, none⟩ = some (.int .i64 ((rd_T36 x3_1 x20_1).f1.f2)) := hcc27 3 _ rfl
                              have hx27_4 : wc.cell? ⟨go27, (x20_1 : Int).toNat * 7 + 4, none⟩ = some (.int .i64 ((rd_T36 x3_1 x20_1).f1.f3)) := hcc27 4 _ rfl
                              have hx27_5 : wc.cell? ⟨go27, (x20_1 : Int).toNat * 7 + 5, none⟩ = some (.int .i64 ((rd_T36 x3_1 x20_1).f1.f4)) := hcc27 5 _ rfl
                              have hx27_6 : wc.cell? ⟨go27, (x20_1 : Int).toNat * 7 + 6, none⟩ = some (.string ((rd_T36 x3_1 x20_1).f2)) := hcc27 6 _ rfl
                              have hf27_0 : wc.frozen? ⟨go27, (x20_1 : Int).toNat * 7, none⟩ = false := hfr27 0
                              have hf27_1 : wc.frozen? ⟨go27, (x20_1 : Int).toNat * 7 + 1, none⟩ = false := hfr27 1
                              have hf27_2 : wc.frozen? ⟨go27, (x20_1 : Int).toNat * 7 + 2, none⟩ = false := hfr27 2
                              have hf27_3 : wc.frozen? ⟨go27, (x20_1 : Int).toNat * 7 + 3, none⟩ = false := hfr27 3
                              have hf27_4 : wc.frozen? ⟨go27, (x20_1 : Int).toNat * 7 + 4, none⟩ = false := hfr27 4
                              have hf27_5 : wc.frozen? ⟨go27, (x20_1 : Int).toNat * 7 + 5, none⟩ = false := hfr27 5
                              have hf27_6 : wc.frozen? ⟨go27, (x20_1 : Int).toNat * 7 + 6, none⟩ = false := hfr27 6
                              clear hcl27 hcc27 hfr27 hM27
                              replace p27 := eq_true p27
                              replace q27 := eq_true q27
                              have HX33 := Aside0.mk (show Kd.R k36 36 wc w.heap.size (fun _ => True) (.slice (some ⟨go27, 0, none⟩) x3_1.length co9) x3_1 from (by (with_reducible repeat (first | apply Kd.R_alloc | apply Kd.R_drewN | apply Kd.R_drew)); exact HO_3.out))
                              obtain ⟨ce33, hcl33, hM33, hcc33, hfr33⟩ := Kd.R_elem HX33.out z36 (x20_1 : Int) (of_decide_eq_true (by first | (with_reducible assumption) | assumption)) (by have h_ : (x20_1 : Int) < ((x3_1.length : Int) : Int) := of_decide_eq_true (by first | (with_reducible assumption) | assumption); first | exact h_ | (have e_ := (Kd.R_reads' HO_3.out).1; omega) | simpa using h_)
                              obtain rfl := k36_openM hM33
                              have HP33 := Kd.R_seg HX33.out (x20_1 : Int) (of_decide_eq_true (by first | (with_reducible assumption) | assumption)) (by have h_ : (x20_1 : Int) < ((x3_1.length : Int) : Int) := of_decide_eq_true (by first | (with_reducible assumption) | assumption); first | exact h_ | (have e_ := (Kd.R_reads' HO_3.out).1; omega) | simpa using h_) (seg := [.string ((⟨#[122]⟩ : ByteArray) ++ ((rd_T36 x3_1 x20_1).f0))]) (j := 0) hcl33 hcc33 (show 1 ≤ 7 from by decide) (x' := (⟨(⟨#[122]⟩ : ByteArray) ++ ((rd_T36 x3_1 x20_1).f0), (⟨(rd_T36 x3_1 x20_1).f1.f0, (rd_T36 x3_1 x20_1).f1.f1, (rd_T36 x3_1 x20_1).f1.f2, (rd_T36 x3_1 x20_1).f1.f3, (rd_T36 x3_1 x20_1).f1.f4⟩ : S34), (rd_T36 x3_1 x20_1).f2⟩ : S36)) (k36_mkM _ _ _ (⟨(⟨#[122]⟩ : ByteArray) ++ ((rd_T36 x3_1 x20_1).f0), (⟨(rd_T36 x3_1 x20_1).f1.f0, (rd_T36 x3_1 x20_1).f1.f1, (rd_T36 x3_1 x20_1).f1.f2, (rd_T36 x3_1 x20_1).f1.f3, (rd_T36 x3_1 x20_1).f1.f4⟩ : S34), (rd_T36 x3_1 x20_1).f2⟩ : S36) ) (fun _ hk => hk)
                              have hx33_0 := hcc33 0 _ rfl
                              (try simp only [show (k36).sz = 7 from rfl, Nat.mul_one, Nat.add_zero] at hx33_0)
                              have hf33_0 := hfr33 0
                              (try simp only [show (k36).sz = 7 from rfl, Nat.mul_one, Nat.add_zero] at hf33_0)
                              clear hcl33 hcc33 hfr33 hM33
                              go_wp2_with (first | ((with_reducible refine gate_store (t := 9) (p := 55) rfl ?_); refine store_event (t := 9) (p := 55) (v := ?vo_w34) (w1 := (wc.setCell ⟨go27, (x20_1 : Int).toNat * 7, none⟩ (.string ((⟨#[122]⟩ : ByteArray) ++ ((rd_T36 x3_1 x20_1).f0))))) ?hg ?ho ?hn ?hr ?_; (case ho => rfl); (case hg => rfl); (case hn => rfl); (case hr => first | (go_simp; done) | (go_simp; rfl)); intro w34 hw; have hg : wc.grownBy w34 (some go27) := (by rw [hw]; exact HP33.2); have hp_ : Kd.R k36 36 w34 w.heap.size (fun _ => True) (.slice (some ⟨go27, 0, none⟩) x3_1.length co9) y137 := (by rw [hw, Ny137.out]; exact HP33.1); clear HP33; have n0_ := Aside0.mk (hp_); have n1_ := Aside0.mk ((by rw [hw]; exact below_set (HB.out) GB27.out : Below w.heap.size w w34)); clear HO_3; clear HB; have HO_3 := n0_; have HB := n1_; clear n0_ n1_; clear hg hw hp_; have p138 : 0 ≤ (x20_1 : Int) := of_decide_eq_true (by first | (with_reducible assumption) | assumption); have q138 : x20_1 < (y137.length : Int) := (by have h_ : (x20_1 : Int) < ((x3_1.length : Int) : Int) := of_decide_eq_true (by first | (with_reducible assumption) | assumption); first | (have e_ := (Kd.R_reads' HO_3.out).1; omega) | simpa only [Ny137.out, List.length_set] using h_); have ql138 : ((x20_1 : Int) < ((x3_1.length : Int) : Int)) = True := eq_true (of_decide_eq_true (by first | (with_reducible assumption) | assumption)); obtain ⟨ad138, e138, hx138_0, hx138_1, hx138_2, hx138_3, hx138_4, hx138_5, hx138_6⟩ := at_T36 (Kd.R_reads' HO_3.out).2.2 x20_1 p138 q138; obtain rfl : (⟨go27, 0, none⟩ : Addr) = ad138 := (by injection e138); (first | simp only [add_plain] at hx138_0 | simp only [add_at] at hx138_0 | simp only [Addr.add, Nat.zero_add] at hx138_0 | skip); (first | simp only [add_plain] at hx138_1 | simp only [add_at] at hx138_1 | simp only [Addr.add, Nat.zero_add] at hx138_1 | skip); (first | simp only [add_plain] at hx138_2 | simp only [add_at] at hx138_2 | simp only [Addr.add, Nat.zero_add] at hx138_2 | skip); (first | simp only [add_plain] at hx138_3 | simp only [add_at] at hx138_3 | simp only [Addr.add, Nat.zero_add] at hx138_3 | skip); (first | simp only [add_plain] at hx138_4 | simp only [add_at] at hx138_4 | simp only [Addr.add, Nat.zero_add] at hx138_4 | skip); (first | simp only [add_plain] at hx138_5 | simp only [add_at] at hx138_5 | simp only [Addr.add, Nat.zero_add] at hx138_5 | skip); (first | simp only [add_plain] at hx138_6 | simp only [add_at] at hx138_6 | simp only [Addr.add, Nat.zero_add] at hx138_6 | skip); replace p138 := eq_true p138; replace q138 := eq_true q138; have p139 : 0 ≤ (x20_1 : Int) := of_decide_eq_true (by first | (with_reducible assumption) | assumption); have q139 : x20_1 < (y137.length : Int) := (by have h_ : (x20_1 : Int) < ((x3_1.length : Int) : Int) := of_decide_eq_true (by first | (with_reducible assumption) | assumption); first | (have e_ := (Kd.R_reads' HO_3.out).1; omega) | simpa only [Ny137.out, List.length_set] using h_); have ql139 : ((x20_1 : Int) < ((x3_1.length : Int) : Int)) = True := eq_true (of_decide_eq_true (by first | (with_reducible assumption) | assumption)); obtain ⟨ad139, e139, hx139_0, hx139_1, hx139_2, hx139_3, hx139_4, hx139_5, hx139_6⟩ := at_T36 (Kd.R_reads' HO_3.out).2.2 x20_1 p139 q139; obtain rfl : (⟨go27, 0, none⟩ : Addr) = ad139 := (by injection e139); (first | simp only [add_plain] at hx139_0 | simp only [add_at] at hx139_0 | simp only [Addr.add, Nat.zero_add] at hx139_0 | skip); (first | simp only [add_plain] at hx139_1 | simp only [add_at] at hx139_1 | simp only [Addr.add, Nat.zero_add] at hx139_1 | skip); (first | simp only [add_plain] at hx139_2 | simp only [add_at] at hx139_2 | simp only [Addr.add, Nat.zero_add] at hx139_2 | skip); (first | simp only [add_plain] at hx139_3 | simp only [add_at] at hx139_3 | simp only [Addr.add, Nat.zero_add] at hx139_3 | skip); (first | simp only [add_plain] at hx139_4 | simp only [add_at] at hx139_4 | simp only [Addr.add, Nat.zero_add] at hx139_4 | skip); (first | simp only [add_plain] at hx139_5 | simp only [add_at] at hx139_5 | simp only [Addr.add, Nat.zero_add] at hx139_5 | skip); (first | simp only [add_plain] at hx139_6 | simp only [add_at] at hx139_6 | simp only [Addr.add, Nat.zero_add] at hx139_6 | skip); replace p139 := eq_true p139; replace q139 := eq_true q139; have p32 : 0 ≤ (x20_1 : Int) := of_decide_eq_true (by first | (with_reducible assumption) | assumption); have q32 : (x20_1 : Int) < ((x3_1.length : Int) : Int) := of_decide_eq_true (by first | (with_reducible assumption) | assumption); obtain ⟨ce32, hcl32, hM32, hcc32, hfr32⟩ := Kd.R_elem HO_3.out z36 (x20_1 : Int) p32 q32; obtain rfl := k36_openM hM32; have hx32_0 : w34.cell? ⟨go27, (x20_1 : Int).toNat * 7, none⟩ = some (.string ((rd_T36 y137 x20_1).f0)) := hcc32 0 _ rfl; have hx32_1 : w34.cell? ⟨go27, (x20_1 : Int).toNat * 7 + 1, none⟩ = some (.int .i64 ((rd_T36 y137 x20_1).f1.f0)) := hcc32 1 _ rfl; have hx32_2 : w34.cell? ⟨go27, (x20_1 : Int).toNat * 7 + 2, none⟩ = some (.int .i64 ((rd_T36 y137 x20_1).f1.f1)) := hcc32 2 _ rfl; have hx32_3 : w34.cell? ⟨go27, (x20_1 : Int).toNat * 7 + 3, none⟩ = some (.int .i64 ((rd_T36 y137 x20_1).f1.f2)) := hcc32 3 _ rfl; have hx32_4 : w34.cell? ⟨go27, (x20_1 : Int).toNat * 7 + 4, none⟩ = some (.int .i64 ((rd_T36 y137 x20_1).f1.f3)) := hcc32 4 _ rfl; have hx32_5 : w34.cell? ⟨go27, (x20_1 : Int).toNat * 7 + 5, none⟩ = some (.int .i64 ((rd_T36 y137 x20_1).f1.f4)) := hcc32 5 _ rfl; have hx32_6 : w34.cell? ⟨go27, (x20_1 : Int).toNat * 7 + 6, none⟩ = some (.string ((rd_T36 y137 x20_1).f2)) := hcc32 6 _ rfl; have hf32_0 : w34.frozen? ⟨go27, (x20_1 : Int).toNat * 7, none⟩ = false := hfr32 0; have hf32_1 : w34.frozen? ⟨go27, (x20_1 : Int).toNat * 7 + 1, none⟩ = false := hfr32 1; have hf32_2 : w34.frozen? ⟨go27, (x20_1 : Int).toNat * 7 + 2, none⟩ = false := hfr32 2; have hf32_3 : w34.frozen? ⟨go27, (x20_1 : Int).toNat * 7 + 3, none⟩ = false := hfr32 3; have hf32_4 : w34.frozen? ⟨go27, (x20_1 : Int).toNat * 7 + 4, none⟩ = false := hfr32 4; have hf32_5 : w34.frozen? ⟨go27, (x20_1 : Int).toNat * 7 + 5, none⟩ = false := hfr32 5; have hf32_6 : w34.frozen? ⟨go27, (x20_1 : Int).toNat * 7 + 6, none⟩ = false := hfr32 6; clear hcl32 hcc32 hfr32 hM32; replace p32 := eq_true p32; replace q32 := eq_true q32; have HX35 := Aside0.mk (show Kd.R k36 36 w34 w.heap.size (fun _ => True) (.slice (some ⟨go27, 0, none⟩) x3_1.length co9) y137 from (by (with_reducible repeat (first | apply Kd.R_alloc | apply Kd.R_drewN | apply Kd.R_drew)); exact HO_3.out)); obtain ⟨ce35, hcl35, hM35, hcc35, hfr35⟩ := Kd.R_elem HX35.out z36 (x20_1 : Int) (of_decide_eq_true (by first | (with_reducible assumption) | assumption)) (by have h_ : (x20_1 : Int) < ((x3_1.length : Int) : Int) := of_decide_eq_true (by first | (with_reducible assumption) | assumption); first | exact h_ | (have e_ := (Kd.R_reads' HO_3.out).1; omega) | simpa using h_); obtain rfl := k36_openM hM35; have HP35 := Kd.R_seg HX35.out (x20_1 : Int) (of_decide_eq_true (by first | (with_reducible assumption) | assumption)) (by have h_ : (x20_1 : Int) < ((x3_1.length : Int) : Int) := of_decide_eq_true (by first | (with_reducible assumption) | assumption); first | exact h_ | (have e_ := (Kd.R_reads' HO_3.out).1; omega) | simpa using h_) (seg := [.string ((⟨#[122]⟩ : ByteArray) ++ ((rd_T36 y137 x20_1).f2))]) (j := 6) hcl35 hcc35 (show 7 ≤ 7 from by decide) (x' := (⟨(rd_T36 y137 x20_1).f0, (⟨(rd_T36 y137 x20_1).f1.f0, (rd_T36 y137 x20_1).f1.f1, (rd_T36 y137 x20_1).f1.f2, (rd_T36 y137 x20_1).f1.f3, (rd_T36 y137 x20_1).f1.f4⟩ : S34), (⟨#[122]⟩ : ByteArray) ++ ((rd_T36 y137 x20_1).f2)⟩ : S36)) (k36_mkM _ _ _ (⟨(rd_T36 y137 x20_1).f0, (⟨(rd_T36 y137 x20_1).f1.f0, (rd_T36 y137 x20_1).f1.f1, (rd_T36 y137 x20_1).f1.f2, (rd_T36 y137 x20_1).f1.f3, (rd_T36 y137 x20_1).f1.f4⟩ : S34), (⟨#[122]⟩ : ByteArray) ++ ((rd_T36 y137 x20_1).f2)⟩ : S36) ) (fun _ hk => hk); have hx35_6 := hcc35 6 _ rfl; (try simp only [show (k36).sz = 7 from rfl, Nat.mul_one, Nat.add_zero] at hx35_6); have hf35_6 := hfr35 6; (try simp only [show (k36).sz = 7 from rfl, Nat.mul_one, Nat.add_zero] at hf35_6); clear hcl35 hcc35 hfr35 hM35) | ((with_reducible refine gate_store (t := 9) (p := 71) rfl ?_); refine store_event (t := 9) (p := 71) (v := ?vo_w36) (w1 := (w34.setCell ⟨go27, (x20_1 : Int).toNat * 7 + 6, none⟩ (.string ((⟨#[122]⟩ : ByteArray) ++ ((rd_T36 y137 x20_1).f2))))) ?hg ?ho ?hn ?hr ?_; (case ho => rfl); (case hg => rfl); (case hn => rfl); (case hr => first | (go_simp; done) | (go_simp; rfl)); intro w36 hw; have hg : w34.grownBy w36 (some go27) := (by rw [hw]; exact HP35.2); have hp_ : Kd.R k36 36 w36 w.heap.size (fun _ => True) (.slice (some ⟨go27, 0, none⟩) x3_1.length co9) y140 := (by rw [hw, Ny140.out]; exact HP35.1); clear HP35; have n0_ := Aside0.mk (hp_); have n1_ := Aside0.mk ((by rw [hw]; exact below_set (HB.out) GB27.out : Below w.heap.size w w36)); clear HO_3; clear HB; have HO_3 := n0_; have HB := n1_; clear n0_ n1_; clear hg hw hp_))
                              (try simp only [← hl3_1])
                              go_roundg kj10
                              case measure => have := HK1.out; have := HJ10.out; omega
                              case rel => exact ⟨(y140), (wrap64 (x20_1 + 1)), (by first | rfl | (simp; done) | (simp [*]; done) | (simp; generalize ByteArray.toList _ = z_; cases z_ <;> first | rfl | simp)), H', ⟨by have := HK1.out; have := HJ10.out; omega⟩, ⟨by (try simp only [hl3_1]); (with_reducible repeat (first | apply Kd.R_alloc | apply Kd.R_drewN | apply Kd.R_drew)); exact HO_3.out⟩, ⟨by repeat (first | (with_reducible first | exact HB.out | apply below_alloc | apply pw_below_drewN | apply below_drew1) | exact HB.out)⟩⟩
                            · rw [if_neg c31] at H
                              exact absurd H (by simp)
                        · rw [if_neg c26] at H
                          exact absurd H (by simp)
                    · rw [if_neg c19] at H
                      exact absurd H (by simp)
                  · rw [if_neg c18] at H
                    exact absurd H (by simp)
          · rw [if_neg c10] at H
            have c10b0 : decide (x20_1 < (y126.length : Int)) = false := decide_eq_false c10
            (try simp only [hl3_1] at c10b0)
            clear c10
            replace H := Option.bind_eq_some_iff.mp H
            obtain ⟨⟨t141, t142, t143⟩, A370, H⟩ := H
            replace H : ((asm_Of.f x3_1).bind fun bt146 => ((camletref40_SameWords.f k1 t141 bt146.1).bind fun t151 => (if t151 = true then (if t142 = bt146.2.1 then (if t143 = bt146.2.2 then ((camletlaw40_knows.f k1).bind fun t152 => (some t152)) else (some false)) else (some false)) else (some false)))) = some r := H
            have A37 := Aside0.mk A370
            clear A370
            replace H := Option.bind_eq_some_iff.mp H
            obtain ⟨⟨t146, t147, t148⟩, A380, H⟩ := H
            replace H : ((camletref40_SameWords.f k1 t141 t146).bind fun t151 => (if t151 = true then (if t142 = t147 then (if t143 = t148 then ((camletlaw40_knows.f k1).bind fun t152 => (some t152)) else (some false)) else (some false)) else (some false))) = some r := H
            have A38 := Aside0.mk A380
            clear A380
            replace H := Option.bind_eq_some_iff.mp H
            obtain ⟨t151, A390, H⟩ := H
            replace H : (if t151 = true then (if t142 = t147 then (if t143 = t148 then ((camletlaw40_knows.f k1).bind fun t152 => (some t152)) else (some false)) else (some false)) else (some false)) = some r := H
            have A39 := Aside0.mk A390
            clear A390
            by_cases c40 : t151 = true
            · subst c40
              have H1 : (if t142 = t147 then (if t143 = t148 then ((camletlaw40_knows.f k1).bind fun t152 => (some t152)) else (some false)) else (some false)) = some r := by rw [if_pos rfl] at H; exact H
              clear H
              have H := H1
              clear H1
              by_cases c41 : t142 = t147
              · rw [if_pos c41] at H
                have c41b0 : (t142 == t147) = true := beq_iff_eq.mpr c41
                have c41b1 : (t142 != t147) = false := bne_eq_false_iff_eq.mpr c41
                clear c41
                by_cases c42 : t143 = t148
                · rw [if_pos c42] at H
                  have c42b0 : (t143 == t148) = true := beq_iff_eq.mpr c42
                  have c42b1 : (t143 != t148) = false := bne_eq_false_iff_eq.mpr c42
                  clear c42
                  replace H := Option.bind_eq_some_iff.mp H
                  obtain ⟨t152, A430, H⟩ := H
                  replace H : (some t152) = some r := H
                  have A43 := Aside0.mk A430
                  clear A430
                  obtain rfl := Option.some.inj H
                  go_wp2_with (first | (go_at_call 10; (with_reducible refine (asm_Of.calls _ _ l0 t141 t142 t143 _ ?side1 ?side2 A37.out).mono ?_); (case side1 => repeat (first | exact (Kd.C_below HR0.out HB.out) | (with_reducible refine Kd.C_alloc ?_ _) | (with_reducible refine Kd.C_drewN ?_ _) | (with_reducible refine Kd.C_drew ?_))); (case side2 => exact HC0.out); rintro e w44 ⟨v144, rfl, ho0, hb⟩; have n0_ := Aside0.mk (Kd.R_below (by (with_reducible repeat (first | apply Kd.R_alloc | apply Kd.R_drewN | apply Kd.R_drew)); exact HO_3.out) hb); have n1_ := Aside0.mk (Kd.R_lower ho0 (below_size (by repeat (first | (with_reducible first | exact HB.out | apply below_alloc | apply pw_below_drewN | apply below_drew1) | exact HB.out)))); have n2_ := Aside0.mk (below_step (by repeat (first | (with_reducible first | exact HB.out | apply below_alloc | apply pw_below_drewN | apply below_drew1) | exact HB.out)) hb); clear HO_3; clear HB; have HO_3 := n0_; have HO145 := n1_; have HB := n2_; clear n0_ n1_ n2_; (try clear hb); (try clear hb2); (try clear hk); (try clear hi); (try clear ho0)) | (go_at_call 10; (with_reducible refine (asm_Of.calls _ _ x3_1 t146 t147 t148 _ ?side1 ?side2 A38.out).mono ?_); (case side1 => repeat (first | exact (Kd.R_reads' HO_3.out).2.2 | (with_reducible refine Kd.C_alloc ?_ _) | (with_reducible refine Kd.C_drewN ?_ _) | (with_reducible refine Kd.C_drew ?_))); (case side2 => exact (Kd.R_reads' HO_3.out).2.1); rintro e w45 ⟨v149, rfl, ho0, hb⟩; have n0_ := Aside0.mk (Kd.R_below (by (with_reducible repeat (first | apply Kd.R_alloc | apply Kd.R_drewN | apply Kd.R_drew)); exact HO_3.out) hb); have n1_ := Aside0.mk (Kd.R_elder' (by (with_reducible repeat (first | apply Kd.R_alloc | apply Kd.R_drewN | apply Kd.R_drew)); exact HO145.out) (Kd.R_base ho0) hb); have n2_ := Aside0.mk (Kd.R_lower (Kd.R_new' ho0 (Kd.R_lt (by (with_reducible repeat (first | apply Kd.R_alloc | apply Kd.R_drewN | apply Kd.R_drew)); exact HO145.out))) (below_size (by repeat (first | (with_reducible first | exact HB.out | apply below_alloc | apply pw_below_drewN | apply below_drew1) | exact HB.out)))); have n3_ := Aside0.mk (below_step (by repeat (first | (with_reducible first | exact HB.out | apply below_alloc | apply pw_below_drewN | apply below_drew1) | exact HB.out)) hb); clear HO_3; clear HO145; clear HB; have HO_3 := n0_; have HO145 := n1_; have HO150 := n2_; have HB := n3_; clear n0_ n1_ n2_ n3_; (try clear hb); (try clear hb2); (try clear hk); (try clear hi); (try clear ho0); obtain ⟨Ao46, co46, eo46⟩ := Kd.R_slice HO145.out; subst eo46; obtain ⟨Ao47, co47, eo47⟩ := Kd.R_slice HO150.out; subst eo47) | (go_at_call 12; (with_reducible refine (camletref40_SameWords.calls k1 _ _ t141 _ _ t146 true _ ?side1 ?side2 ?side3 ?side4 A39.out).mono ?_); (case side1 => repeat (first | exact (Kd.R_reads' HO145.out).2.2 | (with_reducible refine Kd.C_alloc ?_ _) | (with_reducible refine Kd.C_drewN ?_ _) | (with_reducible refine Kd.C_drew ?_))); (case side2 => exact (Kd.R_reads' HO145.out).2.1); (case side3 => repeat (first | exact (Kd.R_reads' HO150.out).2.2 | (with_reducible refine Kd.C_alloc ?_ _) | (with_reducible refine Kd.C_drewN ?_ _) | (with_reducible refine Kd.C_drew ?_))); (case side4 => exact (Kd.R_reads' HO150.out).2.1); rintro e w' ⟨rfl, ⟨nd, rfl⟩⟩) | (go_at_call 9; (with_reducible refine (camletlaw40_knows.calls k1  t152 _ ?side1 A43.out).mono ?_); (case side1 => exact Laid.mono HG.out (by repeat (first | (with_reducible first | exact HB.out | apply below_alloc | apply pw_below_drewN | apply below_drew1) | exact HB.out))); rintro e w48 ⟨rfl, hb⟩; have n0_ := Aside0.mk (Kd.R_below (by (with_reducible repeat (first | apply Kd.R_alloc | apply Kd.R_drewN | apply Kd.R_drew)); exact HO_3.out) hb); have n1_ := Aside0.mk (Kd.R_below (by (with_reducible repeat (first | apply Kd.R_alloc | apply Kd.R_drewN | apply Kd.R_drew)); exact HO145.out) hb); have n2_ := Aside0.mk (Kd.R_below (by (with_reducible repeat (first | apply Kd.R_alloc | apply Kd.R_drewN | apply Kd.R_drew)); exact HO150.out) hb); have n3_ := Aside0.mk (below_step (by repeat (first | (with_reducible first | exact HB.out | apply below_alloc | apply pw_below_drewN | apply below_drew1) | exact HB.out)) hb); clear HO_3; clear HO145; clear HO150; clear HB; have HO_3 := n0_; have HO145 := n1_; have HO150 := n2_; have HB := n3_; clear n0_ n1_ n2_ n3_; (try clear hb); (try clear hb2); (try clear hk); (try clear hi)))
                  go_ret
                  exact ⟨by first | rfl | (simp [errW_none, errW_some] <;> rfl) | (simp [*, errW_none, errW_some] <;> rfl), by repeat (first | (with_reducible first | exact HB.out | apply below_alloc | apply pw_below_drewN | apply below_drew1) | exact HB.out)⟩
                · rw [if_neg c42] at H
                  have c42b0 : (t143 == t148) = false := beq_eq_false_iff_ne.mpr c42
                  have c42b1 : (t143 != t148) = true := bne_iff_ne.mpr c42
                  obtain rfl := Option.some.inj H
                  go_wp2_with (first | (go_at_call 10; (with_reducible refine (asm_Of.calls _ _ l0 t141 t142 t143 _ ?side1 ?side2 A37.out).mono ?_); (case side1 => repeat (first | exact (Kd.C_below HR0.out HB.out) | (with_reducible refine Kd.C_alloc ?_ _) | (with_reducible refine Kd.C_drewN ?_ _) | (with_reducible refine Kd.C_drew ?_))); (case side2 => exact HC0.out); rintro e w49 ⟨v144, rfl, ho0, hb⟩; have n0_ := Aside0.mk (Kd.R_below (by (with_reducible repeat (first | apply Kd.R_alloc | apply Kd.R_drewN | apply Kd.R_drew)); exact HO_3.out) hb); have n1_ := Aside0.mk (Kd.R_lower ho0 (below_size (by repeat (first | (with_reducible first | exact HB.out | apply below_alloc | apply pw_below_drewN | apply below_drew1) | exact HB.out)))); have n2_ := Aside0.mk (below_step (by repeat (first | (with_reducible first | exact HB.out | apply below_alloc | apply pw_below_drewN | apply below_drew1) | exact HB.out)) hb); clear HO_3; clear HB; have HO_3 := n0_; have HO145 := n1_; have HB := n2_; clear n0_ n1_ n2_; (try clear hb); (try clear hb2); (try clear hk); (try clear hi); (try clear ho0)) | (go_at_call 10; (with_reducible refine (asm_Of.calls _ _ x3_1 t146 t147 t148 _ ?side1 ?side2 A38.out).mono ?_); (case side1 => repeat (first | exact (Kd.R_reads' HO_3.out).2.2 | (with_reducible refine Kd.C_alloc ?_ _) | (with_reducible refine Kd.C_drewN ?_ _) | (with_reducible refine Kd.C_drew ?_))); (case side2 => exact (Kd.R_reads' HO_3.out).2.1); rintro e w50 ⟨v149, rfl, ho0, hb⟩; have n0_ := Aside0.mk (Kd.R_below (by (with_reducible repeat (first | apply Kd.R_alloc | apply Kd.R_drewN | apply Kd.R_drew)); exact HO_3.out) hb); have n1_ := Aside0.mk (Kd.R_elder' (by (with_reducible repeat (first | apply Kd.R_alloc | apply Kd.R_drewN | apply Kd.R_drew)); exact HO145.out) (Kd.R_base ho0) hb); have n2_ := Aside0.mk (Kd.R_lower (Kd.R_new' ho0 (Kd.R_lt (by (with_reducible repeat (first | apply Kd.R_alloc | apply Kd.R_drewN | apply Kd.R_drew)); exact HO145.out))) (below_size (by repeat (first | (with_reducible first | exact HB.out | apply below_alloc | apply pw_below_drewN | apply below_drew1) | exact HB.out)))); have n3_ := Aside0.mk (below_step (by repeat (first | (with_reducible first | exact HB.out | apply below_alloc | apply pw_below_drewN | apply below_drew1) | exact HB.out)) hb); clear HO_3; clear HO145; clear HB; have HO_3 := n0_; have HO145 := n1_; have HO150 := n2_; have HB := n3_; clear n0_ n1_ n2_ n3_; (try clear hb); (try clear hb2); (try clear hk); (try clear hi); (try clear ho0); obtain ⟨Ao51, co51, eo51⟩ := Kd.R_slice HO145.out; subst eo51; obtain ⟨Ao52, co52, eo52⟩ := Kd.R_slice HO150.out; subst eo52) | (go_at_call 12; (with_reducible refine (camletref40_SameWords.calls k1 _ _ t141 _ _ t146 true _ ?side1 ?side2 ?side3 ?side4 A39.out).mono ?_); (case side1 => repeat (first | exact (Kd.R_reads' HO145.out).2.2 | (with_reducible refine Kd.C_alloc ?_ _) | (with_reducible refine Kd.C_drewN ?_ _) | (with_reducible refine Kd.C_drew ?_))); (case side2 => exact (Kd.R_reads' HO145.out).2.1); (case side3 => repeat (first | exact (Kd.R_reads' HO150.out).2.2 | (with_reducible refine Kd.C_alloc ?_ _) | (with_reducible refine Kd.C_drewN ?_ _) | (with_reducible refine Kd.C_drew ?_))); (case side4 => exact (Kd.R_reads' HO150.out).2.1); rintro e w' ⟨rfl, ⟨nd, rfl⟩⟩))
                  go_ret
                  exact ⟨by first | rfl | (simp [errW_none, errW_some] <;> rfl) | (simp [*, errW_none, errW_some] <;> rfl), by repeat (first | (with_reducible first | exact HB.out | apply below_alloc | apply pw_below_drewN | apply below_drew1) | exact HB.out)⟩
              · rw [if_neg c41] at H
                have c41b0 : (t142 == t147) = false := beq_eq_false_iff_ne.mpr c41
                have c41b1 : (t142 != t147) = true := bne_iff_ne.mpr c41
                obtain rfl := Option.some.inj H
                go_wp2_with (first | (go_at_call 10; (with_reducible refine (asm_Of.calls _ _ l0 t141 t142 t143 _ ?side1 ?side2 A37.out).mono ?_); (case side1 => repeat (first | exact (Kd.C_below HR0.out HB.out) | (with_reducible refine Kd.C_alloc ?_ _) | (with_reducible refine Kd.C_drewN ?_ _) | (with_reducible refine Kd.C_drew ?_))); (case side2 => exact HC0.out); rintro e w53 ⟨v144, rfl, ho0, hb⟩; have n0_ := Aside0.mk (Kd.R_below (by (with_reducible repeat (first | apply Kd.R_alloc | apply Kd.R_drewN | apply Kd.R_drew)); exact HO_3.out) hb); have n1_ := Aside0.mk (Kd.R_lower ho0 (below_size (by repeat (first | (with_reducible first | exact HB.out | apply below_alloc | apply pw_below_drewN | apply below_drew1) | exact HB.out)))); have n2_ := Aside0.mk (below_step (by repeat (first | (with_reducible first | exact HB.out | apply below_alloc | apply pw_below_drewN | apply below_drew1) | exact HB.out)) hb); clear HO_3; clear HB; have HO_3 := n0_; have HO145 := n1_; have HB := n2_; clear n0_ n1_ n2_; (try clear hb); (try clear hb2); (try clear hk); (try clear hi); (try clear ho0)) | (go_at_call 10; (with_reducible refine (asm_Of.calls _ _ x3_1 t146 t147 t148 _ ?side1 ?side2 A38.out).mono ?_); (case side1 => repeat (first | exact (Kd.R_reads' HO_3.out).2.2 | (with_reducible refine Kd.C_alloc ?_ _) | (with_reducible refine Kd.C_drewN ?_ _) | (with_reducible refine Kd.C_drew ?_))); (case side2 => exact (Kd.R_reads' HO_3.out).2.1); rintro e w54 ⟨v149, rfl, ho0, hb⟩; have n0_ := Aside0.mk (Kd.R_below (by (with_reducible repeat (first | apply Kd.R_alloc | apply Kd.R_drewN | apply Kd.R_drew)); exact HO_3.out) hb); have n1_ := Aside0.mk (Kd.R_elder' (by (with_reducible repeat (first | apply Kd.R_alloc | apply Kd.R_drewN | apply Kd.R_drew)); exact HO145.out) (Kd.R_base ho0) hb); have n2_ := Aside0.mk (Kd.R_lower (Kd.R_new' ho0 (Kd.R_lt (by (with_reducible repeat (first | apply Kd.R_alloc | apply Kd.R_drewN | apply Kd.R_drew)); exact HO145.out))) (below_size (by repeat (first | (with_reducible first | exact HB.out | apply below_alloc | apply pw_below_drewN | apply below_drew1) | exact HB.out)))); have n3_ := Aside0.mk (below_step (by repeat (first | (with_reducible first | exact HB.out | apply below_alloc | apply pw_below_drewN | apply below_drew1) | exact HB.out)) hb); clear HO_3; clear HO145; clear HB; have HO_3 := n0_; have HO145 := n1_; have HO150 := n2_; have HB := n3_; clear n0_ n1_ n2_ n3_; (try clear hb); (try clear hb2); (try clear hk); (try clear hi); (try clear ho0); obtain ⟨Ao55, co55, eo55⟩ := Kd.R_slice HO145.out; subst eo55; obtain ⟨Ao56, co56, eo56⟩ := Kd.R_slice HO150.out; subst eo56) | (go_at_call 12; (with_reducible refine (camletref40_SameWords.calls k1 _ _ t141 _ _ t146 true _ ?side1 ?side2 ?side3 ?side4 A39.out).mono ?_); (case side1 => repeat (first | exact (Kd.R_reads' HO145.out).2.2 | (with_reducible refine Kd.C_alloc ?_ _) | (with_reducible refine Kd.C_drewN ?_ _) | (with_reducible refine Kd.C_drew ?_))); (case side2 => exact (Kd.R_reads' HO145.out).2.1); (case side3 => repeat (first | exact (Kd.R_reads' HO150.out).2.2 | (with_reducible refine Kd.C_alloc ?_ _) | (with_reducible refine Kd.C_drewN ?_ _) | (with_reducible refine Kd.C_drew ?_))); (case side4 => exact (Kd.R_reads' HO150.out).2.1); rintro e w' ⟨rfl, ⟨nd, rfl⟩⟩))
                go_ret
                exact ⟨by first | rfl | (simp [errW_none, errW_some] <;> rfl) | (simp [*, errW_none, errW_some] <;> rfl), by repeat (first | (with_reducible first | exact HB.out | apply below_alloc | apply pw_below_drewN | apply below_drew1) | exact HB.out)⟩
            · replace c40 := Bool.eq_false_iff.mpr c40
              subst c40
              have H1 : (some false) = some r := by rw [if_neg (show ¬ (false = true) by decide)] at H; exact H
              clear H
              have H := H1
              clear H1
              obtain rfl := Option.some.inj H
              go_wp2_with (first | (go_at_call 10; (with_reducible refine (asm_Of.calls _ _ l0 t141 t142 t143 _ ?side1 ?side2 A37.out).mono ?_); (case side1 => repeat (first | exact (Kd.C_below HR0.out HB.out) | (with_reducible refine Kd.C_alloc ?_ _) | (with_reducible refine Kd.C_drewN ?_ _) | (with_reducible refine Kd.C_drew ?_))); (case side2 => exact HC0.out); rintro e w57 ⟨v144, rfl, ho0, hb⟩; have n0_ := Aside0.mk (Kd.R_below (by (with_reducible repeat (first | apply Kd.R_alloc | apply Kd.R_drewN | apply Kd.R_drew)); exact HO_3.out) hb); have n1_ := Aside0.mk (Kd.R_lower ho0 (below_size (by repeat (first | (with_reducible first | exact HB.out | apply below_alloc | apply pw_below_drewN | apply below_drew1) | exact HB.out)))); have n2_ := Aside0.mk (below_step (by repeat (first | (with_reducible first | exact HB.out | apply below_alloc | apply pw_below_drewN | apply below_drew1) | exact HB.out)) hb); clear HO_3; clear HB; have HO_3 := n0_; have HO145 := n1_; have HB := n2_; clear n0_ n1_ n2_; (try clear hb); (try clear hb2); (try clear hk); (try clear hi); (try clear ho0)) | (go_at_call 10; (with_reducible refine (asm_Of.calls _ _ x3_1 t146 t147 t148 _ ?side1 ?side2 A38.out).mono ?_); (case side1 => repeat (first | exact (Kd.R_reads' HO_3.out).2.2 | (with_reducible refine Kd.C_alloc ?_ _) | (with_reducible refine Kd.C_drewN ?_ _) | (with_reducible refine Kd.C_drew ?_))); (case side2 => exact (Kd.R_reads' HO_3.out).2.1); rintro e w58 ⟨v149, rfl, ho0, hb⟩; have n0_ := Aside0.mk (Kd.R_below (by (with_reducible repeat (first | apply Kd.R_alloc | apply Kd.R_drewN | apply Kd.R_drew)); exact HO_3.out) hb); have n1_ := Aside0.mk (Kd.R_elder' (by (with_reducible repeat (first | apply Kd.R_alloc | apply Kd.R_drewN | apply Kd.R_drew)); exact HO145.out) (Kd.R_base ho0) hb); have n2_ := Aside0.mk (Kd.R_lower (Kd.R_new' ho0 (Kd.R_lt (by (with_reducible repeat (first | apply Kd.R_alloc | apply Kd.R_drewN | apply Kd.R_drew)); exact HO145.out))) (below_size (by repeat (first | (with_reducible first | exact HB.out | apply below_alloc | apply pw_below_drewN | apply below_drew1) | exact HB.out)))); have n3_ := Aside0.mk (below_step (by repeat (first | (with_reducible first | exact HB.out | apply below_alloc | apply pw_below_drewN | apply below_drew1) | exact HB.out)) hb); clear HO_3; clear HO145; clear HB; have HO_3 := n0_; have HO145 := n1_; have HO150 := n2_; have HB := n3_; clear n0_ n1_ n2_ n3_; (try clear hb); (try clear hb2); (try clear hk); (try clear hi); (try clear ho0); obtain ⟨Ao59, co59, eo59⟩ := Kd.R_slice HO145.out; subst eo59; obtain ⟨Ao60, co60, eo60⟩ := Kd.R_slice HO150.out; subst eo60) | (go_at_call 12; (with_reducible refine (camletref40_SameWords.calls k1 _ _ t141 _ _ t146 false _ ?side1 ?side2 ?side3 ?side4 A39.out).mono ?_); (case side1 => repeat (first | exact (Kd.R_reads' HO145.out).2.2 | (with_reducible refine Kd.C_alloc ?_ _) | (with_reducible refine Kd.C_drewN ?_ _) | (with_reducible refine Kd.C_drew ?_))); (case side2 => exact (Kd.R_reads' HO145.out).2.1); (case side3 => repeat (first | exact (Kd.R_reads' HO150.out).2.2 | (with_reducible refine Kd.C_alloc ?_ _) | (with_reducible refine Kd.C_drewN ?_ _) | (with_reducible refine Kd.C_drew ?_))); (case side4 => exact (Kd.R_reads' HO150.out).2.1); rintro e w' ⟨rfl, ⟨nd, rfl⟩⟩))
              go_ret
              exact ⟨by first | rfl | (simp [errW_none, errW_some] <;> rfl) | (simp [*, errW_none, errW_some] <;> rfl), by repeat (first | (with_reducible first | exact HB.out | apply below_alloc | apply pw_below_drewN | apply below_drew1) | exact HB.out)⟩
    · rw [if_neg c4] at H
      exact absurd H (by simp)
  · replace c3 := Bool.eq_false_iff.mpr c3
    subst c3
    have H1 : ((camletlaw40_knows.f k).bind fun t122 => (some t122)) = some r := by rw [if_neg (show ¬ (false = true) by decide)] at H; exact H
    clear H
    have H := H1
    clear H1
    replace H := Option.bind_eq_some_iff.mp H
    obtain ⟨t122, A610, H⟩ := H
    replace H : (some t122) = some r := H
    have A61 := Aside0.mk A610
    clear A610
    obtain rfl := Option.some.inj H
    go_enter Tryd.func4, Tryd.ntmps4
    go_wp2_with (first | (go_at_call 8; (with_reducible refine (camletlaw40_few.calls k _ _ l0 false _ ?side1 ?side2 A2.out).mono ?_); (case side1 => repeat (first | exact HR0.out | (with_reducible refine Kd.C_alloc ?_ _) | (with_reducible refine Kd.C_drewN ?_ _) | (with_reducible refine Kd.C_drew ?_))); (case side2 => exact HC0.out); rintro e w62 ⟨rfl, hb⟩; have n0_ := Aside0.mk (below_step (by repeat (first | (with_reducible first | exact HB.out | apply below_alloc | apply pw_below_drewN | apply below_drew1) | exact HB.out)) hb); clear HB; have HB := n0_; clear n0_; (try clear hb); (try clear hb2); (try clear hk); (try clear hi)) | (go_at_call 9; (with_reducible refine (camletlaw40_knows.calls k  t122 _ ?side1 A61.out).mono ?_); (case side1 => exact Laid.mono HG.out (by repeat (first | (with_reducible first | exact HB.out | apply below_alloc | apply pw_below_drewN | apply below_drew1) | exact HB.out))); rintro e w63 ⟨rfl, hb⟩; have n0_ := Aside0.mk (below_step (by repeat (first | (with_reducible first | exact HB.out | apply below_alloc | apply pw_below_drewN | apply below_drew1) | exact HB.out)) hb); clear HB; have HB := n0_; clear n0_; (try clear hb); (try clear hb2); (try clear hk); (try clear hi)))
    go_ret
    exact ⟨by first | rfl | (simp [errW_none, errW_some] <;> rfl) | (simp [*, errW_none, errW_some] <;> rfl), by repeat (first | (with_reducible first | exact HB.out | apply below_alloc | apply pw_below_drewN | apply below_drew1) | exact HB.out)⟩

end Go.Proofs.YtlhkojnocconfaaDoor.Q
