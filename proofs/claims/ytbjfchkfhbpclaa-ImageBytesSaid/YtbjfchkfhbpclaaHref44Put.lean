/- The reference's Put of an image. By wip/gen/img_ref.py. -/
import Derived.Test.YtbjfchkfhbpclaaQx0
import Derived.Test.YtbjfchkfhbpclaaQx11
import Derived.Test.YtbjfchkfhbpclaaAw
import Derived.Test.YtbjfchkfhbpclaaAwFix
import Derived.Test.YtbjfchkfhbpclaaAwFrame
import Derived.Test.YtbjfchkfhbpclaaAwSl
import Derived.Test.YtbjfchkfhbpclaaEvW
import Derived.Test.YtbjfchkfhbpclaaHimgPut
import Derived.Test.YtbjfchkfhbpclaaHimgSum
--@needs XAw
--@needs XAwSl
--@needs XAwFrame
--@needs XHimgPut
--@needs XHimgSum
--@needs XAwFix
--@needs XEvW
--@uses camlet/camletref44.Right
--@uses camlet/camletref44.four
--@uses camlet/camletref44.Sum
import Derived.LoopTactic
import Derived.Deep.LoopGhost
import Derived.Lib.Hide
import Derived.Deep.QuietTactic
import Derived.BigQuiet
import Derived.IntWalk
namespace Go.Proofs.Ytbjfchkfhbpclaa.Q
open Go.RowKit Go.Proofs.YtbjfchkfhbpclaaW.PrintWords Go.Proofs.YtbjfchkfhbpclaaW.PrintLast Go.Proofs.YtbjfchkfhbpclaaW.PrintMore
attribute [local go_sem] max2_int min2_int max_two min_two max_three min_three max_four min_four   -- for this text's walks alone
set_option linter.unusedVariables false
set_option linter.unusedSimpArgs false

theorem ref44_Right_eq (l : List Int) (a : Int) : camletref44_Right.f l a = some (imgRight l a) := by
  unfold camletref44_Right.f imgRight
  repeat' split
  all_goals (first | (congr 1; symm; rw [decide_eq_false_iff_not]; omega) | (congr 1; rw [decide_eq_decide]; omega))
theorem ref44_Sum_go (l : List Int) (hl : l.length ≤ 2000000) (hb : ∀ x ∈ l, 0 ≤ x ∧ x < 256) : ∀ (d i : Nat) (s : Int), i + d = l.length → Ev (fun k => camletref44_Sum.l0 k l s (l.length : Int) (i : Int)) (sumB s (l.drop i)) := by
  intro d
  induction d with
  | zero =>
    intro i s hi
    refine Ev.step (f := fun _ => some s) (fun k => ?_) ?_
    · rw [camletref44_Sum.l0]; rw [if_neg (by omega)]
    · rw [List.drop_eq_nil_of_le (by omega)]; exact Ev.now _
  | succ d ih =>
    intro i s hi
    have hlt : i < l.length := by omega
    have hx := hb _ (List.getElem_mem hlt)
    have e : rd l (i : Int) = l[i] := by
      unfold rd
      rw [Int.toNat_natCast, List.getD_eq_getElem?_getD, List.getElem?_eq_getElem hlt]
      rfl
    have h := ih (i + 1) ((31 * s % 4294967296 + l[i]) % 4294967296) (by omega)
    rw [List.drop_eq_getElem_cons hlt]
    refine Ev.step (f := fun k => camletref44_Sum.l0 k l ((31 * s % 4294967296 + l[i]) % 4294967296) (l.length : Int) ((i + 1 : Nat) : Int)) (fun k => ?_) h
    rw [camletref44_Sum.l0]
    rw [if_pos (by omega), if_pos (by omega), if_pos (by omega), e, show l[i] % 4294967296 = l[i] by omega, show wrap64 ((i : Int) + 1) = ((i + 1 : Nat) : Int) by unfold wrap64; omega]
theorem ref44_Sum_eq {l : List Int} (hl : l.length ≤ 2000000) (hb : ∀ x ∈ l, 0 ≤ x ∧ x < 256) : Ev (fun k => camletref44_Sum.f k l) (sumB 1 l) := by
  have h := ref44_Sum_go l hl hb l.length 0 1 (by omega)
  rw [List.drop_zero] at h
  exact h
def camletref44_Put.f (l0_0 : List Int) (a0_1 : Int) : Option (List Int × Int) := if imgRight l0_0 a0_1 = true then some (imgBytes l0_0 a0_1, 0) else some ([], 1)
theorem own_cells {w W : World} {e : TypeId} {q : IntKind} {l : List Int} {v : Value} {base : Nat} {ok : Nat → Prop} (h : Kd.R (Kd.int q) e W base ok v l) (hp : 0 < l.length) : ∃ ad c, v = .slice (some ad) l.length c ∧ ∀ j u, (l.map (Value.int q))[j]? = some u → W.cell? (ad.add j) = some u := by
  obtain ⟨g, c, rfl, _⟩ := Kd.R_form h hp
  have hr := (Kd.R_reads' h).2.2
  refine ⟨_, _, rfl, fun j u hu => ?_⟩
  rw [List.getElem?_map, Option.map_eq_some_iff] at hu
  obtain ⟨x, hx, rfl⟩ := hu
  have hj : j < l.length := (List.getElem?_eq_some_iff.1 hx).1
  obtain ⟨ad2, e2, hc⟩ := Kd.at_int hr (j : Int) (by omega) (by omega)
  injection e2 with e2
  subst e2
  rw [Int.toNat_natCast] at hc
  rw [hc]
  congr 2
  unfold rd
  rw [Int.toNat_natCast, List.getD_eq_getElem?_getD, hx]
  rfl
theorem img_four (n : Int) (w : World) : Calls Try.prog 25 #[.int .u32 n] w fun e w' => ∃ ad c, e = .returned (.slice (some ad) 4 c) ∧ (∀ j u, ((fourB n).map (Value.int .u8))[j]? = some u → w'.cell? (ad.add j) = some u) ∧ Below w.heap.size w w' := by
  refine (camletref44_four.calls n _ w rfl).mono ?_
  rintro e w' ⟨v, rfl, hR, hb⟩
  obtain ⟨ad, c, rfl, hc⟩ := own_cells (w := w) hR (Nat.succ_pos _)
  exact ⟨ad, c, rfl, hc, hb⟩
set_option maxHeartbeats 8000000 in
set_option maxRecDepth 100000 in
theorem fourB_one {n : Int} : ∀ u ∈ (fourB n).map (Value.int .u8), u.oneCell' = true := by
  intro u hu
  obtain ⟨x, _, rfl⟩ := List.mem_map.1 hu
  rfl
theorem camletref44_Put.calls (A0_0 : Option Addr) (c0_0 : Nat) (l0_0 : List Int) (a0_1 : Int) (r1 : List Int) (r2 : Int) (w : World) (hr0_0 : Kd.C (Kd.int .u32) w A0_0 l0_0.length l0_0) (hc0_0 : l0_0.length ≤ c0_0) (h : camletref44_Put.f l0_0 a0_1 = some (r1, r2)) :
    Calls Try.prog 14 #[.agg #[.slice A0_0 l0_0.length c0_0, .int .i64 a0_1]] w fun e w' => ∃ v0_ : Value, e = .returned (.tuple #[v0_, .int .i64 r2]) ∧ Kd.R (Kd.int .u8) 5 w' w.heap.size (fun _ => True) v0_ r1 ∧ Below w.heap.size w w' := by
  have HA := Aw.start noS w
  have HR0 := Aside0.mk hr0_0
  clear hr0_0
  have hright := ref44_Right_eq l0_0 a0_1
  unfold camletref44_Put.f at h
  cases hR : imgRight l0_0 a0_1 with
  | false =>
    rw [hR] at h hright
    rw [if_neg (by decide)] at h
    obtain ⟨rfl, rfl⟩ := Prod.mk.inj (Option.some.inj h)
    clear h
    go_enter Try.func14, Try.ntmps14
    go_wp2_with (first | ((with_reducible refine gate_dst (N := 1) rfl ?_); refine aw_box rfl rfl rfl HA ?_; clear HA; intro bx W_ HA; simp only [Act.put, List.setIfInBounds_toArray, List.set_cons_succ, List.set_cons_zero]) | (go_at_call 16; refine (camletref44_Right.calls A0_0 c0_0 l0_0 a0_1 _ _ (HA.1.reads HR0.out) hc0_0 hright).mono ?_; rintro e W_ ⟨rfl, hb_⟩; replace HA := HA.call hb_; clear hb_) | ((with_reducible refine gate_ld rfl ?_); (first | refine aw_loadW 0 (t := 27) rfl rfl HA rfl rfl ?_ ?_ | refine aw_load 0 rfl rfl HA rfl rfl rfl ?_ ?_ | refine aw_load 1 rfl rfl HA rfl rfl rfl ?_ ?_ | refine aw_load 2 rfl rfl HA rfl rfl rfl ?_ ?_ | refine aw_load 3 rfl rfl HA rfl rfl rfl ?_ ?_); kernel_rfl; simp only [Act.put, List.setIfInBounds_toArray, List.set_cons_succ, List.set_cons_zero]))
    go_ret2
    exact ⟨_, rfl, (Own.nil _ _).kdR (l := []) HA (by simp) (fun _ _ => trivial), HA.below⟩
  | true =>
    rw [hR] at h hright
    rw [if_pos rfl] at h
    obtain ⟨hr1, rfl⟩ := Prod.mk.inj (Option.some.inj h)
    have HR1 := Aside0.mk hr1
    have hb := of_decide_eq_true hR
    have hn1 : l0_0.length ≤ 16384 := hb.2.1
    have e1 : (l0_0.length : Int) % 4294967296 = l0_0.length := by omega
    have e2 : a0_1 % 4294967296 = a0_1 := by omega
    have ham1 : 4 + 4 ≤ maxLen := by decide
    have ham2 : (4 + 4) * 1 ≤ 140737488355328 := by decide
    have han1 : 4 + 4 + 4 ≤ maxLen := by decide
    have han2 : (4 + 4 + 4) * 1 ≤ 140737488355328 := by decide
    clear h hr1 hb
    go_enter Try.func14, Try.ntmps14
    go_wp2_with (first | ((with_reducible refine gate_dst (N := 1) rfl ?_); refine aw_box rfl rfl rfl HA ?_; clear HA; intro bx W_ HA; simp only [Act.put, List.setIfInBounds_toArray, List.set_cons_succ, List.set_cons_zero]) | (go_at_call 16; refine (camletref44_Right.calls A0_0 c0_0 l0_0 a0_1 _ _ (HA.1.reads HR0.out) hc0_0 hright).mono ?_; rintro e W_ ⟨rfl, hb_⟩; replace HA := HA.call hb_; clear hb_) | ((with_reducible refine gate_dst (N := 9) rfl ?_); refine aw_newv (fun g => .slice (some ⟨g, 0, none⟩) 4 4) 5 [.int .u8 67, .int .u8 77, .int .u8 76, .int .u8 49] rfl (fun W => by first | (go_simp; done) | (go_simp; rfl) | kernel_rfl) HA ?_; clear HA; intro g0 W_ HA; simp only [Act.put, List.setIfInBounds_toArray, List.set_cons_succ, List.set_cons_zero]) | ((with_reducible refine gate_dst (N := 10) rfl ?_); refine aw_mark 0 Try.underlying32 Try.underlying5 rfl rfl rfl HA rfl ?_; clear HA; intro W_ HA; dsimp only [List.set, List.take, List.cons_append, List.nil_append] at HA; simp only [Act.put, List.setIfInBounds_toArray, List.set_cons_succ, List.set_cons_zero]) | (go_at_call 25; refine (img_four _ _).mono ?_; rintro e W_ ⟨adf, cf, rfl, hcf, hb_⟩; replace HA := HA.call hb_; clear hb_; have HCF := Lib.hid hcf; clear hcf) | ((with_reducible refine gate_dst (N := 17) rfl ?_); refine aw_append_fix_core 0 (news := (fourB (l0_0.length : Int)).map (Value.int .u8)) Try.underlying32 b_info rfl (Nat.le_refl 1) rfl rfl rfl HA rfl rfl HCF.out (by decide) rfl rfl ham1 ham2 ?_; clear HA HCF; intro v_ W_ Lv_ hown1 HA; obtain ⟨A1_, c1_, rfl⟩ := img_form hown1; dsimp only [List.cons_append, List.nil_append] at HA; simp only [Act.put, List.setIfInBounds_toArray, List.set_cons_succ, List.set_cons_zero]) | ((with_reducible refine gate_dst (N := 23) rfl ?_); refine aw_append_core 2 (news := (fourB a0_1).map (Value.int .u8)) rfl Try.underlying32 b_info rfl (Nat.le_refl 1) rfl hown1 rfl rfl HA rfl rfl HCF.out fourB_one han1 han2 ?_; clear HA HCF; intro v_ W_ Lv_ hown2 HA; obtain ⟨A2_, c2_, rfl⟩ := img_form hown2; dsimp only [List.take, List.cons_append, List.nil_append] at HA; simp only [Act.put, List.setIfInBounds_toArray, List.set_cons_succ, List.set_cons_zero]) | ((with_reducible refine gate_ld rfl ?_); (first | refine aw_loadW 0 (t := 27) rfl rfl HA rfl rfl ?_ ?_ | refine aw_load 0 rfl rfl HA rfl rfl rfl ?_ ?_ | refine aw_load 1 rfl rfl HA rfl rfl rfl ?_ ?_ | refine aw_load 2 rfl rfl HA rfl rfl rfl ?_ ?_ | refine aw_load 3 rfl rfl HA rfl rfl rfl ?_ ?_); kernel_rfl; simp only [Act.put, List.setIfInBounds_toArray, List.set_cons_succ, List.set_cons_zero]))
    obtain ⟨bse, hbse⟩ : ∃ b : List Int, [67, 77, 76, 49] ++ fourB (l0_0.length : Int) ++ fourB a0_1 = b := ⟨_, rfl⟩
    have hbl : bse.length = 12 := by rw [← hbse]; rfl
    have hown3 : Own 5 1 (.slice A2_ (4 + 4 + 4) c2_) bse.length (bse.map (Value.int .u8)) Lv_ := by
      rw [hbl, ← hbse, List.map_append, List.map_append]
      exact hown2
    have HI : Aside0 (bse ++ putsB l0_0 = imgHead l0_0 a0_1) := ⟨by rw [← hbse]; simp [imgHead, putsB]⟩
    clear hbse hown2 hown1 ham1 ham2 han1 han2 e1 e2
    go_loopg [4, 27] (l0_0.length) (fun g v i wx => ∃ (k : Nat) (Lv : List (Nat × Blk)), k + g = l0_0.length ∧ i = .int .i64 k ∧ Own 5 1 v (bse ++ putsB (l0_0.take k)).length ((bse ++ putsB (l0_0.take k)).map (Value.int .u8)) Lv ∧ Aw noS w wx ((g0, Blk.fix 5 [.int .u8 67, .int .u8 77, .int .u8 76, .int .u8 49]) :: (bx, .c 27 [.slice A0_0 l0_0.length c0_0, .int .i64 a0_1]) :: Lv))
    case atStart => exact ⟨0, _, by omega, rfl, by simpa [putsB, hbl] using hown3, HA⟩
    case round =>
      clear HA hown3
      obtain ⟨k, Lv, hk, rfl, hown, HA⟩ := hrel
      obtain ⟨A_, c_, rfl⟩ := img_form hown
      by_cases hlt : k < l0_0.length
      · have ck1 : decide ((k : Int) < (l0_0.length : Int)) = true := decide_eq_true (by omega)
        have ck2 : decide (k < l0_0.length) = true := decide_eq_true hlt
        have ck3 : 0 ≤ (k : Int) := by omega
        obtain ⟨ad, e, hcell⟩ := Kd.at_int (HA.1.reads HR0.out) (k : Int) (by omega) (by omega)
        subst e
        rw [Int.toNat_natCast] at hcell
        have HT := Aside0.mk (putsB_take hlt)
        obtain ⟨p, hp⟩ : ∃ p, rd l0_0 k = p := ⟨_, rfl⟩
        rw [hp] at hcell HT
        have hpl := putsB_len (l0_0.take k)
        rw [List.length_take] at hpl
        obtain ⟨pre, hpre⟩ : ∃ pre, bse ++ putsB (l0_0.take k) = pre := ⟨_, rfl⟩
        have hprl : pre.length ≤ 2000000 := by rw [← hpre, List.length_append, hpl]; omega
        rw [hpre] at hown ⊢
        have HP := Aside0.mk hpre
        have hap1 : pre.length + 4 ≤ maxLen := by unfold maxLen; omega
        have hap2 : (pre.length + 4) * 1 ≤ 140737488355328 := by omega
        clear hp hpl hpre
        go_wp2_with (first | (go_at_call 25; refine (img_four _ _).mono ?_; rintro e W_ ⟨adf, cf, rfl, hcf, hb_⟩; replace HA := HA.call hb_; clear hb_; have HCF := Lib.hid hcf; clear hcf) | ((with_reducible refine gate_dst (N := 37) rfl ?_); refine aw_append_core 2 (news := (fourB p).map (Value.int .u8)) rfl Try.underlying32 b_info rfl (Nat.le_refl 1) rfl hown rfl rfl HA rfl rfl HCF.out fourB_one hap1 hap2 ?_; clear HA HCF; intro v_ W_ Lv_ hown_9 HA; obtain ⟨A9_, c9_, rfl⟩ := img_form hown_9; dsimp only [List.take, List.cons_append, List.nil_append] at HA; simp only [Act.put, List.setIfInBounds_toArray, List.set_cons_succ, List.set_cons_zero]) | ((with_reducible refine gate_ld rfl ?_); (first | refine aw_load 0 rfl rfl HA rfl rfl rfl ?_ ?_ | refine aw_load 1 rfl rfl HA rfl rfl rfl ?_ ?_); kernel_rfl; simp only [Act.put, List.setIfInBounds_toArray, List.set_cons_succ, List.set_cons_zero]))
        go_roundg (l0_0.length - (k + 1))
        case measure => omega
        case rel => exact ⟨k + 1, Lv_, by omega, by go_num, by rw [HT.out, ← List.append_assoc, HP.out]; simpa [fourB] using hown_9, HA⟩
      · have ck1 : decide ((k : Int) < (l0_0.length : Int)) = false := decide_eq_false (by omega)
        have ck2 : decide (k < l0_0.length) = false := decide_eq_false hlt
        obtain rfl : k = l0_0.length := by omega
        rw [List.take_length] at hown ⊢
        obtain ⟨pre, hpre⟩ : ∃ pre, bse ++ putsB l0_0 = pre := ⟨_, rfl⟩
        rw [hpre] at hown ⊢
        have HP : Aside0 (pre = imgHead l0_0 a0_1) := ⟨by rw [← hpre, HI.out]⟩
        have hprl : pre.length ≤ 2000000 := by rw [HP.out, imgHead_len]; omega
        obtain ⟨K, hK⟩ := Ev.out (ref44_Sum_eq hprl (by rw [HP.out]; exact imgHead_byte))
        obtain ⟨sm, hsm⟩ : ∃ sm, sumB 1 pre = sm := ⟨_, rfl⟩
        rw [hsm] at hK
        have HSM := Aside0.mk hsm
        have hap1 : pre.length + 4 ≤ maxLen := by unfold maxLen; omega
        have hap2 : (pre.length + 4) * 1 ≤ 140737488355328 := by omega
        clear hlt hk hpre hsm hn1
        go_wp2_with (first | (go_at_call 26; refine (camletref44_Sum.calls K A_ c_ pre sm _ (hown.reads HA (fun x hx => by simp [hx])).1 (hown.reads HA (fun x hx => by simp [hx])).2 hK).mono ?_; rintro e W_ ⟨rfl, hd_⟩; replace HA := HA.drewN0 hd_; clear hd_) | (go_at_call 25; refine (img_four _ _).mono ?_; rintro e W_ ⟨adf, cf, rfl, hcf, hb_⟩; replace HA := HA.call hb_; clear hb_; have HCF := Lib.hid hcf; clear hcf) | ((with_reducible refine gate_dst (N := 43) rfl ?_); refine aw_append_core 2 (news := (fourB sm).map (Value.int .u8)) rfl Try.underlying32 b_info rfl (Nat.le_refl 1) rfl hown rfl rfl HA rfl rfl HCF.out fourB_one hap1 hap2 ?_; clear HA HCF; intro v_ W_ Lv_ hown_9 HA; obtain ⟨A9_, c9_, rfl⟩ := img_form hown_9; dsimp only [List.take, List.cons_append, List.nil_append] at HA; simp only [Act.put, List.setIfInBounds_toArray, List.set_cons_succ, List.set_cons_zero]) | ((with_reducible refine gate_ld rfl ?_); (first | refine aw_load 0 rfl rfl HA rfl rfl rfl ?_ ?_ | refine aw_load 1 rfl rfl HA rfl rfl rfl ?_ ?_); kernel_rfl; simp only [Act.put, List.setIfInBounds_toArray, List.set_cons_succ, List.set_cons_zero]))
        go_ret2
        refine ⟨_, rfl, ?_, HA.below⟩
        rw [← HR1.out]
        have e : imgBytes l0_0 a0_1 = pre ++ putsB [sm] := by unfold imgBytes; rw [← HP.out, HSM.out]
        rw [e]
        have h9 : Own 5 1 (.slice A9_ (pre.length + 4) c9_) (pre ++ putsB [sm]).length ((pre ++ putsB [sm]).map (Value.int .u8)) Lv_ := by simpa [putsB, fourB] using hown_9
        have h10 := h9.kdR HA (ok := fun _ => True) (fun x hx => by simp [hx]) (fun _ _ => trivial)
        exact h10
end Go.Proofs.Ytbjfchkfhbpclaa.Q
