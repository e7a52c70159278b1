/- image.put, image.adder. By wip/gen/img.py. -/
import Derived.Test.YtbjfchkfhbpclaaQx0
import Derived.Test.YtbjfchkfhbpclaaAw
import Derived.Test.YtbjfchkfhbpclaaAwFix
import Derived.Test.YtbjfchkfhbpclaaAwFrame
import Derived.Test.YtbjfchkfhbpclaaAwSl
--@needs XAw
--@needs XAwSl
--@needs XAwFrame
--@needs XAwFix

import Derived.LoopTactic
import Derived.Deep.LoopGhost
import Derived.Lib.Hide
import Derived.Deep.QuietTactic
import Derived.BigQuiet
import Derived.IntWalk
namespace Go.Proofs.Ytbjfchkfhbpclaa.Q
open Go.RowKit Go.Proofs.YtbjfchkfhbpclaaW.PrintWords Go.Proofs.YtbjfchkfhbpclaaW.PrintLast Go.Proofs.YtbjfchkfhbpclaaW.PrintMore
attribute [local go_sem] max2_int min2_int max_two min_two max_three min_three max_four min_four   -- for this text's walks alone
set_option linter.unusedVariables false
set_option linter.unusedSimpArgs false

theorem img_form {e size n : Nat} {v : Value} {xs : List Value} {Lv : List (Nat × Blk)} (h : Own e size v n xs Lv) : ∃ A c, v = .slice A n c := by
  obtain ⟨_, ⟨rfl, hn, _⟩ | ⟨g, cap, rfl, _, _⟩⟩ := h
  · exact ⟨none, 0, by rw [hn]⟩
  · exact ⟨_, _, rfl⟩
theorem b_info : (Try.prog.info? 5).map (fun i => (i.zero, i.size, i.bytes)) = some (some (.int .u8 0), 1, 1) := by kernel_rfl
def fourB (n : Int) : List Int := [n / 16777216 % 256, n / 65536 % 256, n / 256 % 256, n % 256]
def putsB (l : List Int) : List Int := l.flatMap fourB
theorem putsB_take {l : List Int} {k : Nat} (h : k < l.length) : putsB (l.take (k + 1)) = putsB (l.take k) ++ fourB (rd l k) := by
  unfold putsB rd
  rw [List.take_succ_eq_append_getElem h, List.flatMap_append, Int.toNat_natCast, List.getD_eq_getElem?_getD, List.getElem?_eq_getElem h]
  simp
theorem putsB_len (l : List Int) : (putsB l).length = 4 * l.length := by
  unfold putsB
  induction l with
  | nil => rfl
  | cons a l ih => rw [List.flatMap_cons, List.length_append, ih]; simp [fourB]; omega
set_option maxHeartbeats 8000000 in
set_option maxRecDepth 100000 in
theorem img_put.calls {S : Nat → Prop} {w W : World} {R : List (Nat × Blk)} {v0 : Value} {Lv0 : List (Nat × Blk)} (b : List Int) (A1 : Option Addr) (c1 : Nat) (l1 : List Int) (hown0 : Own 5 1 v0 b.length (b.map (Value.int .u8)) Lv0) (hr : ∀ W' Lv', Aw S w W' (R ++ Lv') → Kd.C (Kd.int .u32) W' A1 l1.length l1) (hc1 : l1.length ≤ c1) (hl : l1.length ≤ 100000) (hb : b.length ≤ 1000000) (HA : Aw S w W (R ++ Lv0)) :
    Calls Try.prog 23 #[v0, .slice A1 l1.length c1] W fun e W' => ∃ v' Lv', e = .returned v' ∧ Own 5 1 v' (b ++ putsB l1).length ((b ++ putsB l1).map (Value.int .u8)) Lv' ∧ Aw S w W' (R ++ Lv') := by
  have HR := Lib.hid hr
  clear hr
  go_enter Try.func23, Try.ntmps23
  go_wp2
  go_loopg [0, 9] (l1.length) (fun g v i wx => ∃ (k : Nat) (Lv : List (Nat × Blk)), k + g = l1.length ∧ i = .int .i64 k ∧ Own 5 1 v (b ++ putsB (l1.take k)).length ((b ++ putsB (l1.take k)).map (Value.int .u8)) Lv ∧ Aw S w wx (R ++ Lv))
  case atStart => exact ⟨0, Lv0, by omega, rfl, by simpa [putsB] using hown0, HA⟩
  case round =>
    clear HA hown0
    obtain ⟨k, Lv, hk, rfl, hown, HA⟩ := hrel
    obtain ⟨A_, c_, rfl⟩ := img_form hown
    by_cases hlt : k < l1.length
    · have ck1 : decide ((k : Int) < (l1.length : Int)) = true := decide_eq_true (by omega)
      have ck2 : decide (k < l1.length) = true := decide_eq_true hlt
      have ck3 : 0 ≤ (k : Int) := by omega
      obtain ⟨ad, e, hcell⟩ := Kd.at_int (HR.out _ _ HA) (k : Int) (by omega) (by omega)
      subst e
      rw [Int.toNat_natCast] at hcell
      have HT := Aside0.mk (putsB_take hlt)
      obtain ⟨p, hp⟩ : ∃ p, rd l1 k = p := ⟨_, rfl⟩
      rw [hp] at hcell HT
      have hpl := putsB_len (l1.take k)
      rw [List.length_take] at hpl
      obtain ⟨pre, hpre⟩ : ∃ pre, b ++ putsB (l1.take k) = pre := ⟨_, rfl⟩
      have hprl : pre.length ≤ 2000000 := by rw [← hpre, List.length_append, hpl]; omega
      rw [hpre] at hown ⊢
      have HP := Aside0.mk hpre
      have hap1 : pre.length + 4 ≤ maxLen := by unfold maxLen; omega
      have hap2 : (pre.length + 4) * 1 ≤ 140737488355328 := by omega
      clear hp hpl hpre
      go_wp2_with (first | ((with_reducible refine gate_dst (N := 25) rfl ?_); refine aw_newv (fun g => .slice (some ⟨g, 0, none⟩) 4 4) 5 [.int .u8 (p / 16777216 % 256), .int .u8 (p / 65536 % 256), .int .u8 (p / 256 % 256), .int .u8 (p % 256)] rfl (fun W => by first | (go_simp; done) | (go_simp; rfl) | kernel_rfl) HA ?_; clear HA; intro gn W_ HA; simp only [Act.put, List.setIfInBounds_toArray, List.set_cons_succ, List.set_cons_zero]) | ((with_reducible refine gate_dst (N := 26) rfl ?_); refine aw_append (R.length + 1) 0 (Lv := Lv) (by simp) Try.underlying32 b_info rfl (Nat.le_refl 1) rfl hown rfl rfl HA rfl rfl rfl rfl hap1 hap2 ?_; clear HA; intro v_ W_ Lv_ hown_ HA; simp only [List.take_succ_cons, List.take_left'] at HA; simp only [Act.put, List.setIfInBounds_toArray, List.set_cons_succ, List.set_cons_zero]))
      go_roundg (l1.length - (k + 1))
      case measure => omega
      case rel => exact ⟨k + 1, Lv_, by omega, by go_num, by rw [HT.out, ← List.append_assoc, HP.out]; simpa [fourB] using hown_, HA.sub (List.sublist_cons_self _ _)⟩
    · have ck1 : decide ((k : Int) < (l1.length : Int)) = false := decide_eq_false (by omega)
      have ck2 : decide (k < l1.length) = false := decide_eq_false hlt
      obtain rfl : k = l1.length := by omega
      rw [List.take_length] at hown ⊢
      clear hlt hk
      obtain ⟨pre, hpre⟩ : ∃ pre, b ++ putsB l1 = pre := ⟨_, rfl⟩
      rw [hpre] at hown ⊢
      have HP := Aside0.mk hpre
      clear hpre
      go_wp2
      go_ret
      exact ⟨_, _, rfl, by rw [HP.out]; exact hown, HA⟩
set_option maxHeartbeats 8000000 in
set_option maxRecDepth 100000 in
theorem img_putF.calls {S : Nat → Prop} {w W : World} {R : List (Nat × Blk)} {g0 : Nat} (j : Nat) (b : List Int) (A1 : Option Addr) (c1 : Nat) (l1 : List Int) (hj : R[j]? = some (g0, Blk.fix 5 (b.map (Value.int .u8)))) (hr : ∀ W' Lv', Aw S w W' (R ++ Lv') → Kd.C (Kd.int .u32) W' A1 l1.length l1) (hc1 : l1.length ≤ c1) (hl : l1.length ≤ 100000) (hl0 : 0 < l1.length) (hb : b.length ≤ 1000000) (HA : Aw S w W R) :
    Calls Try.prog 23 #[.slice (some ⟨g0, 0, none⟩) b.length b.length, .slice A1 l1.length c1] W fun e W' => ∃ v' Lv', e = .returned v' ∧ Own 5 1 v' (b ++ putsB l1).length ((b ++ putsB l1).map (Value.int .u8)) Lv' ∧ Aw S w W' (R ++ Lv') := by
  have HR := Lib.hid hr
  clear hr
  have hbl : (b.map (Value.int .u8)).length = b.length * 1 := by simp
  have hapF1 : b.length + 4 ≤ maxLen := by unfold maxLen; omega
  have hapF2 : (b.length + 4) * 1 ≤ 140737488355328 := by omega
  go_enter Try.func23, Try.ntmps23
  go_wp2
  go_loopg [0, 9] (l1.length) (fun g v i wx => ∃ (k : Nat) (Lv : List (Nat × Blk)), k + g = l1.length ∧ i = .int .i64 k ∧ ((k = 0 ∧ v = .slice (some ⟨g0, 0, none⟩) b.length b.length ∧ Lv = []) ∨ (0 < k ∧ Own 5 1 v (b ++ putsB (l1.take k)).length ((b ++ putsB (l1.take k)).map (Value.int .u8)) Lv)) ∧ Aw S w wx (R ++ Lv))
  case atStart => exact ⟨0, [], by omega, rfl, .inl ⟨rfl, rfl, rfl⟩, by simpa using HA⟩
  case round =>
    clear HA
    obtain ⟨k, Lv, hk, rfl, hown, HA⟩ := hrel
    by_cases hlt : k < l1.length
    · have ck1 : decide ((k : Int) < (l1.length : Int)) = true := decide_eq_true (by omega)
      have ck2 : decide (k < l1.length) = true := decide_eq_true hlt
      have ck3 : 0 ≤ (k : Int) := by omega
      obtain ⟨ad, e, hcell⟩ := Kd.at_int (HR.out _ _ HA) (k : Int) (by omega) (by omega)
      subst e
      rw [Int.toNat_natCast] at hcell
      have HT := Aside0.mk (putsB_take hlt)
      obtain ⟨p, hp⟩ : ∃ p, rd l1 k = p := ⟨_, rfl⟩
      rw [hp] at hcell HT
      clear hp
      rcases hown with ⟨hk0, rfl, rfl⟩ | ⟨hkp, hown⟩
      · rw [List.append_nil] at HA
        have HK0 := Aside0.mk hk0
        clear hk0
        go_wp2_with (first | ((with_reducible refine gate_dst (N := 25) rfl ?_); refine aw_newv (fun g => .slice (some ⟨g, 0, none⟩) 4 4) 5 [.int .u8 (p / 16777216 % 256), .int .u8 (p / 65536 % 256), .int .u8 (p / 256 % 256), .int .u8 (p % 256)] rfl (fun W => by first | (go_simp; done) | (go_simp; rfl) | kernel_rfl) HA ?_; clear HA; intro gn W_ HA; simp only [Act.put, List.setIfInBounds_toArray, List.set_cons_succ, List.set_cons_zero]) | ((with_reducible refine gate_dst (N := 26) rfl ?_); refine aw_append_fix 0 (j + 1) Try.underlying32 b_info rfl (Nat.le_refl 1) rfl rfl rfl HA rfl rfl rfl (by decide) hj hbl hapF1 hapF2 ?_; clear HA; intro v_ W_ Lv_ hown_ HA; simp only [Act.put, List.setIfInBounds_toArray, List.set_cons_succ, List.set_cons_zero]))
        go_roundg (l1.length - (k + 1))
        case measure => omega
        case rel =>
          refine ⟨k + 1, Lv_, by omega, by go_num, .inr ⟨by omega, ?_⟩, HA.sub (List.sublist_cons_self _ _)⟩
          rw [HT.out, HK0.out]
          simpa [fourB, putsB] using hown_
      · obtain ⟨A_, c_, rfl⟩ := img_form hown
        have hpl := putsB_len (l1.take k)
        rw [List.length_take] at hpl
        obtain ⟨pre, hpre⟩ : ∃ pre, b ++ putsB (l1.take k) = pre := ⟨_, rfl⟩
        have hprl : pre.length ≤ 2000000 := by rw [← hpre, List.length_append, hpl]; omega
        rw [hpre] at hown ⊢
        have HP := Aside0.mk hpre
        have hap1 : pre.length + 4 ≤ maxLen := by unfold maxLen; omega
        have hap2 : (pre.length + 4) * 1 ≤ 140737488355328 := by omega
        clear hpl hpre
        go_wp2_with (first | ((with_reducible refine gate_dst (N := 25) rfl ?_); refine aw_newv (fun g => .slice (some ⟨g, 0, none⟩) 4 4) 5 [.int .u8 (p / 16777216 % 256), .int .u8 (p / 65536 % 256), .int .u8 (p / 256 % 256), .int .u8 (p % 256)] rfl (fun W => by first | (go_simp; done) | (go_simp; rfl) | kernel_rfl) HA ?_; clear HA; intro gn W_ HA; simp only [Act.put, List.setIfInBounds_toArray, List.set_cons_succ, List.set_cons_zero]) | ((with_reducible refine gate_dst (N := 26) rfl ?_); refine aw_append (R.length + 1) 0 (Lv := Lv) (by simp) Try.underlying32 b_info rfl (Nat.le_refl 1) rfl hown rfl rfl HA rfl rfl rfl rfl hap1 hap2 ?_; clear HA; intro v_ W_ Lv_ hown_ HA; simp only [List.take_succ_cons, List.take_left'] at HA; simp only [Act.put, List.setIfInBounds_toArray, List.set_cons_succ, List.set_cons_zero]))
        go_roundg (l1.length - (k + 1))
        case measure => omega
        case rel => exact ⟨k + 1, Lv_, by omega, by go_num, .inr ⟨by omega, by rw [HT.out, ← List.append_assoc, HP.out]; simpa [fourB] using hown_⟩, HA.sub (List.sublist_cons_self _ _)⟩
    · have ck1 : decide ((k : Int) < (l1.length : Int)) = false := decide_eq_false (by omega)
      have ck2 : decide (k < l1.length) = false := decide_eq_false hlt
      rcases hown with ⟨hk0, _, _⟩ | ⟨hkp, hown⟩
      · omega
      obtain rfl : k = l1.length := by omega
      rw [List.take_length] at hown
      obtain ⟨A_, c_, rfl⟩ := img_form hown
      clear hlt hk
      obtain ⟨pre, hpre⟩ : ∃ pre, b ++ putsB l1 = pre := ⟨_, rfl⟩
      rw [hpre] at hown ⊢
      have HP := Aside0.mk hpre
      clear hpre
      go_wp2
      go_ret
      exact ⟨_, _, rfl, by rw [HP.out]; exact hown, HA⟩
def sumB (s : Int) (l : List Int) : Int := l.foldl (fun s c => (31 * s % 4294967296 + c) % 4294967296) s
theorem sumB_take {l : List Int} {k : Nat} (s : Int) (h : k < l.length) : sumB s (l.take (k + 1)) = (31 * sumB s (l.take k) % 4294967296 + rd l k) % 4294967296 := by
  unfold sumB rd
  rw [List.take_succ_eq_append_getElem h, List.foldl_append, Int.toNat_natCast, List.getD_eq_getElem?_getD, List.getElem?_eq_getElem h]
  rfl
theorem sumB_range (s : Int) (hs : 0 ≤ s ∧ s < 4294967296) (l : List Int) : 0 ≤ sumB s l ∧ sumB s l < 4294967296 := by
  unfold sumB
  induction l generalizing s with
  | nil => exact hs
  | cons a l ih => exact ih _ (by dsimp only; omega)
theorem sum_zero (W : World) : (Instr.alloc 50 true (.tuple #[])).run Try.prog W = .ok (.pointer (some ⟨W.heap.size, 0, none⟩)) (W.alloc (.cells [.int .u32 0].toArray 50 (0, 0))) := by kernel_rfl
set_option maxHeartbeats 8000000 in
set_option maxRecDepth 100000 in
theorem img_sum.calls {S : Nat → Prop} {w W : World} {R : List (Nat × Blk)} {g : Nat} (s : Int) (hs : 0 ≤ s ∧ s < 4294967296) (A1 : Option Addr) (c1 : Nat) (l1 : List Int) (hr : ∀ W' s', Aw S w W' ((g, .c 50 [.int .u32 s']) :: R) → Kd.C (Kd.int .u8) W' A1 l1.length l1) (hby : ∀ x ∈ l1, 0 ≤ x ∧ x < 256) (hc1 : l1.length ≤ c1) (hl : l1.length ≤ 1000000) (HA : Aw S w W ((g, .c 50 [.int .u32 s]) :: R)) :
    Calls Try.prog 32 #[.slice A1 l1.length c1, .pointer (some ⟨g, 0, none⟩)] W fun e W' => e = .returned (.int .u32 (sumB s l1)) ∧ Aw S w W' ((g, .c 50 [.int .u32 (sumB s l1)]) :: R) := by
  have HR := Lib.hid hr
  have HBY := Lib.hid hby
  clear hr hby
  go_enter Try.func32, Try.ntmps32
  go_wp2
  go_loopg [8] (l1.length) (fun gg i wx => ∃ (k : Nat), k + gg = l1.length ∧ i = .int .i64 k ∧ Aw S w wx ((g, .c 50 [.int .u32 (sumB s (l1.take k))]) :: R))
  case atStart => exact ⟨0, by omega, rfl, HA⟩
  case round =>
    clear HA
    obtain ⟨k, hk, rfl, HA⟩ := hrel
    have hq := sumB_range s hs (l1.take k)
    by_cases hlt : k < l1.length
    · have ck1 : decide ((k : Int) < (l1.length : Int)) = true := decide_eq_true (by omega)
      have ck2 : decide (k < l1.length) = true := decide_eq_true hlt
      have ck3 : 0 ≤ (k : Int) := by omega
      obtain ⟨ad, e, hcell⟩ := Kd.at_int (HR.out _ _ HA) (k : Int) (by omega) (by omega)
      subst e
      rw [Int.toNat_natCast] at hcell
      have HT := Aside0.mk (sumB_take s hlt)
      have hpb := HBY.out (rd l1 k) (by unfold rd; rw [Int.toNat_natCast, List.getD_eq_getElem?_getD, List.getElem?_eq_getElem hlt]; exact List.getElem_mem hlt)
      obtain ⟨p, hp⟩ : ∃ p, rd l1 k = p := ⟨_, rfl⟩
      rw [hp] at hcell HT hpb
      obtain ⟨q, hqq⟩ : ∃ q, sumB s (l1.take k) = q := ⟨_, rfl⟩
      rw [hqq] at HT hq HA
      clear hp hqq
      go_wp2_with (first | ((with_reducible refine gate_ld rfl ?_); (refine aw_load 0 rfl rfl HA rfl rfl rfl ?_ ?_); kernel_rfl; simp only [Act.put, List.setIfInBounds_toArray, List.set_cons_succ, List.set_cons_zero]) | ((with_reducible refine gate_st rfl ?_); (refine aw_store 0 (v := .int _ _) rfl rfl rfl rfl rfl HA rfl rfl rfl ?_ ?_); kernel_rfl; clear HA; intro W_ HA; dsimp only [List.set, List.take, List.cons_append, List.nil_append] at HA))
      go_roundg (l1.length - (k + 1))
      case measure => omega
      case rel =>
        refine ⟨k + 1, by omega, by go_num, ?_⟩
        rw [HT.out]
        refine Aw.congr HA ?_
        have e1 : p % 4294967296 = p := by omega
        first | rfl | (simp [e1]; done) | (congr 4; omega)
    · have ck1 : decide ((k : Int) < (l1.length : Int)) = false := decide_eq_false (by omega)
      have ck2 : decide (k < l1.length) = false := decide_eq_false hlt
      have hkl : k = l1.length := by omega
      rw [hkl, List.take_length] at HA
      clear hlt hk hkl
      go_wp2_with (first | ((with_reducible refine gate_ld rfl ?_); (refine aw_load 0 rfl rfl HA rfl rfl rfl ?_ ?_); kernel_rfl; simp only [Act.put, List.setIfInBounds_toArray, List.set_cons_succ, List.set_cons_zero]) | ((with_reducible refine gate_st rfl ?_); (refine aw_store 0 (v := .int _ _) rfl rfl rfl rfl rfl HA rfl rfl rfl ?_ ?_); kernel_rfl; clear HA; intro W_ HA; dsimp only [List.set, List.take, List.cons_append, List.nil_append] at HA))
      go_ret
      exact ⟨rfl, HA⟩
set_option maxHeartbeats 8000000 in
set_option maxRecDepth 100000 in
theorem img_adder.calls (W : World) : Calls Try.prog 24 #[] W fun e W' => ∃ g, e = .returned (.func (.func 32) #[] #[.pointer (some ⟨g, 0, none⟩)]) ∧ Aw noS W W' [(g, .c 50 [.int .u32 1])] := by
  have HA := Aw.start noS W
  go_enter Try.func24, Try.ntmps24
  go_wp2_with (first | ((with_reducible refine gate_dst (N := 1) rfl ?_); refine aw_alloc rfl rfl sum_zero HA ?_; clear HA; intro gs W_ HA; simp only [Act.put, List.setIfInBounds_toArray, List.set_cons_succ, List.set_cons_zero]) | ((with_reducible refine gate_st rfl ?_); (refine aw_store 0 (v := .int _ _) rfl rfl rfl rfl rfl HA rfl rfl rfl ?_ ?_); kernel_rfl; clear HA; intro W_ HA; dsimp only [List.set, List.take, List.cons_append, List.nil_append] at HA))
  go_ret
  exact ⟨gs, rfl, HA⟩
end Go.Proofs.Ytbjfchkfhbpclaa.Q
