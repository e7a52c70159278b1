/- asm.Of. By wip/gen/asm_of.py. -/
import Derived.Test.YtlhkojnocconfaaDoorQx0
import Derived.Test.YtlhkojnocconfaaDoorAsmModel
import Derived.Test.YtlhkojnocconfaaDoorAw
import Derived.Test.YtlhkojnocconfaaDoorAwAll
import Derived.Test.YtlhkojnocconfaaDoorHasmWrong
import Derived.Test.YtlhkojnocconfaaDoorHisaOf
import Derived.Test.YtlhkojnocconfaaDoorHisaPut
import Derived.Test.YtlhkojnocconfaaDoorHisaRight
--@needs XAw
--@needs XAwMap
--@needs XAwSl
--@needs XAwFrame
--@needs XAsmModel
--@needs XHasmWrong
--@needs XHisaOf
--@needs XHisaPut
--@uses camlet/asm.may
--@uses camlet/asm.goes
import Derived.LoopTactic
import Derived.Deep.LoopGhost
import Derived.Lib.Hide
import Derived.Deep.QuietTactic
import Derived.BigQuiet
import Derived.IntWalk
import Derived.StringKeys
namespace Go.Proofs.YtlhkojnocconfaaDoor.Q
open Go.RowKit Go.Proofs.YtlhkojnocconfaaDoorW.PrintWords Go.Proofs.YtlhkojnocconfaaDoorW.PrintLast Go.Proofs.YtlhkojnocconfaaDoorW.PrintMore
attribute [local go_sem] max2_int min2_int max_two min_two max_three min_three max_four min_four   -- for this text's walks alone
set_option linter.unusedVariables false
set_option linter.unusedSimpArgs false

open Go.Maps
theorem own_form {e size n : Nat} {v : Value} {xs : List Value} {Lv : List (Nat × Blk)} (h : Own e size v n xs Lv) : ∃ A c, v = .slice A n c := by
  obtain ⟨_, ⟨rfl, hn, _⟩ | ⟨g, cap, rfl, _, _⟩⟩ := h
  · exact ⟨none, 0, by rw [hn]⟩
  · exact ⟨_, _, rfl⟩
theorem au_info : (Tryd.prog.info? 37).map (fun i => (i.zero, i.size, i.bytes)) = some (some (.int .u32 0), 1, 4) := by kernel_rfl
theorem line_zero (W : World) : (Instr.alloc 36 true (.tuple #[])).run Tryd.prog W = .ok (.pointer (some ⟨W.heap.size, 0, none⟩)) (W.alloc (.cells [.string ⟨#[]⟩, .int .i64 0, .int .i64 0, .int .i64 0, .int .i64 0, .int .i64 0, .string ⟨#[]⟩].toArray 36 (0, 0))) := by kernel_rfl
theorem ai_wf {a : Int} (h0 : -9223372036854775808 ≤ a) (h : a ≤ 9223372036854775807) : (Lit.int .i64 a).wf = true := by
  show (decide (IntKind.i64.min ≤ a) && decide (a ≤ IntKind.i64.max)) = true
  have h1 : IntKind.i64.min = -9223372036854775808 := by decide
  have h2 : IntKind.i64.max = 9223372036854775807 := by decide
  rw [h1, h2]
  simp only [Bool.and_eq_true, decide_eq_true_eq]
  exact ⟨h0, h⟩
def asm_Of.f (l0 : List S36) : Option (List Int × Int × Int) := if asmOk l0 then some (if 16384 < (l0.length : Int) then ([], 16384, 4) else asmGo l0 l0 0 []) else none
theorem lines_take {l : List S36} {k : Nat} (h : k < l.length) : l.take (k + 1) = l.take k ++ [rd_T36 l k] ∧ rd_T36 l k ∈ l ∧ l.drop k = rd_T36 l k :: l.drop (k + 1) := by
  have e : rd_T36 l k = l[k] := by
    unfold rd_T36
    rw [Int.toNat_natCast, List.getD_eq_getElem?_getD, List.getElem?_eq_getElem h]
    rfl
  rw [e]
  exact ⟨List.take_succ_eq_append_getElem h, List.getElem_mem h, List.drop_eq_getElem_cons h⟩
set_option maxHeartbeats 16000000 in
set_option maxRecDepth 100000 in
theorem asm_Of.calls (A0 : Option Addr) (c0 : Nat) (l0 : List S36) (r1 : List Int) (r2 : Int) (r3 : Int) (w : World) (hr0 : Kd.C k36 w A0 l0.length l0) (hc0 : l0.length ≤ c0) (h : asm_Of.f l0 = some (r1, r2, r3)) :
    Calls Tryd.prog 10 #[.slice A0 l0.length c0] w fun e w' => ∃ v0_ : Value, e = .returned (.tuple #[v0_, .int .i64 r2, .int .i64 r3]) ∧ Kd.R (Kd.int .u32) 37 w' w.heap.size (fun _ => True) v0_ r1 ∧ Below w.heap.size w w' := by
  have HA := Aw.start noS w
  have HR0 := Aside0.mk hr0
  clear hr0
  unfold asm_Of.f at h
  by_cases hok : asmOk l0
  case neg => rw [if_neg hok] at h; cases h
  rw [if_pos hok] at h
  replace h := Option.some.inj h
  by_cases hlen : 16384 < (l0.length : Int)
  · rw [if_pos hlen] at h
    simp only [Prod.mk.injEq] at h
    obtain ⟨rfl, rfl, rfl⟩ := h
    have c1 := decide_eq_true hlen
    clear hok hlen
    go_enter Tryd.func10, Tryd.ntmps10
    go_wp2
    (try simp only [Exit.inBlock, Exit.then]); (try rw [Exit.noGoto_ret]); refine bodyPost_ret (results_list (rs := [.tmp 2, .tmp 3, .tmp 4]) rfl (by simp) (.tmp (.tmp (.tmp .nil)))) rfl ?_
    exact ⟨_, rfl, (Own.nil _ _).kdR (l := []) HA (by simp) (fun _ _ => trivial), HA.below⟩
  rw [if_neg hlen] at h
  have c1 := decide_eq_false hlen
  have hl : l0.length ≤ 16384 := by omega
  have HOK := Aside0.mk hok
  have H := Aside0.mk h
  clear hok hlen h
  go_enter Tryd.func10, Tryd.ntmps10
  go_wp2_with (first | ((with_reducible refine gate_dst (N := 21) rfl ?_); refine aw_makemap 9 3 .i64 rfl rfl HA ?_; clear HA; intro mm W_ HA; simp only [Act.put, List.setIfInBounds_toArray, List.set_cons_succ, List.set_cons_zero]))
  go_loopg [24] (l0.length) (fun g i wx => ∃ (k n : Nat), k + g = l0.length ∧ i = .int .i64 k ∧ n ≤ k ∧ Aw noS w wx [(mm, Blk.m Tryd.prog 9 3 .i64 n (firstF (l0.take k)))])
  case atStart => exact ⟨0, 0, by omega, rfl, by omega, by rw [List.take_zero, firstF_none]; exact HA⟩
  case round =>
    clear HA
    obtain ⟨k, n, hk, rfl, hnk, HA⟩ := hrel
    by_cases hlt : k < l0.length
    · obtain ⟨htk, hmem, hdk⟩ := lines_take hlt
      obtain ⟨ad, e, x0, x1, x2, x3, x4, x5, x6⟩ := at_T36 (HA.1.reads HR0.out) (k : Int) (by omega) (by omega)
      subst e
      simp only [Int.toNat_natCast] at x0 x1 x2 x3 x4 x5 x6
      obtain ⟨x, hx⟩ : ∃ x, rd_T36 l0 k = x := ⟨_, rfl⟩
      rw [hx] at x0 x1 x2 x3 x4 x5 x6 htk hmem hdk
      clear hx
      obtain ⟨f0, ⟨o0, o1, o2, o3, o4⟩, f2⟩ := x
      dsimp only at x0 x1 x2 x3 x4 x5 x6
      have hs := HOK.out _ hmem
      have hs0 : f0.size ≤ 9223372036854775807 := hs.1
      have hs2 : f2.size ≤ 9223372036854775807 := hs.2
      clear hs hmem
      have ck1 : decide ((k : Int) < (l0.length : Int)) = true := decide_eq_true (by omega)
      have ck2 : decide (k < l0.length) = true := decide_eq_true hlt
      have ck3 : 0 ≤ (k : Int) := by omega
      have hk0 := s_key hs0
      obtain ⟨v0, hv0⟩ : ∃ v, firstF (l0.take k) (skey f0) = v := ⟨_, rfl⟩
      have HTK := Aside0.mk htk
      have HV0 := Aside0.mk hv0
      clear htk hdk
      by_cases he : f0.toList = ([] : List UInt8)
      · have ce := beq_iff_eq.mpr he
        have ce2 := bne_eq_false_iff_eq.mpr he
        have HE := Aside0.mk he
        clear he
        go_wp2_with (first | ((with_reducible refine gate_dst (N := 7) rfl ?_); refine aw_alloc rfl rfl line_zero HA ?_; clear HA; intro bx W_ HA; simp only [Act.put, List.setIfInBounds_toArray, List.set_cons_succ, List.set_cons_zero]) | ((with_reducible refine gate_dst (N := 33) rfl ?_); refine aw_lookup_ok 1 (f := firstF (l0.take k)) (kl := skey f0) s_keyed si_under si_int si_zero rfl rfl rfl rfl HA rfl hk0 hv0 ?_; simp only [Act.put, List.setIfInBounds_toArray, List.set_cons_succ, List.set_cons_zero]) | ((with_reducible refine gate_ld rfl ?_); (refine aw_load 0 rfl rfl HA rfl rfl rfl ?_ ?_); kernel_rfl; simp only [Act.put, List.setIfInBounds_toArray, List.set_cons_succ, List.set_cons_zero]) | ((with_reducible refine gate_st rfl ?_); (refine aw_storeW 0 (t := 36) rfl rfl rfl rfl HA rfl rfl rfl ?_ rfl ?_); kernel_rfl; clear HA; intro W_ HA; dsimp only [List.set, List.take, List.cons_append, List.nil_append] at HA))
        go_roundg (l0.length - (k + 1))
        case measure => omega
        case rel => exact ⟨k + 1, n, by omega, by go_num, by omega, by rw [HTK.out, firstF_keep (.inl HE.out)]; exact HA.sub (List.sublist_cons_self _ _)⟩
      have ce := beq_eq_false_iff_ne.mpr he
      have ce2 := bne_iff_ne.mpr he
      have HE := Aside0.mk he
      clear he
      cases v0 with
      | some a =>
        go_wp2_with (first | ((with_reducible refine gate_dst (N := 7) rfl ?_); refine aw_alloc rfl rfl line_zero HA ?_; clear HA; intro bx W_ HA; simp only [Act.put, List.setIfInBounds_toArray, List.set_cons_succ, List.set_cons_zero]) | ((with_reducible refine gate_dst (N := 33) rfl ?_); refine aw_lookup_ok 1 (f := firstF (l0.take k)) (kl := skey f0) s_keyed si_under si_int si_zero rfl rfl rfl rfl HA rfl hk0 hv0 ?_; simp only [Act.put, List.setIfInBounds_toArray, List.set_cons_succ, List.set_cons_zero]) | ((with_reducible refine gate_ld rfl ?_); (refine aw_load 0 rfl rfl HA rfl rfl rfl ?_ ?_); kernel_rfl; simp only [Act.put, List.setIfInBounds_toArray, List.set_cons_succ, List.set_cons_zero]) | ((with_reducible refine gate_st rfl ?_); (refine aw_storeW 0 (t := 36) rfl rfl rfl rfl HA rfl rfl rfl ?_ rfl ?_); kernel_rfl; clear HA; intro W_ HA; dsimp only [List.set, List.take, List.cons_append, List.nil_append] at HA))
        go_roundg (l0.length - (k + 1))
        case measure => omega
        case rel => exact ⟨k + 1, n, by omega, by go_num, by omega, by rw [HTK.out, firstF_keep (.inr (by show (firstF (l0.take k) (skey f0)).isSome = true; rw [HV0.out]; rfl))]; exact HA.sub (List.sublist_cons_self _ _)⟩
      | none =>
        have hwf : (Lit.int .i64 (k : Int)).wf = true := ai_wf (by omega) (by omega)
        have hnm : n < maxLen := by unfold maxLen; omega
        go_wp2_with (first | ((with_reducible refine gate_dst (N := 7) rfl ?_); refine aw_alloc rfl rfl line_zero HA ?_; clear HA; intro bx W_ HA; simp only [Act.put, List.setIfInBounds_toArray, List.set_cons_succ, List.set_cons_zero]) | ((with_reducible refine gate_dst (N := 33) rfl ?_); refine aw_lookup_ok 1 (f := firstF (l0.take k)) (kl := skey f0) s_keyed si_under si_int si_zero rfl rfl rfl rfl HA rfl hk0 hv0 ?_; simp only [Act.put, List.setIfInBounds_toArray, List.set_cons_succ, List.set_cons_zero]) | ((with_reducible refine gate_ld rfl ?_); (refine aw_load 0 rfl rfl HA rfl rfl rfl ?_ ?_); kernel_rfl; simp only [Act.put, List.setIfInBounds_toArray, List.set_cons_succ, List.set_cons_zero]) | ((with_reducible refine gate_st rfl ?_); (refine aw_storeW 0 (t := 36) rfl rfl rfl rfl HA rfl rfl rfl ?_ rfl ?_); kernel_rfl; clear HA; intro W_ HA; dsimp only [List.set, List.take, List.cons_append, List.nil_append] at HA) | ((with_reducible refine gate_mu rfl ?_); (refine aw_mapput 1 (kl := skey f0) s_keyed si_under si_int rfl rfl rfl rfl rfl rfl HA rfl hk0 hwf hnm ?_); clear HA; intro W_ HA; dsimp only [List.set, List.take, List.cons_append, List.nil_append] at HA))
        go_roundg (l0.length - (k + 1))
        case measure => omega
        case rel =>
          refine ⟨k + 1, n + 1, by omega, by go_num, by omega, ?_⟩
          refine Aw.congr (HA.sub (List.sublist_cons_self _ _)) ?_
          have e1 := firstF_put (l := l0.take k) (x := ⟨f0, ⟨o0, o1, o2, o3, o4⟩, f2⟩) HE.out (by show (firstF (l0.take k) (skey f0)).isSome = false; rw [HV0.out]; rfl)
          rw [show (((l0.take k).length : Nat) : Int) = (k : Int) by rw [List.length_take]; omega] at e1
          rw [HTK.out, ← e1, HV0.out]
          rfl
    · have hkl : k = l0.length := by omega
      subst hkl
      rw [List.take_length] at HA
      have ck1 : decide ((l0.length : Int) < (l0.length : Int)) = false := decide_eq_false (by omega)
      have ck2 : decide (l0.length < l0.length) = false := decide_eq_false hlt
      clear hlt hk
      go_wp2
      go_loopg [10, 50] (l0.length) (fun g v i wx => ∃ (k : Nat) (acc : List Int) (Lv : List (Nat × Blk)), k + g = l0.length ∧ i = .int .i64 k ∧ acc.length ≤ k ∧ Own 37 1 v acc.length (acc.map (Value.int .u32)) Lv ∧ Aside0 (asmGo l0 (l0.drop k) k acc = (r1, r2, r3)) ∧ Aw noS w wx ((mm, Blk.m Tryd.prog 9 3 .i64 n (firstF l0)) :: Lv))
      case atStart => exact ⟨0, [], [], by omega, rfl, by simp, Own.nil _ _, ⟨by simpa using H.out⟩, HA⟩
      case round =>
        clear HA H ck1 ck2
        obtain ⟨k, acc, Lv, hk, rfl, hak, hown, HG, HA⟩ := hrel
        obtain ⟨A_, c_, rfl⟩ := own_form hown
        by_cases hlt : k < l0.length
        · obtain ⟨htk, hmem, hdk⟩ := lines_take hlt
          obtain ⟨ad, e, x0, x1, x2, x3, x4, x5, x6⟩ := at_T36 (HA.1.reads HR0.out) (k : Int) (by omega) (by omega)
          subst e
          simp only [Int.toNat_natCast] at x0 x1 x2 x3 x4 x5 x6
          obtain ⟨x, hx⟩ : ∃ x, rd_T36 l0 k = x := ⟨_, rfl⟩
          rw [hx] at x0 x1 x2 x3 x4 x5 x6 htk hmem hdk
          clear hx
          obtain ⟨f0, ⟨o0, o1, o2, o3, o4⟩, f2⟩ := x
          dsimp only at x0 x1 x2 x3 x4 x5 x6
          have hs := HOK.out _ hmem
          have hs0 : f0.size ≤ 9223372036854775807 := hs.1
          have hs2 : f2.size ≤ 9223372036854775807 := hs.2
          clear hs hmem
          have ck1 : decide ((k : Int) < (l0.length : Int)) = true := decide_eq_true (by omega)
          have ck2 : decide (k < l0.length) = true := decide_eq_true hlt
          have ck3 : 0 ≤ (k : Int) := by omega
          have hk2 := s_key hs2
          obtain ⟨ew, hew⟩ : ∃ ew, asmWrong l0 k ⟨f0, ⟨o0, o1, o2, o3, o4⟩, f2⟩ = ew := ⟨_, rfl⟩
          obtain ⟨at_, hv2⟩ : ∃ at_, (firstF l0 (skey f2)).getD 0 = at_ := ⟨_, rfl⟩
          have hat : 0 ≤ at_ ∧ at_ ≤ 16384 := by
            rw [← hv2]
            cases hf : firstF l0 (skey f2) with
            | none => exact ⟨by decide, by decide⟩
            | some a => have := firstF_lt hf; exact ⟨this.1, by show a ≤ 16384; omega⟩
          have hwrong := fun (W : World) (y : Nat × Blk) (HA : Aw noS w W (y :: (mm, Blk.m Tryd.prog 9 3 .i64 n (firstF l0)) :: Lv)) => asm_wrong.calls l0 k f0 f2 o0 o1 o2 o3 o4 hs0 hs2 HA
          rw [hew] at hwrong
          have hg := HG.out
          rw [hdk, asmGo, hew] at hg
          have HEW := Aside0.mk hew
          by_cases hw0 : ew = 0
          case neg =>
            rw [if_pos hw0] at hg
            simp only [Prod.mk.injEq] at hg
            obtain ⟨rfl, rfl, rfl⟩ := hg
            have cw := bne_iff_ne.mpr hw0
            have cw2 := beq_eq_false_iff_ne.mpr hw0
            clear HG HEW hw0 hdk htk
            go_wp2_with (first | ((with_reducible refine gate_dst (N := 12) rfl ?_); refine aw_alloc rfl rfl line_zero HA ?_; clear HA; intro bx W_ HA; simp only [Act.put, List.setIfInBounds_toArray, List.set_cons_succ, List.set_cons_zero]) | ((with_reducible refine gate_dst (N := 14) rfl ?_); refine aw_alloc rfl rfl op_zero HA ?_; clear HA; intro bo W_ HA; simp only [Act.put, List.setIfInBounds_toArray, List.set_cons_succ, List.set_cons_zero]) | (go_at_call 21; refine (hwrong _ _ HA).mono ?_; clear HA; rintro e W_ ⟨rfl, HA⟩) | (go_at_call 16; refine (hput _).mono ?_; rintro e W_ ⟨rfl, hb_⟩; replace HA := HA.call hb_; clear hb_) | ((with_reducible refine gate_dst (N := 68) rfl ?_); refine aw_lookup 2 (f := firstF l0) (kl := skey f2) s_keyed si_under si_int si_zero rfl rfl rfl rfl HA rfl hk2 hv2 ?_; simp only [Act.put, List.setIfInBounds_toArray, List.set_cons_succ, List.set_cons_zero]) | ((with_reducible refine gate_dst (N := 95) rfl ?_); refine aw_newv (fun g => .slice (some ⟨g, 0, none⟩) 1 1) 37 [.int .u32 pw] rfl (fun W => by kernel_rfl) HA ?_; clear HA; intro gn W_ HA; simp only [Act.put, List.setIfInBounds_toArray, List.set_cons_succ, List.set_cons_zero]) | ((with_reducible refine gate_dst (N := 96) rfl ?_); refine aw_append 4 0 rfl Tryd.underlying25 au_info rfl (Nat.le_refl 1) rfl hown rfl rfl HA rfl rfl rfl rfl hap1 hap2 ?_; clear HA; intro v_ W_ Lv_ hown_ HA; dsimp only [List.set, List.take, List.cons_append, List.nil_append] at HA; simp only [Act.put, List.setIfInBounds_toArray, List.set_cons_succ, List.set_cons_zero]) | ((with_reducible refine gate_ld rfl ?_); (first | refine aw_loadW 0 (t := 36) rfl rfl HA rfl rfl ?_ ?_ | refine aw_loadA 0 (t := 34) (j := 1) rfl rfl HA rfl rfl 5 ?_ rfl rfl ?_ | refine aw_loadW 0 (t := 34) rfl rfl HA rfl rfl ?_ ?_ | refine aw_load 0 rfl rfl HA rfl rfl rfl ?_ ?_ | refine aw_load 1 rfl rfl HA rfl rfl rfl ?_ ?_); kernel_rfl; simp only [Act.put, List.setIfInBounds_toArray, List.set_cons_succ, List.set_cons_zero]) | ((with_reducible refine gate_st rfl ?_); (first | refine aw_storeW 0 (t := 36) rfl rfl rfl rfl HA rfl rfl rfl ?_ rfl ?_ | refine aw_storeW 0 (t := 34) rfl rfl rfl rfl HA rfl rfl rfl ?_ rfl ?_ | refine aw_store 0 (v := .int _ _) rfl rfl rfl rfl rfl HA rfl rfl rfl ?_ ?_); kernel_rfl; clear HA; intro W_ HA; dsimp only [List.set, List.take, List.cons_append, List.nil_append] at HA))
            (try simp only [Exit.inBlock, Exit.then]); (try rw [Exit.noGoto_ret]); refine bodyPost_ret (results_list (rs := [.tmp 2, .tmp 3, .tmp 4]) rfl (by simp) (.tmp (.tmp (.tmp .nil)))) rfl ?_
            exact ⟨_, rfl, (Own.nil _ _).kdR (l := []) HA (by simp) (fun _ _ => trivial), HA.below⟩
          subst hw0
          rw [if_neg (by decide)] at hg
          obtain ⟨nn, hnn⟩ : ∃ nn, asmNum l0 k ⟨f0, ⟨o0, o1, o2, o3, o4⟩, f2⟩ = nn := ⟨_, rfl⟩
          rw [hnn] at hg
          have hap1 : acc.length + 1 ≤ maxLen := by unfold maxLen; omega
          have hap2 : (acc.length + 1) * 4 ≤ 140737488355328 := by omega
          obtain ⟨pw, hpw⟩ : ∃ pw, isaPut o0 o1 o2 o3 nn = pw := ⟨_, rfl⟩
          rw [hpw] at hg
          have hput0 : ∀ W, Calls Tryd.prog 16 #[.agg #[.int .i64 o0, .int .i64 o1, .int .i64 o2, .int .i64 o3, .int .i64 nn]] W fun e w' => e = .returned (.tuple #[.int .u32 (if isaRight o0 o1 o2 o3 nn = true then pw else 0), .int .i64 (if isaRight o0 o1 o2 o3 nn = true then 0 else 26)]) ∧ Below W.heap.size W w' := by
            intro W
            refine isa_Put.calls o0 o1 o2 o3 nn _ _ W ?_
            unfold isa_Put.f
            rw [hpw]
            split <;> rfl
          have HNN := Aside0.mk hnn
          have HV2 := Aside0.mk hv2
          clear HG HEW hdk htk hpw
          by_cases he : f2.toList = ([] : List UInt8)
          · have ce := beq_iff_eq.mpr he
            have ce2 := bne_eq_false_iff_eq.mpr he
            have hnn2 : o4 = nn := Eq.symm (by rw [← HNN.out]; unfold asmNum; exact if_pos he)
            subst hnn2
            cases hri : isaRight o0 o1 o2 o3 (o4) with
            | false =>
              rw [if_neg (by rw [hri]; decide)] at hg
              simp only [Prod.mk.injEq] at hg
              obtain ⟨rfl, rfl, rfl⟩ := hg
              rw [hri] at hput0
              have hput := hput0
              simp only [Bool.false_eq_true, if_false] at hput
              clear hput0 HNN hri
              go_wp2_with (first | ((with_reducible refine gate_dst (N := 12) rfl ?_); refine aw_alloc rfl rfl line_zero HA ?_; clear HA; intro bx W_ HA; simp only [Act.put, List.setIfInBounds_toArray, List.set_cons_succ, List.set_cons_zero]) | ((with_reducible refine gate_dst (N := 14) rfl ?_); refine aw_alloc rfl rfl op_zero HA ?_; clear HA; intro bo W_ HA; simp only [Act.put, List.setIfInBounds_toArray, List.set_cons_succ, List.set_cons_zero]) | (go_at_call 21; refine (hwrong _ _ HA).mono ?_; clear HA; rintro e W_ ⟨rfl, HA⟩) | (go_at_call 16; refine (hput _).mono ?_; rintro e W_ ⟨rfl, hb_⟩; replace HA := HA.call hb_; clear hb_) | ((with_reducible refine gate_dst (N := 68) rfl ?_); refine aw_lookup 2 (f := firstF l0) (kl := skey f2) s_keyed si_under si_int si_zero rfl rfl rfl rfl HA rfl hk2 hv2 ?_; simp only [Act.put, List.setIfInBounds_toArray, List.set_cons_succ, List.set_cons_zero]) | ((with_reducible refine gate_dst (N := 95) rfl ?_); refine aw_newv (fun g => .slice (some ⟨g, 0, none⟩) 1 1) 37 [.int .u32 pw] rfl (fun W => by kernel_rfl) HA ?_; clear HA; intro gn W_ HA; simp only [Act.put, List.setIfInBounds_toArray, List.set_cons_succ, List.set_cons_zero]) | ((with_reducible refine gate_dst (N := 96) rfl ?_); refine aw_append 4 0 rfl Tryd.underlying25 au_info rfl (Nat.le_refl 1) rfl hown rfl rfl HA rfl rfl rfl rfl hap1 hap2 ?_; clear HA; intro v_ W_ Lv_ hown_ HA; dsimp only [List.set, List.take, List.cons_append, List.nil_append] at HA; simp only [Act.put, List.setIfInBounds_toArray, List.set_cons_succ, List.set_cons_zero]) | ((with_reducible refine gate_ld rfl ?_); (first | refine aw_loadW 0 (t := 36) rfl rfl HA rfl rfl ?_ ?_ | refine aw_loadA 0 (t := 34) (j := 1) rfl rfl HA rfl rfl 5 ?_ rfl rfl ?_ | refine aw_loadW 0 (t := 34) rfl rfl HA rfl rfl ?_ ?_ | refine aw_load 0 rfl rfl HA rfl rfl rfl ?_ ?_ | refine aw_load 1 rfl rfl HA rfl rfl rfl ?_ ?_); kernel_rfl; simp only [Act.put, List.setIfInBounds_toArray, List.set_cons_succ, List.set_cons_zero]) | ((with_reducible refine gate_st rfl ?_); (first | refine aw_storeW 0 (t := 36) rfl rfl rfl rfl HA rfl rfl rfl ?_ rfl ?_ | refine aw_storeW 0 (t := 34) rfl rfl rfl rfl HA rfl rfl rfl ?_ rfl ?_ | refine aw_store 0 (v := .int _ _) rfl rfl rfl rfl rfl HA rfl rfl rfl ?_ ?_); kernel_rfl; clear HA; intro W_ HA; dsimp only [List.set, List.take, List.cons_append, List.nil_append] at HA))
              (try simp only [Exit.inBlock, Exit.then]); (try rw [Exit.noGoto_ret]); refine bodyPost_ret (results_list (rs := [.tmp 2, .tmp 3, .tmp 4]) rfl (by simp) (.tmp (.tmp (.tmp .nil)))) rfl ?_
              exact ⟨_, rfl, (Own.nil _ _).kdR (l := []) HA (by simp) (fun _ _ => trivial), HA.below⟩
            | true =>
              rw [if_pos hri] at hg
              rw [hri] at hput0
              have hput := hput0
              simp only [if_true] at hput
              have HG := Aside0.mk hg
              clear hput0 HNN hri hg
              go_wp2_with (first | ((with_reducible refine gate_dst (N := 12) rfl ?_); refine aw_alloc rfl rfl line_zero HA ?_; clear HA; intro bx W_ HA; simp only [Act.put, List.setIfInBounds_toArray, List.set_cons_succ, List.set_cons_zero]) | ((with_reducible refine gate_dst (N := 14) rfl ?_); refine aw_alloc rfl rfl op_zero HA ?_; clear HA; intro bo W_ HA; simp only [Act.put, List.setIfInBounds_toArray, List.set_cons_succ, List.set_cons_zero]) | (go_at_call 21; refine (hwrong _ _ HA).mono ?_; clear HA; rintro e W_ ⟨rfl, HA⟩) | (go_at_call 16; refine (hput _).mono ?_; rintro e W_ ⟨rfl, hb_⟩; replace HA := HA.call hb_; clear hb_) | ((with_reducible refine gate_dst (N := 68) rfl ?_); refine aw_lookup 2 (f := firstF l0) (kl := skey f2) s_keyed si_under si_int si_zero rfl rfl rfl rfl HA rfl hk2 hv2 ?_; simp only [Act.put, List.setIfInBounds_toArray, List.set_cons_succ, List.set_cons_zero]) | ((with_reducible refine gate_dst (N := 95) rfl ?_); refine aw_newv (fun g => .slice (some ⟨g, 0, none⟩) 1 1) 37 [.int .u32 pw] rfl (fun W => by kernel_rfl) HA ?_; clear HA; intro gn W_ HA; simp only [Act.put, List.setIfInBounds_toArray, List.set_cons_succ, List.set_cons_zero]) | ((with_reducible refine gate_dst (N := 96) rfl ?_); refine aw_append 4 0 rfl Tryd.underlying25 au_info rfl (Nat.le_refl 1) rfl hown rfl rfl HA rfl rfl rfl rfl hap1 hap2 ?_; clear HA; intro v_ W_ Lv_ hown_ HA; dsimp only [List.set, List.take, List.cons_append, List.nil_append] at HA; simp only [Act.put, List.setIfInBounds_toArray, List.set_cons_succ, List.set_cons_zero]) | ((with_reducible refine gate_ld rfl ?_); (first | refine aw_loadW 0 (t := 36) rfl rfl HA rfl rfl ?_ ?_ | refine aw_loadA 0 (t := 34) (j := 1) rfl rfl HA rfl rfl 5 ?_ rfl rfl ?_ | refine aw_loadW 0 (t := 34) rfl rfl HA rfl rfl ?_ ?_ | refine aw_load 0 rfl rfl HA rfl rfl rfl ?_ ?_ | refine aw_load 1 rfl rfl HA rfl rfl rfl ?_ ?_); kernel_rfl; simp only [Act.put, List.setIfInBounds_toArray, List.set_cons_succ, List.set_cons_zero]) | ((with_reducible refine gate_st rfl ?_); (first | refine aw_storeW 0 (t := 36) rfl rfl rfl rfl HA rfl rfl rfl ?_ rfl ?_ | refine aw_storeW 0 (t := 34) rfl rfl rfl rfl HA rfl rfl rfl ?_ rfl ?_ | refine aw_store 0 (v := .int _ _) rfl rfl rfl rfl rfl HA rfl rfl rfl ?_ ?_); kernel_rfl; clear HA; intro W_ HA; dsimp only [List.set, List.take, List.cons_append, List.nil_append] at HA))
              go_roundg (l0.length - (k + 1))
              case measure => omega
              case rel => exact ⟨k + 1, acc ++ [pw], Lv_, by omega, by go_num, by simp; omega, by simpa using hown_, HG, HA.sub (List.Sublist.cons _ (List.Sublist.cons _ (List.Sublist.cons _ (List.Sublist.refl _))))⟩
          have ce := beq_eq_false_iff_ne.mpr he
          have ce2 := bne_iff_ne.mpr he
          have s1 : IntKind.i64.wrap (at_ - (k : Int)) = at_ - (k : Int) := IntWalk.i64_in _ (by omega)
          have s2 : IntKind.i64.wrap (at_ - (k : Int) - 1) = at_ - (k : Int) - 1 := IntWalk.i64_in _ (by omega)
          have s3 : IntKind.i64.wrap (2 * at_) = 2 * at_ := IntWalk.i64_in _ (by omega)
          have s4 : IntKind.i64.wrap (2 * at_ + 1) = 2 * at_ + 1 := IntWalk.i64_in _ (by omega)
          by_cases hone : o0 = 1
          · subst hone
            have hnn2 : 2 * at_ + 1 = nn := Eq.symm (by rw [← HNN.out]; unfold asmNum; rw [if_neg he, if_pos rfl, HV2.out])
            subst hnn2
            cases hri : isaRight 1 o1 o2 o3 (2 * at_ + 1) with
            | false =>
              rw [if_neg (by rw [hri]; decide)] at hg
              simp only [Prod.mk.injEq] at hg
              obtain ⟨rfl, rfl, rfl⟩ := hg
              rw [hri] at hput0
              have hput := hput0
              simp only [Bool.false_eq_true, if_false] at hput
              clear hput0 HNN hri
              go_wp2_with (first | ((with_reducible refine gate_dst (N := 12) rfl ?_); refine aw_alloc rfl rfl line_zero HA ?_; clear HA; intro bx W_ HA; simp only [Act.put, List.setIfInBounds_toArray, List.set_cons_succ, List.set_cons_zero]) | ((with_reducible refine gate_dst (N := 14) rfl ?_); refine aw_alloc rfl rfl op_zero HA ?_; clear HA; intro bo W_ HA; simp only [Act.put, List.setIfInBounds_toArray, List.set_cons_succ, List.set_cons_zero]) | (go_at_call 21; refine (hwrong _ _ HA).mono ?_; clear HA; rintro e W_ ⟨rfl, HA⟩) | (go_at_call 16; refine (hput _).mono ?_; rintro e W_ ⟨rfl, hb_⟩; replace HA := HA.call hb_; clear hb_) | ((with_reducible refine gate_dst (N := 68) rfl ?_); refine aw_lookup 2 (f := firstF l0) (kl := skey f2) s_keyed si_under si_int si_zero rfl rfl rfl rfl HA rfl hk2 hv2 ?_; simp only [Act.put, List.setIfInBounds_toArray, List.set_cons_succ, List.set_cons_zero]) | ((with_reducible refine gate_dst (N := 95) rfl ?_); refine aw_newv (fun g => .slice (some ⟨g, 0, none⟩) 1 1) 37 [.int .u32 pw] rfl (fun W => by kernel_rfl) HA ?_; clear HA; intro gn W_ HA; simp only [Act.put, List.setIfInBounds_toArray, List.set_cons_succ, List.set_cons_zero]) | ((with_reducible refine gate_dst (N := 96) rfl ?_); refine aw_append 4 0 rfl Tryd.underlying25 au_info rfl (Nat.le_refl 1) rfl hown rfl rfl HA rfl rfl rfl rfl hap1 hap2 ?_; clear HA; intro v_ W_ Lv_ hown_ HA; dsimp only [List.set, List.take, List.cons_append, List.nil_append] at HA; simp only [Act.put, List.setIfInBounds_toArray, List.set_cons_succ, List.set_cons_zero]) | ((with_reducible refine gate_ld rfl ?_); (first | refine aw_loadW 0 (t := 36) rfl rfl HA rfl rfl ?_ ?_ | refine aw_loadA 0 (t := 34) (j := 1) rfl rfl HA rfl rfl 5 ?_ rfl rfl ?_ | refine aw_loadW 0 (t := 34) rfl rfl HA rfl rfl ?_ ?_ | refine aw_load 0 rfl rfl HA rfl rfl rfl ?_ ?_ | refine aw_load 1 rfl rfl HA rfl rfl rfl ?_ ?_); kernel_rfl; simp only [Act.put, List.setIfInBounds_toArray, List.set_cons_succ, List.set_cons_zero]) | ((with_reducible refine gate_st rfl ?_); (first | refine aw_storeW 0 (t := 36) rfl rfl rfl rfl HA rfl rfl rfl ?_ rfl ?_ | refine aw_storeW 0 (t := 34) rfl rfl rfl rfl HA rfl rfl rfl ?_ rfl ?_ | refine aw_store 0 (v := .int _ _) rfl rfl rfl rfl rfl HA rfl rfl rfl ?_ ?_); kernel_rfl; clear HA; intro W_ HA; dsimp only [List.set, List.take, List.cons_append, List.nil_append] at HA))
              (try simp only [Exit.inBlock, Exit.then]); (try rw [Exit.noGoto_ret]); refine bodyPost_ret (results_list (rs := [.tmp 2, .tmp 3, .tmp 4]) rfl (by simp) (.tmp (.tmp (.tmp .nil)))) rfl ?_
              exact ⟨_, rfl, (Own.nil _ _).kdR (l := []) HA (by simp) (fun _ _ => trivial), HA.below⟩
            | true =>
              rw [if_pos hri] at hg
              rw [hri] at hput0
              have hput := hput0
              simp only [if_true] at hput
              have HG := Aside0.mk hg
              clear hput0 HNN hri hg
              go_wp2_with (first | ((with_reducible refine gate_dst (N := 12) rfl ?_); refine aw_alloc rfl rfl line_zero HA ?_; clear HA; intro bx W_ HA; simp only [Act.put, List.setIfInBounds_toArray, List.set_cons_succ, List.set_cons_zero]) | ((with_reducible refine gate_dst (N := 14) rfl ?_); refine aw_alloc rfl rfl op_zero HA ?_; clear HA; intro bo W_ HA; simp only [Act.put, List.setIfInBounds_toArray, List.set_cons_succ, List.set_cons_zero]) | (go_at_call 21; refine (hwrong _ _ HA).mono ?_; clear HA; rintro e W_ ⟨rfl, HA⟩) | (go_at_call 16; refine (hput _).mono ?_; rintro e W_ ⟨rfl, hb_⟩; replace HA := HA.call hb_; clear hb_) | ((with_reducible refine gate_dst (N := 68) rfl ?_); refine aw_lookup 2 (f := firstF l0) (kl := skey f2) s_keyed si_under si_int si_zero rfl rfl rfl rfl HA rfl hk2 hv2 ?_; simp only [Act.put, List.setIfInBounds_toArray, List.set_cons_succ, List.set_cons_zero]) | ((with_reducible refine gate_dst (N := 95) rfl ?_); refine aw_newv (fun g => .slice (some ⟨g, 0, none⟩) 1 1) 37 [.int .u32 pw] rfl (fun W => by kernel_rfl) HA ?_; clear HA; intro gn W_ HA; simp only [Act.put, List.setIfInBounds_toArray, List.set_cons_succ, List.set_cons_zero]) | ((with_reducible refine gate_dst (N := 96) rfl ?_); refine aw_append 4 0 rfl Tryd.underlying25 au_info rfl (Nat.le_refl 1) rfl hown rfl rfl HA rfl rfl rfl rfl hap1 hap2 ?_; clear HA; intro v_ W_ Lv_ hown_ HA; dsimp only [List.set, List.take, List.cons_append, List.nil_append] at HA; simp only [Act.put, List.setIfInBounds_toArray, List.set_cons_succ, List.set_cons_zero]) | ((with_reducible refine gate_ld rfl ?_); (first | refine aw_loadW 0 (t := 36) rfl rfl HA rfl rfl ?_ ?_ | refine aw_loadA 0 (t := 34) (j := 1) rfl rfl HA rfl rfl 5 ?_ rfl rfl ?_ | refine aw_loadW 0 (t := 34) rfl rfl HA rfl rfl ?_ ?_ | refine aw_load 0 rfl rfl HA rfl rfl rfl ?_ ?_ | refine aw_load 1 rfl rfl HA rfl rfl rfl ?_ ?_); kernel_rfl; simp only [Act.put, List.setIfInBounds_toArray, List.set_cons_succ, List.set_cons_zero]) | ((with_reducible refine gate_st rfl ?_); (first | refine aw_storeW 0 (t := 36) rfl rfl rfl rfl HA rfl rfl rfl ?_ rfl ?_ | refine aw_storeW 0 (t := 34) rfl rfl rfl rfl HA rfl rfl rfl ?_ rfl ?_ | refine aw_store 0 (v := .int _ _) rfl rfl rfl rfl rfl HA rfl rfl rfl ?_ ?_); kernel_rfl; clear HA; intro W_ HA; dsimp only [List.set, List.take, List.cons_append, List.nil_append] at HA))
              go_roundg (l0.length - (k + 1))
              case measure => omega
              case rel => exact ⟨k + 1, acc ++ [pw], Lv_, by omega, by go_num, by simp; omega, by simpa using hown_, HG, HA.sub (List.Sublist.cons _ (List.Sublist.cons _ (List.Sublist.cons _ (List.Sublist.refl _))))⟩
          have co := beq_eq_false_iff_ne.mpr hone
          have hnn2 : at_ - k - 1 = nn := Eq.symm (by rw [← HNN.out]; unfold asmNum; rw [if_neg he, if_neg hone, HV2.out])
          subst hnn2
          cases hri : isaRight o0 o1 o2 o3 (at_ - k - 1) with
          | false =>
            rw [if_neg (by rw [hri]; decide)] at hg
            simp only [Prod.mk.injEq] at hg
            obtain ⟨rfl, rfl, rfl⟩ := hg
            rw [hri] at hput0
            have hput := hput0
            simp only [Bool.false_eq_true, if_false] at hput
            clear hput0 HNN hri
            go_wp2_with (first | ((with_reducible refine gate_dst (N := 12) rfl ?_); refine aw_alloc rfl rfl line_zero HA ?_; clear HA; intro bx W_ HA; simp only [Act.put, List.setIfInBounds_toArray, List.set_cons_succ, List.set_cons_zero]) | ((with_reducible refine gate_dst (N := 14) rfl ?_); refine aw_alloc rfl rfl op_zero HA ?_; clear HA; intro bo W_ HA; simp only [Act.put, List.setIfInBounds_toArray, List.set_cons_succ, List.set_cons_zero]) | (go_at_call 21; refine (hwrong _ _ HA).mono ?_; clear HA; rintro e W_ ⟨rfl, HA⟩) | (go_at_call 16; refine (hput _).mono ?_; rintro e W_ ⟨rfl, hb_⟩; replace HA := HA.call hb_; clear hb_) | ((with_reducible refine gate_dst (N := 68) rfl ?_); refine aw_lookup 2 (f := firstF l0) (kl := skey f2) s_keyed si_under si_int si_zero rfl rfl rfl rfl HA rfl hk2 hv2 ?_; simp only [Act.put, List.setIfInBounds_toArray, List.set_cons_succ, List.set_cons_zero]) | ((with_reducible refine gate_dst (N := 95) rfl ?_); refine aw_newv (fun g => .slice (some ⟨g, 0, none⟩) 1 1) 37 [.int .u32 pw] rfl (fun W => by kernel_rfl) HA ?_; clear HA; intro gn W_ HA; simp only [Act.put, List.setIfInBounds_toArray, List.set_cons_succ, List.set_cons_zero]) | ((with_reducible refine gate_dst (N := 96) rfl ?_); refine aw_append 4 0 rfl Tryd.underlying25 au_info rfl (Nat.le_refl 1) rfl hown rfl rfl HA rfl rfl rfl rfl hap1 hap2 ?_; clear HA; intro v_ W_ Lv_ hown_ HA; dsimp only [List.set, List.take, List.cons_append, List.nil_append] at HA; simp only [Act.put, List.setIfInBounds_toArray, List.set_cons_succ, List.set_cons_zero]) | ((with_reducible refine gate_ld rfl ?_); (first | refine aw_loadW 0 (t := 36) rfl rfl HA rfl rfl ?_ ?_ | refine aw_loadA 0 (t := 34) (j := 1) rfl rfl HA rfl rfl 5 ?_ rfl rfl ?_ | refine aw_loadW 0 (t := 34) rfl rfl HA rfl rfl ?_ ?_ | refine aw_load 0 rfl rfl HA rfl rfl rfl ?_ ?_ | refine aw_load 1 rfl rfl HA rfl rfl rfl ?_ ?_); kernel_rfl; simp only [Act.put, List.setIfInBounds_toArray, List.set_cons_succ, List.set_cons_zero]) | ((with_reducible refine gate_st rfl ?_); (first | refine aw_storeW 0 (t := 36) rfl rfl rfl rfl HA rfl rfl rfl ?_ rfl ?_ | refine aw_storeW 0 (t := 34) rfl rfl rfl rfl HA rfl rfl rfl ?_ rfl ?_ | refine aw_store 0 (v := .int _ _) rfl rfl rfl rfl rfl HA rfl rfl rfl ?_ ?_); kernel_rfl; clear HA; intro W_ HA; dsimp only [List.set, List.take, List.cons_append, List.nil_append] at HA))
            (try simp only [Exit.inBlock, Exit.then]); (try rw [Exit.noGoto_ret]); refine bodyPost_ret (results_list (rs := [.tmp 2, .tmp 3, .tmp 4]) rfl (by simp) (.tmp (.tmp (.tmp .nil)))) rfl ?_
            exact ⟨_, rfl, (Own.nil _ _).kdR (l := []) HA (by simp) (fun _ _ => trivial), HA.below⟩
          | true =>
            rw [if_pos hri] at hg
            rw [hri] at hput0
            have hput := hput0
            simp only [if_true] at hput
            have HG := Aside0.mk hg
            clear hput0 HNN hri hg
            go_wp2_with (first | ((with_reducible refine gate_dst (N := 12) rfl ?_); refine aw_alloc rfl rfl line_zero HA ?_; clear HA; intro bx W_ HA; simp only [Act.put, List.setIfInBounds_toArray, List.set_cons_succ, List.set_cons_zero]) | ((with_reducible refine gate_dst (N := 14) rfl ?_); refine aw_alloc rfl rfl op_zero HA ?_; clear HA; intro bo W_ HA; simp only [Act.put, List.setIfInBounds_toArray, List.set_cons_succ, List.set_cons_zero]) | (go_at_call 21; refine (hwrong _ _ HA).mono ?_; clear HA; rintro e W_ ⟨rfl, HA⟩) | (go_at_call 16; refine (hput _).mono ?_; rintro e W_ ⟨rfl, hb_⟩; replace HA := HA.call hb_; clear hb_) | ((with_reducible refine gate_dst (N := 68) rfl ?_); refine aw_lookup 2 (f := firstF l0) (kl := skey f2) s_keyed si_under si_int si_zero rfl rfl rfl rfl HA rfl hk2 hv2 ?_; simp only [Act.put, List.setIfInBounds_toArray, List.set_cons_succ, List.set_cons_zero]) | ((with_reducible refine gate_dst (N := 95) rfl ?_); refine aw_newv (fun g => .slice (some ⟨g, 0, none⟩) 1 1) 37 [.int .u32 pw] rfl (fun W => by kernel_rfl) HA ?_; clear HA; intro gn W_ HA; simp only [Act.put, List.setIfInBounds_toArray, List.set_cons_succ, List.set_cons_zero]) | ((with_reducible refine gate_dst (N := 96) rfl ?_); refine aw_append 4 0 rfl Tryd.underlying25 au_info rfl (Nat.le_refl 1) rfl hown rfl rfl HA rfl rfl rfl rfl hap1 hap2 ?_; clear HA; intro v_ W_ Lv_ hown_ HA; dsimp only [List.set, List.take, List.cons_append, List.nil_append] at HA; simp only [Act.put, List.setIfInBounds_toArray, List.set_cons_succ, List.set_cons_zero]) | ((with_reducible refine gate_ld rfl ?_); (first | refine aw_loadW 0 (t := 36) rfl rfl HA rfl rfl ?_ ?_ | refine aw_loadA 0 (t := 34) (j := 1) rfl rfl HA rfl rfl 5 ?_ rfl rfl ?_ | refine aw_loadW 0 (t := 34) rfl rfl HA rfl rfl ?_ ?_ | refine aw_load 0 rfl rfl HA rfl rfl rfl ?_ ?_ | refine aw_load 1 rfl rfl HA rfl rfl rfl ?_ ?_); kernel_rfl; simp only [Act.put, List.setIfInBounds_toArray, List.set_cons_succ, List.set_cons_zero]) | ((with_reducible refine gate_st rfl ?_); (first | refine aw_storeW 0 (t := 36) rfl rfl rfl rfl HA rfl rfl rfl ?_ rfl ?_ | refine aw_storeW 0 (t := 34) rfl rfl rfl rfl HA rfl rfl rfl ?_ rfl ?_ | refine aw_store 0 (v := .int _ _) rfl rfl rfl rfl rfl HA rfl rfl rfl ?_ ?_); kernel_rfl; clear HA; intro W_ HA; dsimp only [List.set, List.take, List.cons_append, List.nil_append] at HA))
            go_roundg (l0.length - (k + 1))
            case measure => omega
            case rel => exact ⟨k + 1, acc ++ [pw], Lv_, by omega, by go_num, by simp; omega, by simpa using hown_, HG, HA.sub (List.Sublist.cons _ (List.Sublist.cons _ (List.Sublist.cons _ (List.Sublist.refl _))))⟩
        · have hkl : k = l0.length := by omega
          subst hkl
          have ck1 : decide ((l0.length : Int) < (l0.length : Int)) = false := decide_eq_false (by omega)
          have ck2 : decide (l0.length < l0.length) = false := decide_eq_false hlt
          have hg := HG.out
          rw [List.drop_length, asmGo] at hg
          simp only [Prod.mk.injEq] at hg
          obtain ⟨rfl, rfl, rfl⟩ := hg
          clear HG hlt hk
          go_wp2
          (try simp only [Exit.inBlock, Exit.then]); (try rw [Exit.noGoto_ret]); refine bodyPost_ret (results_list (rs := [.tmp 2, .tmp 3, .tmp 4]) rfl (by simp) (.tmp (.tmp (.tmp .nil)))) rfl ?_
          exact ⟨_, rfl, hown.kdR HA (fun x hx => by simp [hx]) (fun _ _ => trivial), HA.below⟩
end Go.Proofs.YtlhkojnocconfaaDoor.Q
