/- isa.Show: an instruction as a text. By wip/gen/isa_show.py. -/
import Derived.Test.YtlhkojnocconfaaDoorQx0
import Derived.Test.YtlhkojnocconfaaDoorAw
import Derived.Test.YtlhkojnocconfaaDoorHisaForms
import Derived.Test.YtlhkojnocconfaaDoorHisaOf
import Derived.Test.YtlhkojnocconfaaDoorHisaPut
import Derived.Test.YtlhkojnocconfaaDoorHisaRight
import Derived.Test.YtlhkojnocconfaaDoorHisaThings
import Derived.Test.YtlhkojnocconfaaDoorHnumShow
import Derived.Test.YtlhkojnocconfaaDoorLaid
--@needs XHisaThings
--@needs XHisaRight
--@needs XHisaOf
--@needs XAw
--@needs XLaid
--@uses camlet/num.Show
import Derived.LoopTactic
import Derived.Lib.Hide
import Derived.Lib.ItoaLen
namespace Go.Proofs.YtlhkojnocconfaaDoor.Q
open Go.RowKit Go.Proofs.YtlhkojnocconfaaDoorW.PrintWords Go.Proofs.YtlhkojnocconfaaDoorW.PrintLast Go.Proofs.YtlhkojnocconfaaDoorW.PrintMore
attribute [local go_sem] max2_int min2_int max_two min_two max_three min_three max_four min_four   -- for this text's walks alone
set_option linter.unusedVariables false
set_option linter.unusedSimpArgs false

def showWords (l : List Int) : List UInt8 := l.flatMap fun x => 32 :: Lib.itoa x
def isaShow (k D A B N : Int) : List UInt8 := (isaOf k N).1.data.toList ++ showWords (isaThings k D A B N)
def isa_Show.f (a0_0 : Int) (a0_1 : Int) (a0_2 : Int) (a0_3 : Int) (a0_4 : Int) : Option (ByteArray) :=
  if isaRight a0_0 a0_1 a0_2 a0_3 a0_4 = true then some ⟨(isaShow a0_0 a0_1 a0_2 a0_3 a0_4).toArray⟩ else some ⟨#[]⟩
theorem forms_span : isaForms.all (fun x => decide (-1048576 ≤ x.2.2.1) && decide (x.2.2.2 ≤ 1048575) && decide (x.1.size ≤ 10)) = true := by decide
theorem of_span (k n : Int) : -1048576 ≤ (isaOf k n).2.2.1 ∧ (isaOf k n).2.2.2 ≤ 1048575 ∧ (isaOf k n).1.size ≤ 10 := by
  have h0 : ∀ k, -1048576 ≤ (isaForm k).2.2.1 ∧ (isaForm k).2.2.2 ≤ 1048575 ∧ (isaForm k).1.size ≤ 10 := by
    intro k
    unfold isaForm
    split
    · rename_i h
      have hl : k.toNat < isaForms.length := by have : isaForms.length = 25 := rfl; omega
      have := List.all_eq_true.1 forms_span _ (List.getElem_mem hl)
      rw [List.getD_eq_getElem?_getD, List.getElem?_eq_getElem hl]
      simp only [Bool.and_eq_true, decide_eq_true_eq] at this
      exact ⟨this.1.1, this.1.2, this.2⟩
    · exact ⟨by decide, by decide, by decide⟩
  have := h0 k
  unfold isaOf
  split
  · exact this
  · exact this
theorem rightGo_vals : ∀ (l : List UInt8) (D A B D0 A0 B0 : Int), (∀ c ∈ l, (regVal c D A B = regVal c D0 A0 B0) ∨ (0 ≤ regVal c D0 A0 B0 ∧ regVal c D0 A0 B0 ≤ 31)) → rightGo l D A B = true → ∀ c ∈ l, 0 ≤ regVal c D0 A0 B0 ∧ regVal c D0 A0 B0 ≤ 31
  | [], _, _, _, _, _, _, _, _ => by simp
  | c :: r, D, A, B, D0, A0, B0, hv, h => by
    unfold rightGo at h
    have h1 := hv c (by simp)
    have key : (0 ≤ regVal c D A B ∧ regVal c D A B ≤ 31) ∧ rightGo r (if c = 68 then 0 else D) (if c = 68 then A else if c = 65 then 0 else A) (if c = 68 then B else if c = 65 then B else 0) = true := by
      by_cases e1 : c = 68
      · rw [if_pos e1] at h
        unfold regVal
        rw [if_pos e1, if_pos e1, if_pos e1, if_pos e1]
        split at h
        · cases h
        · exact ⟨by omega, h⟩
      · rw [if_neg e1] at h
        unfold regVal
        rw [if_neg e1, if_neg e1, if_neg e1, if_neg e1]
        by_cases e2 : c = 65
        · rw [if_pos e2] at h
          rw [if_pos e2, if_pos e2, if_pos e2]
          split at h
          · cases h
          · exact ⟨by omega, h⟩
        · rw [if_neg e2] at h
          rw [if_neg e2, if_neg e2, if_neg e2]
          split at h
          · cases h
          · exact ⟨by omega, h⟩
    have hc : 0 ≤ regVal c D0 A0 B0 ∧ regVal c D0 A0 B0 ≤ 31 := by
      rcases h1 with h1 | h1
      · rw [← h1]; exact key.1
      · exact h1
    have ih := rightGo_vals r _ _ _ D0 A0 B0 (fun c2 hc2 => ?_) key.2
    · intro c2 hc2
      rcases List.mem_cons.1 hc2 with rfl | hc2
      · exact hc
      · exact ih c2 hc2
    · rcases hv c2 (by simp [hc2]) with h2 | h2
      · by_cases e : regVal c2 D0 A0 B0 = regVal c D0 A0 B0
        · exact .inr (by rw [e]; exact hc)
        · left
          rw [← h2]
          have hne : regVal c2 D A B ≠ regVal c D A B ∨ regVal c D A B ≠ regVal c D0 A0 B0 := by
            rcases h1 with h1 | h1
            · left; rw [h1, h2]; exact e
            · by_cases e3 : regVal c D A B = regVal c D0 A0 B0
              · left; rw [e3, h2]; exact e
              · exact .inr e3
          unfold regVal at hne e ⊢
          by_cases c1 : c = 68 <;> by_cases c3 : c2 = 68 <;> by_cases c4 : c = 65 <;> by_cases c5 : c2 = 65 <;> simp_all
      · exact .inr h2
theorem right_parts {k D A B N : Int} (hr : isaRight k D A B N = true) : (isaOf k N).1 ≠ ⟨#[]⟩ ∧ (isaOf k N).2.2.1 ≤ N ∧ N ≤ (isaOf k N).2.2.2 ∧ rightGo (isaOf k N).2.1.data.toList D A B = true := by
  unfold isaRight at hr
  split at hr
  · cases hr
  · rename_i h
    exact ⟨fun e => h (.inl e), by omega, by omega, hr⟩
theorem things_span {k D A B N : Int} (hr : isaRight k D A B N = true) : (∀ x ∈ isaThings k D A B N, -1048576 ≤ x ∧ x ≤ 1048575) ∧ (isaThings k D A B N).length ≤ 4 := by
  obtain ⟨h1, h2, h3, h4⟩ := right_parts hr
  have hs := of_span k N
  have hl : (isaOf k N).2.1.data.toList.length ≤ 3 := by simpa using (of_regs k N).2
  have hv := rightGo_vals _ D A B D A B (fun c _ => .inl rfl) h4
  have hvm : ∀ x ∈ regVals D A B (isaOf k N).2.1.data.toList, -1048576 ≤ x ∧ x ≤ 1048575 := by
    intro x hx
    obtain ⟨c, hc, rfl⟩ := List.mem_map.1 hx
    have := hv c hc
    omega
  have hll : (regVals D A B (isaOf k N).2.1.data.toList).length ≤ 3 := by simpa [regVals] using hl
  unfold isaThings
  generalize regVals D A B (isaOf k N).2.1.data.toList = rv at hvm hll ⊢
  split
  · refine ⟨fun x hx => ?_, by simp; omega⟩
    rcases List.mem_cons.1 hx with rfl | hx
    · omega
    · exact hvm x hx
  · split
    · refine ⟨fun x hx => ?_, by simp; omega⟩
      rcases List.mem_append.1 hx with hx | hx
      · exact hvm x hx
      · obtain rfl := List.mem_singleton.1 hx; omega
    · exact ⟨hvm, by omega⟩
theorem show_ofn {x : Int} (h : -1048576 ≤ x ∧ x ≤ 1048575) : ∃ T : ByteArray, num_Show.f x = some T ∧ T.size ≤ 21 ∧ T = ⟨(Lib.itoa x).toArray⟩ :=
  ⟨⟨(Lib.itoa x).toArray⟩, if_pos (by omega), by show (Lib.itoa x).toArray.size ≤ 21; rw [List.size_toArray]; exact Lib.itoa_length_le x (by omega) (by omega), rfl⟩
theorem showWords_length (l : List Int) (h : ∀ x ∈ l, -1048576 ≤ x ∧ x ≤ 1048575) : (showWords l).length ≤ 22 * l.length := by
  induction l with
  | nil => simp [showWords]
  | cons y l ih =>
    have h1 := Lib.itoa_length_le y (by have := h y (by simp); omega) (by have := h y (by simp); omega)
    have h2 := ih (fun x hx => h x (by simp [hx]))
    simp only [showWords, List.flatMap_cons, List.length_append, List.length_cons] at *
    omega
theorem ba_appn (a b : List UInt8) : (⟨a.toArray⟩ : ByteArray) ++ ⟨b.toArray⟩ = ⟨(a ++ b).toArray⟩ := by
  apply ByteArray.ext
  simp [ByteArray.data_append]
theorem show_stepn {H : List UInt8} {l : List Int} {j : Nat} {S T : ByteArray} (hlt : j < l.length) (hS : S = ⟨(H ++ showWords (l.take j)).toArray⟩) (hT : T = ⟨(Lib.itoa l[j]).toArray⟩) : S ++ ((⟨#[32]⟩ : ByteArray) ++ T) = ⟨(H ++ showWords (l.take (j + 1))).toArray⟩ := by
  rw [hS, hT, show (⟨#[32]⟩ : ByteArray) = ⟨([32] : List UInt8).toArray⟩ from rfl, ba_appn, ba_appn, List.take_succ_eq_append_getElem hlt]
  have e : showWords (l.take j ++ [l[j]]) = showWords (l.take j) ++ (32 :: Lib.itoa l[j]) := by unfold showWords; rw [List.flatMap_append]; simp
  rw [e]
  simp
theorem show_start {nm : ByteArray} {l : List Int} : nm = ⟨(nm.data.toList ++ showWords (l.take 0)).toArray⟩ := by
  simp [showWords]
set_option maxHeartbeats 4000000 in
set_option maxRecDepth 100000 in
theorem isa_Show.calls (a0_0 : Int) (a0_1 : Int) (a0_2 : Int) (a0_3 : Int) (a0_4 : Int) (r : ByteArray) (w : World) (hG : Laid w) (h : isa_Show.f a0_0 a0_1 a0_2 a0_3 a0_4 = some r) :
    Calls Tryd.prog 47 #[.agg #[.int .i64 a0_0, .int .i64 a0_1, .int .i64 a0_2, .int .i64 a0_3, .int .i64 a0_4]] w fun e w' => e = .returned (.string r) ∧ Below w.heap.size w w' := by
  have HA := Aw.start noS w
  have hR := fun w => isa_Right.calls a0_0 a0_1 a0_2 a0_3 a0_4 _ w rfl
  have HG := Aside0.mk hG
  clear hG
  unfold isa_Show.f at h
  cases hr : isaRight a0_0 a0_1 a0_2 a0_3 a0_4
  case false =>
    rw [hr] at hR
    rw [if_neg (by rw [hr]; simp)] at h
    obtain rfl := Option.some.inj h
    clear h
    go_enter Tryd.func47, Tryd.ntmps47
    go_wp2_with (first | ((with_reducible refine gate_dst (N := 1) rfl ?_); refine aw_box rfl rfl rfl HA ?_; clear HA; intro go W_ HA; simp only [Act.put, List.setIfInBounds_toArray, List.set_cons_succ, List.set_cons_zero]) | (go_at_call 27; refine (hR _).mono ?_; rintro e W_ ⟨rfl, hb_⟩; replace HA := HA.call hb_; clear hb_) | (go_at_call 25; refine (hO _).mono ?_; rintro e W_ ⟨rfl, hb_⟩; replace HA := HA.call hb_; clear hb_) | (go_at_call 59; refine (hT _).mono ?_; rintro e W_ ⟨⟨v_, rfl, A_, c_, rfl, hc_, hC_⟩, hb_⟩; replace HA := HA.call hb_; clear hb_) | ((with_reducible refine gate_ld rfl ?_); (first | refine aw_loadW 0 (t := 34) rfl rfl HA rfl rfl ?_ ?_ | refine aw_loadW 1 (t := 34) rfl rfl HA rfl rfl ?_ ?_ | refine aw_loadW 2 (t := 34) rfl rfl HA rfl rfl ?_ ?_ | refine aw_load 0 rfl rfl HA rfl rfl rfl ?_ ?_ | refine aw_load 1 rfl rfl HA rfl rfl rfl ?_ ?_ | refine aw_load 2 rfl rfl HA rfl rfl rfl ?_ ?_); kernel_rfl; simp only [Act.put, List.setIfInBounds_toArray, List.set_cons_succ, List.set_cons_zero]))
    go_ret
    exact ⟨rfl, HA.below⟩
  case true =>
    rw [hr] at hR
    rw [if_pos hr] at h
    obtain rfl := Option.some.inj h
    clear h
    have hO := fun w => isa_of.calls a0_0 a0_1 a0_2 a0_3 a0_4 w
    have hT := fun w => isa_things.calls a0_0 a0_1 a0_2 a0_3 a0_4 w hr
    obtain ⟨hsp, hlen⟩ := things_span hr
    have hns := (of_span a0_0 a0_4).2.2
    unfold isaShow
    generalize isaThings a0_0 a0_1 a0_2 a0_3 a0_4 = l at hsp hlen hT ⊢
    generalize isaOf a0_0 a0_4 = fm at hO hns ⊢
    obtain ⟨nm, rg, lo, hi⟩ := fm
    dsimp only at hO hns ⊢
    have hfld : ∀ W, (Instr.field 54 (.agg #[.string nm, .string rg, .int .i64 lo, .int .i64 hi]) 0).run Tryd.prog W = .ok (.string nm) W := fun W => by kernel_rfl
    have HX := Aside0.mk hsp
    clear hsp hr
    go_enter Tryd.func47, Tryd.ntmps47
    go_wp2_with (first | ((with_reducible refine gate_dst (N := 1) rfl ?_); refine aw_box rfl rfl rfl HA ?_; clear HA; intro go W_ HA; simp only [Act.put, List.setIfInBounds_toArray, List.set_cons_succ, List.set_cons_zero]) | (go_at_call 27; refine (hR _).mono ?_; rintro e W_ ⟨rfl, hb_⟩; replace HA := HA.call hb_; clear hb_) | (go_at_call 25; refine (hO _).mono ?_; rintro e W_ ⟨rfl, hb_⟩; replace HA := HA.call hb_; clear hb_) | (go_at_call 59; refine (hT _).mono ?_; rintro e W_ ⟨⟨v_, rfl, A_, c_, rfl, hc_, hC_⟩, hb_⟩; replace HA := HA.call hb_; clear hb_) | ((with_reducible refine gate_ld rfl ?_); (first | refine aw_loadW 0 (t := 34) rfl rfl HA rfl rfl ?_ ?_ | refine aw_loadW 1 (t := 34) rfl rfl HA rfl rfl ?_ ?_ | refine aw_loadW 2 (t := 34) rfl rfl HA rfl rfl ?_ ?_ | refine aw_load 0 rfl rfl HA rfl rfl rfl ?_ ?_ | refine aw_load 1 rfl rfl HA rfl rfl rfl ?_ ?_ | refine aw_load 2 rfl rfl HA rfl rfl rfl ?_ ?_); kernel_rfl; simp only [Act.put, List.setIfInBounds_toArray, List.set_cons_succ, List.set_cons_zero]))
    have HC := Aside0.mk hC_
    clear hC_
    go_loopw [3, 15] (fun s i wr => ∃ (j : Nat) (S : ByteArray), j ≤ l.length ∧ i = .int .i64 j ∧ s = .string S ∧ Aside0 (S = ⟨(nm.data.toList ++ showWords (l.take j)).toArray⟩) ∧ Aside0 ((Kd.int .i64).C wr A_ l.length l) ∧ Aw noS w wr [(go, .c 34 [.int .i64 a0_0, .int .i64 a0_1, .int .i64 a0_2, .int .i64 a0_3, .int .i64 a0_4])]) (fun _ i _ => l.length - (intOf i).toNat)
    case atStart => exact ⟨0, _, Nat.zero_le _, rfl, rfl, Aside0.mk show_start, HC, HA⟩
    case round =>
      obtain ⟨j, S, hj, rfl, rfl, HS, HC, HA⟩ := hrel
      by_cases hlt : j < l.length
      · obtain ⟨ad, rfl, hc⟩ := Kd.at_int HC.out (j : Int) (by omega) (by omega)
        have hrd : rd l (j : Int) = l[j] := by unfold rd; simp [hlt]
        rw [hrd, Int.toNat_natCast] at hc
        obtain ⟨T, hT1, hT2, hT3⟩ := show_ofn (HX.out l[j] (List.getElem_mem hlt))
        have HT := Aside0.mk hT1
        have HT3 := Aside0.mk hT3
        clear hT1 hT3 hrd
        have hS : S.size ≤ 200 := by
          rw [HS.out]
          show (nm.data.toList ++ showWords (l.take j)).toArray.size ≤ 200
          rw [List.size_toArray, List.length_append]
          have h1 := showWords_length (l.take j) (fun x hx => HX.out x (List.mem_of_mem_take hx))
          have h2 : (l.take j).length ≤ j := List.length_take_le _ _
          have h3 : nm.data.toList.length ≤ 10 := by simpa using hns
          omega
        have q0_ : 1 + T.size ≤ 9223372036854775807 := (by omega)
        have q1_ : S.size + (1 + T.size) ≤ 9223372036854775807 := (by omega)
        have q0a := eq_true q0_
        have q0b := decide_eq_true q0_
        have q0c : (9223372036854775807 < 1 + T.size) = False := eq_false (Nat.not_lt.2 q0_)
        clear q0_
        have q1a := eq_true q1_
        have q1b := decide_eq_true q1_
        have q1c : (9223372036854775807 < S.size + (1 + T.size)) = False := eq_false (Nat.not_lt.2 q1_)
        clear q1_
        clear hS hT2
        go_wp2_with (go_at_call 60; refine (num_Show.calls l[j] T _ (HG.out.mono HA.below) HT.out).mono ?_; rintro e W_ ⟨rfl, hb⟩; have n0_ := Aside0.mk (Kd.C_below HC.out hb); clear HC; have HC := n0_; clear n0_; replace HA := HA.call hb; clear hb)
        go_roundw
        case rel => exact ⟨j + 1, _, by omega, by go_num, rfl, Aside0.mk (show_stepn hlt HS.out HT3.out), HC, HA⟩
        case measure => simp [intOf]; omega
      · have : j = l.length := by omega
        subst this
        go_wp2
        go_ret
        have hS := HS.out
        rw [List.take_length] at hS
        exact ⟨congrArg (fun s => Ending.returned (.string s)) hS, HA.below⟩
end Go.Proofs.YtlhkojnocconfaaDoor.Q
