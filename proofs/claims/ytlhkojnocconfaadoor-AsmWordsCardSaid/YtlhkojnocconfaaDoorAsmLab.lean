/- asm: the number of a label's line. -/
import Derived.Test.YtlhkojnocconfaaDoorQx0
import Derived.Test.YtlhkojnocconfaaDoorQx1
import Derived.Test.YtlhkojnocconfaaDoorAsmModel
import Derived.Test.YtlhkojnocconfaaDoorEvW
import Derived.Test.YtlhkojnocconfaaDoorHisaPut
--@needs XAsmModel
--@needs XEvW
namespace Go.Proofs.YtlhkojnocconfaaDoor.Q
open Go.RowKit Go.Proofs.YtlhkojnocconfaaDoorW.PrintWords Go.Proofs.YtlhkojnocconfaaDoorW.PrintLast Go.Proofs.YtlhkojnocconfaaDoorW.PrintMore
attribute [local go_sem] max2_int min2_int max_two min_two max_three min_three max_four min_four   -- for this text's walks alone
set_option linter.unusedVariables false
set_option linter.unusedSimpArgs false

theorem aw64 {n : Int} (h0 : -9223372036854775808 ≤ n) (h1 : n ≤ 9223372036854775807) : wrap64 n = n := by unfold wrap64; omega
/-- the number of the first line with a label, or -1 -/
def labelsV (l : List S36) (s : ByteArray) : Int := (firstF l (skey s)).getD (-1)
theorem labelsV_empty {l : List S36} {s : ByteArray} (h : s.toList = []) : labelsV l s = -1 := by
  unfold labelsV skey
  rw [(toList_nil s).1 h, firstF_nil]
  rfl
theorem rd_line {l : List S36} {i : Nat} (h : i < l.length) : rd_T36 l (i : Int) = l[i] := by
  unfold rd_T36
  rw [Int.toNat_natCast, List.getD_eq_getElem?_getD, List.getElem?_eq_getElem h]
  rfl
def goOn (l : List S36) (s : ByteArray) (i : Nat) : Int := match (l.drop i).findIdx? (fun x => x.f0.data.toList == s.data.toList) with | some n => ((i + n : Nat) : Int) | none => -1
theorem goOn_zero {l : List S36} {s : ByteArray} (h : ¬ s.toList = []) : goOn l s 0 = labelsV l s := by
  rw [toList_nil] at h
  unfold goOn labelsV firstF skey
  dsimp only
  rw [if_neg h, List.drop_zero]
  cases l.findIdx? (fun x => x.f0.data.toList == s.data.toList) with
  | none => rfl
  | some n => simp
theorem goOn_hit {l : List S36} {s : ByteArray} {i : Nat} (h : i < l.length) (he : l[i].f0.toList = s.toList) : goOn l s i = i := by
  rw [ByteArray.toList_eq, ByteArray.toList_eq] at he
  unfold goOn
  rw [List.drop_eq_getElem_cons h, List.findIdx?_cons, beq_iff_eq.mpr he]
  simp
theorem goOn_miss {l : List S36} {s : ByteArray} {i : Nat} (h : i < l.length) (he : ¬ l[i].f0.toList = s.toList) : goOn l s i = goOn l s (i + 1) := by
  rw [ByteArray.toList_eq, ByteArray.toList_eq] at he
  unfold goOn
  rw [List.drop_eq_getElem_cons h, List.findIdx?_cons, beq_eq_false_iff_ne.mpr he]
  cases (l.drop (i + 1)).findIdx? (fun x => x.f0.data.toList == s.data.toList) with
  | none => rfl
  | some n => simp; omega
theorem goOn_end {l : List S36} {s : ByteArray} {i : Nat} (h : l.length ≤ i) : goOn l s i = -1 := by
  unfold goOn
  rw [List.drop_eq_nil_of_le h]
  rfl
theorem asm_Labels_eq (l : List S36) (hl : l.length ≤ 9223372036854775806) (s : ByteArray) : Ev (fun k => asm_Labels.f k l s) (labelsV l s) := by
  unfold asm_Labels.f
  by_cases h : s.toList = []
  · rw [labelsV_empty h]
    have go : ∀ (d i : Nat), i + d = l.length → Ev (fun k => asm_Labels.l0 k s l (l.length : Int) (i : Int)) (-1) := by
      intro d
      induction d with
      | zero =>
        intro i hi
        refine Ev.step (f := fun _ => some (-1)) (fun k => ?_) (Ev.now _)
        rw [asm_Labels.l0]
        rw [if_neg (by omega)]
      | succ d ih =>
        intro i hi
        have hw : wrap64 ((i : Int) + 1) = ((i + 1 : Nat) : Int) := by rw [aw64 (by omega) (by omega)]; omega
        refine Ev.step (f := fun k => asm_Labels.l0 k s l (l.length : Int) ((i + 1 : Nat) : Int)) (fun k => ?_) (ih (i + 1) (by omega))
        rw [asm_Labels.l0]
        rw [if_pos (by omega), if_pos (by omega), if_pos (by omega), if_pos h, hw]
    exact go l.length 0 (by omega)
  rw [← goOn_zero h]
  have go : ∀ (d i : Nat), i + d = l.length → Ev (fun k => asm_Labels.l0 k s l (l.length : Int) (i : Int)) (goOn l s i) := by
    intro d
    induction d with
    | zero =>
      intro i hi
      rw [goOn_end (by omega)]
      refine Ev.step (f := fun _ => some (-1)) (fun k => ?_) (Ev.now _)
      rw [asm_Labels.l0]
      rw [if_neg (by omega)]
    | succ d ih =>
      intro i hi
      have hlt : i < l.length := by omega
      have hw : wrap64 ((i : Int) + 1) = ((i + 1 : Nat) : Int) := by rw [aw64 (by omega) (by omega)]; omega
      by_cases he : l[i].f0.toList = s.toList
      · rw [goOn_hit hlt he]
        refine Ev.step (f := fun _ => some (i : Int)) (fun k => ?_) (Ev.now _)
        rw [asm_Labels.l0]
        rw [if_pos (by omega), if_pos (by omega), if_pos (by omega), if_neg h, rd_line hlt, if_pos he]
      · rw [goOn_miss hlt he]
        refine Ev.step (f := fun k => asm_Labels.l0 k s l (l.length : Int) ((i + 1 : Nat) : Int)) (fun k => ?_) (ih (i + 1) (by omega))
        rw [asm_Labels.l0]
        rw [if_pos (by omega), if_pos (by omega), if_pos (by omega), if_neg h, rd_line hlt, if_neg he, hw]
  exact go l.length 0 (by omega)
/-- a line's own label is found, at it or before -/
theorem firstF_own {l : List S36} {i : Nat} (h : i < l.length) (hn : ¬ l[i].f0.toList = []) : ∃ a : Nat, firstF l (skey l[i].f0) = some (a : Int) ∧ a ≤ i := by
  rw [toList_nil] at hn
  unfold firstF skey
  dsimp only
  rw [if_neg hn]
  cases hf : l.findIdx? (fun x => x.f0.data.toList == l[i].f0.data.toList) with
  | none =>
    exfalso
    rw [List.findIdx?_eq_none_iff] at hf
    have := hf l[i] (List.getElem_mem h)
    simp at this
  | some n =>
    refine ⟨n, rfl, ?_⟩
    obtain ⟨hlt, _, hmin⟩ := List.findIdx?_eq_some_iff_getElem.1 hf
    rcases Nat.lt_or_ge i n with hin | hin
    · exfalso
      have := hmin i hin
      simp at this
    · exact hin
theorem labelsV_range {l : List S36} {s : ByteArray} (hl : l.length ≤ 16384) : -1 ≤ labelsV l s ∧ labelsV l s ≤ 16384 := by
  unfold labelsV
  cases h : firstF l (skey s) with
  | none => exact ⟨by decide, by decide⟩
  | some a => have := firstF_lt h; exact ⟨by show -1 ≤ a; omega, by show a ≤ 16384; omega⟩
theorem labelsV_some {l : List S36} {s : ByteArray} : (firstF l (skey s)).isSome = true ↔ ¬ labelsV l s < 0 := by
  unfold labelsV
  cases h : firstF l (skey s) with
  | none => simp
  | some a => have := firstF_lt h; simp; omega
theorem labelsV_getD {l : List S36} {s : ByteArray} (h : ¬ labelsV l s < 0) : (firstF l (skey s)).getD 0 = labelsV l s := by
  unfold labelsV at h ⊢
  cases hf : firstF l (skey s) with
  | none => rw [hf] at h; exact absurd (by decide) h
  | some a => rfl
theorem asmGo_len (l : List S36) : ∀ (r : List S36) (i : Nat) (acc : List Int), (asmGo l r i acc).1.length ≤ acc.length + r.length
  | [], i, acc => by rw [asmGo]; simp
  | x :: r, i, acc => by
    rw [asmGo]
    by_cases h : asmWrong l i x ≠ 0
    · rw [if_pos h]; simp
    rw [if_neg h]
    split
    · have := asmGo_len l r (i + 1) (acc ++ [isaPut x.f1.f0 x.f1.f1 x.f1.f2 x.f1.f3 (asmNum l i x)])
      simp at this ⊢
      omega
    · simp
end Go.Proofs.YtlhkojnocconfaaDoor.Q
