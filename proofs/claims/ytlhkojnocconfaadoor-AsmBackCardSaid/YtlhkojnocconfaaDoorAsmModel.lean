/- asm: what Of computes, in plain Lean. -/
import Derived.Test.YtlhkojnocconfaaDoorQx0
import Derived.Test.YtlhkojnocconfaaDoorQx4
import Derived.Test.YtlhkojnocconfaaDoorAwAll
import Derived.Test.YtlhkojnocconfaaDoorHisaPut
import Derived.Test.YtlhkojnocconfaaDoorHisaRight
--@needs XHisaPut
--@needs XAwMap
--@uses camlet/asm.may
--@uses camlet/asm.goes
import Derived.Lib.Hide
namespace Go.Proofs.YtlhkojnocconfaaDoor.Q
open Go.RowKit Go.Proofs.YtlhkojnocconfaaDoorW.PrintWords Go.Proofs.YtlhkojnocconfaaDoorW.PrintLast Go.Proofs.YtlhkojnocconfaaDoorW.PrintMore
attribute [local go_sem] max2_int min2_int max_two min_two max_three min_three max_four min_four   -- for this text's walks alone
set_option linter.unusedVariables false
set_option linter.unusedSimpArgs false

open Go.Maps
def lch (b : Int) : Prop := (97 ≤ b ∧ b ≤ 122) ∨ (65 ≤ b ∧ b ≤ 90) ∨ (48 ≤ b ∧ b ≤ 57) ∨ b = 95
instance (b : Int) : Decidable (lch b) := by unfold lch; infer_instance
def labelB (s : ByteArray) : Bool := (s.data.toList.all fun c => decide (lch (c.toNat : Int))) && !decide (s.toList = ([] : List UInt8)) && decide ((s.size : Int) ≤ 32)
def mayB (s : ByteArray) : Bool := if s.toList = ([] : List UInt8) then true else labelB s
def goesB (k : Int) : Bool := decide (k = 1 ∨ k = 19 ∨ k = 20 ∨ k = 21 ∨ k = 22)
theorem goes_eq (k : Int) : asm_goes.f k = some (goesB k) := by
  unfold asm_goes.f goesB
  by_cases h1 : k = 1
  · simp [h1]
  by_cases h2 : k = 19
  · simp [h2]
  by_cases h3 : k = 20
  · simp [h3]
  by_cases h4 : k = 21
  · simp [h4]
  simp [h1, h2, h3, h4]
  rfl
theorem asm_bt_at (s : ByteArray) (i : Nat) (h : i < s.data.toList.length) : bt s (i : Int) = ((s.data.toList[i]'h).toNat : Int) := by
  unfold bt
  have h' : i < s.size := by rw [Array.length_toList] at h; exact h
  rw [dif_pos (show (i : Int).toNat < s.size by rw [Int.toNat_natCast]; exact h')]
  rfl
theorem isLabel_go (s : ByteArray) (hs : s.size ≤ 9223372036854775807) : ∀ (d i : Nat), i + d = s.size →
    asm_isLabel.l0 (d + 1) s (s.size : Int) (i : Int) = some (((s.data.toList.drop i).all fun c => decide (lch (c.toNat : Int))) && !decide (s.toList = ([] : List UInt8)) && decide ((s.size : Int) ≤ 32)) := by
  have hl : s.data.toList.length = s.size := Array.length_toList
  intro d
  induction d with
  | zero =>
    intro i hi
    unfold asm_isLabel.l0
    rw [if_neg (by omega), List.drop_eq_nil_of_le (by omega)]
    by_cases h : s.toList = ([] : List UInt8)
    · simp [h]
    · rw [if_neg h]
      simp [h]
  | succ d ih =>
    intro i hi
    unfold asm_isLabel.l0
    have hlt : i < s.data.toList.length := by omega
    have hw : wrap64 ((i : Int) + 1) = ((i + 1 : Nat) : Int) := by unfold wrap64; omega
    rw [if_pos (show (i : Int) < (s.size : Int) by omega), if_pos (show (0 : Int) ≤ i by omega), if_pos (show (i : Int) < (s.size : Int) by omega), hw, ih (i + 1) (by omega), asm_bt_at s i hlt, List.drop_eq_getElem_cons hlt, List.all_cons]
    generalize (s.data.toList[i].toNat : Int) = b
    generalize (((s.data.toList.drop (i + 1)).all fun c => decide (lch (c.toNat : Int)))) = q
    by_cases hc : lch b
    · rw [decide_eq_true hc, Bool.true_and]
      unfold lch at hc
      repeat' split
      all_goals first | rfl | (exfalso; omega)
    · rw [decide_eq_false hc]
      unfold lch at hc
      repeat' split
      all_goals first | rfl | (exfalso; omega)
theorem may_eq (s : ByteArray) (hs : s.size ≤ 9223372036854775807) : asm_may.f (s.size + 1) s = some (mayB s) := by
  unfold asm_may.f mayB
  by_cases h : s.toList = ([] : List UInt8)
  · rw [if_pos h, if_pos h]
  · rw [if_neg h, if_neg h]
    unfold asm_isLabel.f
    have := isLabel_go s hs s.size 0 (by omega)
    rw [show ((0 : Nat) : Int) = 0 from rfl] at this
    rw [this, List.drop_zero]
    rfl
theorem may_calls (s : ByteArray) (hs : s.size ≤ 9223372036854775807) (w : World) : Calls Tryd.prog 34 #[.string s] w fun e w' => e = .returned (.bool (mayB s)) ∧ Drawn0 w w' := asm_may.calls _ s _ w (may_eq s hs)
theorem goes_calls (k : Int) (w : World) : Calls Tryd.prog 35 #[.int .i64 k] w fun e w' => e = .returned (.bool (goesB k)) ∧ Drawn0 w w' := asm_goes.calls k _ w (goes_eq k)
/-- the first line with a label -/
def firstF (l : List S36) : Lit → Option Int
  | .string t => if t = [] then none else (l.findIdx? (fun x => x.f0.data.toList == t)).map (fun n : Nat => (n : Int))
  | _ => none
def skey (s : ByteArray) : Lit := .string s.data.toList
def asmWrong (l : List S36) (i : Nat) (x : S36) : Int :=
  if mayB x.f0 = false ∨ mayB x.f2 = false then 3 else
  if (firstF l (skey x.f0)).isSome = true ∧ (firstF l (skey x.f0)).getD 0 < i then 9 else
  if ¬ x.f2.toList = [] ∧ goesB x.f1.f0 = false then 1 else
  if ¬ x.f2.toList = [] ∧ (firstF l (skey x.f2)).isSome = false then 25 else 0
def asmNum (l : List S36) (i : Nat) (x : S36) : Int :=
  if x.f2.toList = [] then x.f1.f4 else if x.f1.f0 = 1 then 2 * (firstF l (skey x.f2)).getD 0 + 1 else (firstF l (skey x.f2)).getD 0 - i - 1
def asmGo (l : List S36) : List S36 → Nat → List Int → List Int × Int × Int
  | [], _, acc => (acc, 0, 0)
  | x :: r, i, acc => if asmWrong l i x ≠ 0 then ([], i, asmWrong l i x) else
    if isaRight x.f1.f0 x.f1.f1 x.f1.f2 x.f1.f3 (asmNum l i x) = true then asmGo l r (i + 1) (acc ++ [isaPut x.f1.f0 x.f1.f1 x.f1.f2 x.f1.f3 (asmNum l i x)]) else ([], i, 26)
def asmOk (l : List S36) : Prop := ∀ x ∈ l, x.f0.size ≤ 9223372036854775807 ∧ x.f2.size ≤ 9223372036854775807
instance (l : List S36) : Decidable (asmOk l) := by unfold asmOk; infer_instance
theorem toList_nil (s : ByteArray) : s.toList = [] ↔ s.data.toList = [] := by rw [ByteArray.toList_eq]
theorem firstF_nil (l : List S36) : firstF l (.string []) = none := by unfold firstF; exact if_pos rfl
theorem firstF_none : firstF [] = fun _ => none := by
  funext k
  unfold firstF
  split
  · split <;> simp
  · rfl
theorem firstF_lt {l : List S36} {k : Lit} {a : Int} (h : firstF l k = some a) : 0 ≤ a ∧ a < l.length := by
  unfold firstF at h
  split at h
  · split at h
    · cases h
    · rw [Option.map_eq_some_iff] at h
      obtain ⟨n, h1, rfl⟩ := h
      have := (List.findIdx?_eq_some_iff_getElem.1 h1).1
      omega
  · cases h
theorem firstF_keep {l : List S36} {x : S36} (h : x.f0.toList = [] ∨ (firstF l (skey x.f0)).isSome = true) : firstF (l ++ [x]) = firstF l := by
  funext k
  unfold firstF
  split
  · rename_i t
    split
    · rfl
    · rename_i ht
      rw [List.findIdx?_append]
      by_cases e : x.f0.data.toList = t
      · rcases h with h | h
        · rw [toList_nil] at h; exact absurd (e.symm.trans h) ht
        · unfold firstF skey at h
          dsimp only at h
          rw [e, if_neg ht] at h
          cases hf : l.findIdx? (fun x => x.f0.data.toList == t) with
          | none => rw [hf] at h; cases h
          | some n => rfl
      · have : ([x].findIdx? (fun x => x.f0.data.toList == t)) = none := by simp [List.findIdx?_cons, e]
        rw [this]
        simp
  · rfl
theorem firstF_put {l : List S36} {x : S36} (h : ¬ x.f0.toList = []) (h2 : (firstF l (skey x.f0)).isSome = false) : putf (firstF l) (skey x.f0) (l.length : Int) = firstF (l ++ [x]) := by
  rw [toList_nil] at h
  funext k
  unfold putf
  by_cases e : k = skey x.f0
  · subst e
    rw [if_pos rfl]
    unfold firstF skey at h2 ⊢
    dsimp only at h2 ⊢
    rw [if_neg h] at h2 ⊢
    rw [List.findIdx?_append]
    cases hf : l.findIdx? (fun y => y.f0.data.toList == x.f0.data.toList) with
    | some n => rw [hf] at h2; cases h2
    | none => simp [List.findIdx?_cons]
  · rw [if_neg e]
    unfold firstF
    split
    · rename_i t
      split
      · rfl
      · have e2 : ¬ x.f0.data.toList = t := fun h => e (by unfold skey; rw [h])
        have : ([x].findIdx? (fun x => x.f0.data.toList == t)) = none := by simp [List.findIdx?_cons, e2]
        rw [List.findIdx?_append, this]
        simp
    · rfl
end Go.Proofs.YtlhkojnocconfaaDoor.Q
