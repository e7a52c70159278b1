/- Several texts in one: isa.Read, told by lists: a text's words, their numbers, the instruction that they fill. An instruction's text: words and numerals. -/
import Derived.Test.YtcdeekfgdmckmaaDoorQx0
import Derived.Test.YtcdeekfgdmckmaaDoorHisaForms
import Derived.Test.YtcdeekfgdmckmaaDoorHisaOf
import Derived.Test.YtcdeekfgdmckmaaDoorHisaRight
import Derived.Test.YtcdeekfgdmckmaaDoorHisaShow
import Derived.Test.YtcdeekfgdmckmaaDoorHnumRead
import Derived.Lib.ItoaLen
import Derived.Lib.ItoaNum
import Derived.Lib.ItoaMem
--@needs XHisaShow
--@needs XHnumRead
--@uses camlet/num.Read
namespace Go.Proofs.YtcdeekfgdmckmaaDoor.Q
open Go.RowKit Go.Proofs.YtcdeekfgdmckmaaDoorW.PrintWords Go.Proofs.YtcdeekfgdmckmaaDoorW.PrintLast Go.Proofs.YtcdeekfgdmckmaaDoorW.PrintMore
attribute [local go_sem] max2_int min2_int max_two min_two max_three min_three max_four min_four   -- for this text's walks alone
set_option linter.unusedVariables false
set_option linter.unusedSimpArgs false

/-- a text cut at blanks, acc being what the first word has already -/
def splitSp : List UInt8 → List UInt8 → List (List UInt8)
  | acc, [] => [acc]
  | acc, c :: r => if c = 32 then acc :: splitSp [] r else splitSp (acc ++ [c]) r
theorem splitSp_app : ∀ (a acc r : List UInt8), (32 : UInt8) ∉ a → splitSp acc (a ++ r) = splitSp (acc ++ a) r
  | [], acc, r, _ => by simp
  | c :: a, acc, r, h => by
    rw [List.cons_append, splitSp, if_neg (fun e => h (by simp [e])), splitSp_app a _ r (fun hm => h (by simp [hm]))]
    simp
/-- the number of a word, and whether it is one -/
def isaNum (x : List UInt8) : Int × Bool :=
  match x with
  | 45 :: r => match num_Read.f ⟨r.toArray⟩ 1048576 with
    | some (n, e) => (-n, decide (e = 0))
    | none => (0, false)
  | r => match num_Read.f ⟨r.toArray⟩ 1048576 with
    | some (n, e) => (n, decide (e = 0))
    | none => (0, false)
/-- the numbers of words, if all are -/
def isaNums : List (List UInt8) → Option (List Int)
  | [] => some []
  | x :: r => if (isaNum x).2 = true then (isaNums r).map ((isaNum x).1 :: ·) else none
/-- registers filled in order -/
def setRegs : List UInt8 → List Int → Int → Int → Int → Int × Int × Int
  | c :: r, n :: l, D, A, B => if c = 68 then setRegs r l n A B else if c = 65 then setRegs r l D n B else setRegs r l D A n
  | _, _, D, A, B => (D, A, B)
/-- behind the sys number -/
def isaFill2 (k N : Int) (n : List Int) : Option (Int × Int × Int × Int) :=
  if n.length < (isaOf k N).2.1.data.toList.length then none else
    let r := setRegs (isaOf k N).2.1.data.toList n 0 0 0
    some (r.1, r.2.1, r.2.2, if (n.drop (isaOf k N).2.1.data.toList.length).length = 1 ∧ k ≠ 24 then n.getD (isaOf k N).2.1.data.toList.length 0 else N)
/-- the instruction of a kind that has those numbers -/
def isaFill (k : Int) (n : List Int) : Option (Int × Int × Int × Int) :=
  if k = 24 then match n with
    | [] => none
    | x :: r => isaFill2 24 x r
  else isaFill2 k 0 n
/-- the text of an instruction, right or not -/
def isaText (k D A B N : Int) : List UInt8 := if isaRight k D A B N = true then isaShow k D A B N else []
/-- from a kind on, the instruction of words l that is shown as s: g kinds are left -/
def isaReadGo (s : List UInt8) (l : List (List UInt8)) : Nat → Nat → Option (Int × Int × Int × Int × Int)
  | 0, _ => none
  | g + 1, k => if (isaForm k).1.data.toList ≠ l.headD [] then isaReadGo s l g (k + 1) else
    match isaNums (l.drop 1) with
    | none => none
    | some n => match isaFill k n with
      | none => isaReadGo s l g (k + 1)
      | some (D, A, B, N) => if isaText k D A B N = s then some (k, D, A, B, N) else isaReadGo s l g (k + 1)
theorem isaReadGo_shows {s : List UInt8} {l : List (List UInt8)} : ∀ (g k : Nat) {K D A B N : Int}, isaReadGo s l g k = some (K, D, A, B, N) → isaText K D A B N = s
  | 0, k, K, D, A, B, N, h => by simp [isaReadGo] at h
  | g + 1, k, K, D, A, B, N, h => by
    rw [isaReadGo] at h
    split at h
    · exact isaReadGo_shows g _ h
    · split at h
      · cases h
      · split at h
        · exact isaReadGo_shows g _ h
        · rename_i D' A' B' N' _
          split at h
          · rename_i hs
            simp only [Option.some.injEq, Prod.mk.injEq] at h
            obtain ⟨rfl, rfl, rfl, rfl, rfl⟩ := h
            exact hs
          · exact isaReadGo_shows g _ h
theorem isaReadGo_skip {s : List UInt8} {l : List (List UInt8)} : ∀ (d g k : Nat), (∀ j, k ≤ j → j < k + d → (isaForm (j : Int)).1.data.toList ≠ l.headD []) → isaReadGo s l (d + g) k = isaReadGo s l g (k + d)
  | 0, g, k, _ => by rw [Nat.zero_add, Nat.add_zero]
  | d + 1, g, k, h => by
    rw [show d + 1 + g = (d + g) + 1 by omega, isaReadGo, if_pos (h k (Nat.le_refl _) (by omega)), isaReadGo_skip d g (k + 1) (fun j h1 h2 => h j (by omega) (by omega)), show k + 1 + d = k + (d + 1) by omega]
end Go.Proofs.YtcdeekfgdmckmaaDoor.Q

--@needs XHisaShow
namespace Go.Proofs.YtcdeekfgdmckmaaDoor.Q
open Go.RowKit Go.Proofs.YtcdeekfgdmckmaaDoorW.PrintWords Go.Proofs.YtcdeekfgdmckmaaDoorW.PrintLast Go.Proofs.YtcdeekfgdmckmaaDoorW.PrintMore
attribute [local go_sem] max2_int min2_int max_two min_two max_three min_three max_four min_four   -- for this text's walks alone
set_option linter.unusedVariables false
set_option linter.unusedSimpArgs false

theorem decDigits_step (u : Nat) (h : ¬ u < 10) : Lib.decDigits u = Lib.decDigits (u / 10) ++ [UInt8.ofNat (48 + u % 10)] := by
  rw [Lib.decDigits, dif_neg h]
theorem dig_char {d : Nat} (h : d < 10) : (UInt8.ofNat (48 + d)).toNat = 48 + d := by
  rw [UInt8.toNat_ofNat']; omega
theorem dec_chars (u : Nat) : (∀ c ∈ Lib.decDigits u, 48 ≤ c.toNat ∧ c.toNat ≤ 57) ∧ Lib.decDigits u ≠ [] := by
  induction u using Nat.strongRecOn with
  | _ u ih =>
    by_cases h : u < 10
    · rw [Lib.decDigits_one h]
      refine ⟨fun c hc => ?_, by simp⟩
      obtain rfl := List.mem_singleton.1 hc
      rw [dig_char h]; omega
    · rw [decDigits_step u h]
      refine ⟨fun c hc => ?_, by simp⟩
      rcases List.mem_append.1 hc with hc | hc
      · exact (ih (u / 10) (by omega)).1 c hc
      · obtain rfl := List.mem_singleton.1 hc
        rw [dig_char (by omega)]; omega
theorem itoa_form (x : Int) : (∃ u : Nat, x = (u : Int) ∧ Lib.itoa x = Lib.decDigits u) ∨ (∃ u : Nat, 1 ≤ u ∧ x = -(u : Int) ∧ Lib.itoa x = 45 :: Lib.decDigits u) := by
  by_cases h : x < 0
  · exact .inr ⟨x.natAbs, by omega, by omega, by rw [show x = -((x.natAbs : Nat) : Int) by omega, Lib.itoa_neg _ (by omega)]; congr 2; omega⟩
  · exact .inl ⟨x.toNat, by omega, by rw [show x = ((x.toNat : Nat) : Int) by omega, Lib.itoa_nonneg]; congr 1⟩
theorem itoa_no_space (x : Int) : (32 : UInt8) ∉ Lib.itoa x := by
  intro h
  rcases itoa_form x with ⟨u, _, e⟩ | ⟨u, _, _, e⟩
  · rw [e] at h
    exact absurd ((dec_chars u).1 _ h).1 (by decide)
  · rw [e] at h
    rcases List.mem_cons.1 h with h | h
    · exact absurd h (by decide)
    · exact absurd ((dec_chars u).1 _ h).1 (by decide)
theorem names_no_space : isaForms.all (fun x => !x.1.data.toList.contains 32) = true := by decide
theorem names_apart : ∀ i j : Fin 25, (isaForms.getD i.val (⟨#[]⟩, ⟨#[]⟩, 0, 0)).1.data.toList = (isaForms.getD j.val (⟨#[]⟩, ⟨#[]⟩, 0, 0)).1.data.toList → i = j := by decide
theorem of_name (k N : Int) : (isaOf k N).1 = (isaForm k).1 := by
  unfold isaOf; split <;> rfl
theorem isaRight_out2 (k D A B N : Int) (h : k < 0 ∨ 24 < k) : isaRight k D A B N = false := by
  have e : isaOf k N = (⟨#[]⟩, ⟨#[]⟩, 0, 0) := by
    unfold isaOf isaForm
    rw [if_neg (by omega), if_neg (by omega)]
  unfold isaRight
  rw [e, if_pos (.inl rfl)]
theorem right_kind {k D A B N : Int} (hr : isaRight k D A B N = true) : ∃ kk : Nat, k = (kk : Int) ∧ kk < 25 := by
  have hk : ¬ (k < 0 ∨ 24 < k) := fun h => by rw [isaRight_out2 _ _ _ _ _ h] at hr; cases hr
  exact ⟨k.toNat, by omega, by omega⟩
theorem form_name (kk : Nat) (h : kk < 25) : (isaForm (kk : Int)).1 = (isaForms.getD kk (⟨#[]⟩, ⟨#[]⟩, 0, 0)).1 := by
  unfold isaForm
  rw [if_pos (by omega), Int.toNat_natCast]
theorem name_no_space (kk : Nat) (h : kk < 25) : (32 : UInt8) ∉ (isaForm (kk : Int)).1.data.toList := by
  have hl : kk < isaForms.length := h
  have := List.all_eq_true.1 names_no_space _ (List.getElem_mem hl)
  rw [form_name kk h, List.getD_eq_getElem?_getD, List.getElem?_eq_getElem hl]
  intro hm
  simp only [Bool.not_eq_true', List.contains_eq_mem, decide_eq_false_iff_not] at this
  exact this hm
theorem name_inj (i j : Nat) (hi : i < 25) (hj : j < 25) (h : (isaForm (i : Int)).1.data.toList = (isaForm (j : Int)).1.data.toList) : i = j := by
  rw [form_name i hi, form_name j hj] at h
  have := names_apart ⟨i, hi⟩ ⟨j, hj⟩ h
  exact congrArg Fin.val this
end Go.Proofs.YtcdeekfgdmckmaaDoor.Q
