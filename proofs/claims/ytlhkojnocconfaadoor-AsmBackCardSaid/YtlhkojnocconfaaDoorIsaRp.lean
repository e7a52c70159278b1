/- Several texts in one: isa.Read, told by lists: a text's words, their numbers, the instruction that they fill. Decimal numerals, told by lists. An instruction's text: words and numerals. isa.Read, told by lists: what is shown is read. -/
import Derived.Test.YtlhkojnocconfaaDoorQx0
import Derived.Test.YtlhkojnocconfaaDoorHisaForms
import Derived.Test.YtlhkojnocconfaaDoorHisaOf
import Derived.Test.YtlhkojnocconfaaDoorHisaRight
import Derived.Test.YtlhkojnocconfaaDoorHisaShow
import Derived.Test.YtlhkojnocconfaaDoorHnumRead
import Derived.Lib.AtoiAll
import Derived.Lib.ItoaLen
import Derived.Lib.ItoaNum
import Derived.Lib.ItoaMem
import Derived.Test.YtlhkojnocconfaaDoorHisaPut
import Derived.Test.YtlhkojnocconfaaDoorHisaThings
--@needs XHisaShow
--@needs XHnumRead
--@uses camlet/num.Read
namespace Go.Proofs.YtlhkojnocconfaaDoor.Q
open Go.RowKit Go.Proofs.YtlhkojnocconfaaDoorW.PrintWords Go.Proofs.YtlhkojnocconfaaDoorW.PrintLast Go.Proofs.YtlhkojnocconfaaDoorW.PrintMore
attribute [local go_sem] max2_int min2_int max_two min_two max_three min_three max_four min_four   -- for this text's walks alone
set_option linter.unusedVariables false
set_option linter.unusedSimpArgs false

/-- a text cut at blanks, acc being what the first word has already -/
def splitSp : List UInt8 → List UInt8 → List (List UInt8)
  | acc, [] => [acc]
  | acc, c :: r => if c = 32 then acc :: splitSp [] r else splitSp (acc ++ [c]) r
theorem splitSp_app : ∀ (a acc r : List UInt8), (32 : UInt8) ∉ a → splitSp acc (a ++ r) = splitSp (acc ++ a) r
  | [], acc, r, _ => by simp
  | c :: a, acc, r, h => by
    rw [List.cons_append, splitSp, if_neg (fun e => h (by simp [e])), splitSp_app a _ r (fun hm => h (by simp [hm]))]
    simp
/-- the number of a word, and whether it is one -/
def isaNum (x : List UInt8) : Int × Bool :=
  match x with
  | 45 :: r => match num_Read.f ⟨r.toArray⟩ 1048576 with
    | some (n, e) => (-n, decide (e = 0))
    | none => (0, false)
  | r => match num_Read.f ⟨r.toArray⟩ 1048576 with
    | some (n, e) => (n, decide (e = 0))
    | none => (0, false)
/-- the numbers of words, if all are -/
def isaNums : List (List UInt8) → Option (List Int)
  | [] => some []
  | x :: r => if (isaNum x).2 = true then (isaNums r).map ((isaNum x).1 :: ·) else none
/-- registers filled in order -/
def setRegs : List UInt8 → List Int → Int → Int → Int → Int × Int × Int
  | c :: r, n :: l, D, A, B => if c = 68 then setRegs r l n A B else if c = 65 then setRegs r l D n B else setRegs r l D A n
  | _, _, D, A, B => (D, A, B)
/-- behind the sys number -/
def isaFill2 (k N : Int) (n : List Int) : Option (Int × Int × Int × Int) :=
  if n.length < (isaOf k N).2.1.data.toList.length then none else
    let r := setRegs (isaOf k N).2.1.data.toList n 0 0 0
    some (r.1, r.2.1, r.2.2, if (n.drop (isaOf k N).2.1.data.toList.length).length = 1 ∧ k ≠ 24 then n.getD (isaOf k N).2.1.data.toList.length 0 else N)
/-- the instruction of a kind that has those numbers -/
def isaFill (k : Int) (n : List Int) : Option (Int × Int × Int × Int) :=
  if k = 24 then match n with
    | [] => none
    | x :: r => isaFill2 24 x r
  else isaFill2 k 0 n
/-- the text of an instruction, right or not -/
def isaText (k D A B N : Int) : List UInt8 := if isaRight k D A B N = true then isaShow k D A B N else []
/-- from a kind on, the instruction of words l that is shown as s: g kinds are left -/
def isaReadGo (s : List UInt8) (l : List (List UInt8)) : Nat → Nat → Option (Int × Int × Int × Int × Int)
  | 0, _ => none
  | g + 1, k => if (isaForm k).1.data.toList ≠ l.headD [] then isaReadGo s l g (k + 1) else
    match isaNums (l.drop 1) with
    | none => none
    | some n => match isaFill k n with
      | none => isaReadGo s l g (k + 1)
      | some (D, A, B, N) => if isaText k D A B N = s then some (k, D, A, B, N) else isaReadGo s l g (k + 1)
theorem isaReadGo_shows {s : List UInt8} {l : List (List UInt8)} : ∀ (g k : Nat) {K D A B N : Int}, isaReadGo s l g k = some (K, D, A, B, N) → isaText K D A B N = s
  | 0, k, K, D, A, B, N, h => by simp [isaReadGo] at h
  | g + 1, k, K, D, A, B, N, h => by
    rw [isaReadGo] at h
    split at h
    · exact isaReadGo_shows g _ h
    · split at h
      · cases h
      · split at h
        · exact isaReadGo_shows g _ h
        · rename_i D' A' B' N' _
          split at h
          · rename_i hs
            simp only [Option.some.injEq, Prod.mk.injEq] at h
            obtain ⟨rfl, rfl, rfl, rfl, rfl⟩ := h
            exact hs
          · exact isaReadGo_shows g _ h
theorem isaReadGo_skip {s : List UInt8} {l : List (List UInt8)} : ∀ (d g k : Nat), (∀ j, k ≤ j → j < k + d → (isaForm (j : Int)).1.data.toList ≠ l.headD []) → isaReadGo s l (d + g) k = isaReadGo s l g (k + d)
  | 0, g, k, _ => by rw [Nat.zero_add, Nat.add_zero]
  | d + 1, g, k, h => by
    rw [show d + 1 + g = (d + g) + 1 by omega, isaReadGo, if_pos (h k (Nat.le_refl _) (by omega)), isaReadGo_skip d g (k + 1) (fun j h1 h2 => h j (by omega) (by omega)), show k + 1 + d = k + (d + 1) by omega]
end Go.Proofs.YtlhkojnocconfaaDoor.Q

--@needs XHnumRead
namespace Go.Proofs.YtlhkojnocconfaaDoor.Q
open Go.RowKit Go.Proofs.YtlhkojnocconfaaDoorW.PrintWords Go.Proofs.YtlhkojnocconfaaDoorW.PrintLast Go.Proofs.YtlhkojnocconfaaDoorW.PrintMore
attribute [local go_sem] max2_int min2_int max_two min_two max_three min_three max_four min_four   -- for this text's walks alone
set_option linter.unusedVariables false
set_option linter.unusedSimpArgs false

/-- the number that digits spell, behind a number -/
def dstep (a : Nat) (c : UInt8) : Nat := a * 10 + (c.toNat - 48)
def decVal (a : Nat) (l : List UInt8) : Nat := l.foldl dstep a
theorem decVal_nil (a : Nat) : decVal a [] = a := by unfold decVal; exact List.foldl_nil
theorem decVal_cons (a : Nat) (c : UInt8) (r : List UInt8) : decVal a (c :: r) = decVal (dstep a c) r := by unfold decVal; exact List.foldl_cons ..
theorem dstep_is (a : Nat) (c : UInt8) : dstep a c = a * 10 + (c.toNat - 48) := by unfold dstep; exact Eq.refl _
theorem dstep_le (a : Nat) (c : UInt8) : a ≤ dstep a c := by rw [dstep_is]; generalize c.toNat = n; omega
attribute [local irreducible] decVal dstep
theorem decVal_le (l : List UInt8) : ∀ acc, acc ≤ decVal acc l := by
  induction l with
  | nil => intro acc; rw [decVal_nil]; exact Nat.le_refl _
  | cons c r ih => intro acc; rw [decVal_cons]; exact Nat.le_trans (dstep_le acc c) (ih _)
theorem decVal_append (l r : List UInt8) : ∀ acc, decVal acc (l ++ r) = decVal (decVal acc l) r := by
  induction l with
  | nil => intro acc; rw [decVal_nil, List.nil_append]
  | cons c l ih => intro acc; rw [List.cons_append, decVal_cons, decVal_cons]; exact ih _
def digL (l : List UInt8) : Prop := ∀ c ∈ l, 48 ≤ c.toNat ∧ c.toNat ≤ 57
theorem parse_dig (l : List UInt8) : ∀ acc, acc < 18446744073709551616 → digL l → (decVal acc l < 18446744073709551616 → Lib.parseUint10 acc l = .ok (decVal acc l)) ∧ (18446744073709551616 ≤ decVal acc l → Lib.parseUint10 acc l = .range) := by
  induction l with
  | nil =>
    intro acc h _
    rw [decVal_nil]
    exact ⟨fun _ => by rw [Lib.parseUint10], fun h2 => by omega⟩
  | cons c r ih =>
    intro acc ha hd
    have hc := hd c (by simp)
    have hr : digL r := fun x hx => hd x (by simp [hx])
    have hle := decVal_le r (dstep acc c)
    have hst := dstep_is acc c
    rw [decVal_cons, Lib.parseUint10, if_pos hc, ← hst]
    clear hd
    generalize dstep acc c = e at hle hst ⊢
    have ih2 := ih e
    clear ih
    generalize decVal e r = v at hle ih2 ⊢
    generalize c.toNat = n at hc hst
    by_cases h1 : 1844674407370955162 ≤ acc
    · rw [if_pos h1]
      exact ⟨fun h2 => by omega, fun _ => rfl⟩
    · rw [if_neg h1]
      by_cases h2 : 18446744073709551616 ≤ e
      · rw [if_pos h2]
        exact ⟨fun h2 => by omega, fun _ => rfl⟩
      · rw [if_neg h2]
        exact ih2 (by omega) hr
theorem atoi_dig (l : List UInt8) (hne : l ≠ []) (hd : digL l) : (decVal 0 l < 9223372036854775808 → Lib.atoiAll l = .ok (decVal 0 l : Int)) ∧ (9223372036854775808 ≤ decVal 0 l → Lib.atoiAll l = .range) := by
  cases l with
  | nil => exact absurd rfl hne
  | cons c r =>
    have hc := hd c (by simp)
    have h43 : ¬ (c.toNat = 43 ∨ c.toNat = 45) := by omega
    have h45 : ¬ c.toNat = 45 := by omega
    obtain ⟨p1, p2⟩ := parse_dig (c :: r) 0 (by omega) hd
    have e : Lib.parseMag (if c.toNat = 43 ∨ c.toNat = 45 then r else c :: r) = Lib.parseUint10 0 (c :: r) := by
      rw [if_neg h43]
      unfold Lib.parseMag
      rw [if_neg (by simp)]
    generalize hv : decVal 0 (c :: r) = v at *
    constructor
    · intro h
      simp only [Lib.atoiAll, e, p1 (by omega)]
      rw [if_neg (by omega), if_neg (by omega), if_neg h45]
    · intro h
      by_cases h2 : v < 18446744073709551616
      · simp only [Lib.atoiAll, e, p1 h2]
        rw [if_pos ⟨h45, h⟩]
      · simp only [Lib.atoiAll, e, p2 (by omega)]
theorem readEnd_dig (l : List UInt8) (hne : l ≠ []) (hd : digL l) (m : Int) (hm : m ≤ 9223372036854775807) : readEnd (Lib.atoiAll l) m = if m < (decVal 0 l : Int) then (0, 2) else ((decVal 0 l : Int), 0) := by
  obtain ⟨p1, p2⟩ := atoi_dig l hne hd
  generalize decVal 0 l = v at *
  by_cases h : v < 9223372036854775808
  · rw [p1 h]; rfl
  · rw [p2 (by omega), if_pos (by omega)]; rfl
theorem data_len (s : ByteArray) : s.data.toList.length = s.size := by rw [Array.length_toList]; rfl
theorem bt_data (s : ByteArray) (i : Nat) (h : i < s.size) : bt s (i : Int) = ((s.data.toList[i]'(by rw [data_len]; exact h)).toNat : Int) := by
  unfold bt
  have h2 : (i : Int).toNat < s.size := by simpa using h
  rw [dif_pos h2]
  rfl
theorem dig_data (s : ByteArray) (h : allDig s) : digL s.data.toList := by
  intro c hc
  obtain ⟨i, hi, rfl⟩ := List.getElem_of_mem hc
  have hi2 : i < s.size := by rw [← data_len]; exact hi
  have := h i hi2
  rw [bt_data s i hi2] at this
  omega
/-- digits of a number spell it -/
theorem dec_val (u : Nat) : decVal 0 (Lib.decDigits u) = u ∧ digL (Lib.decDigits u) ∧ (Lib.decDigits u ≠ []) ∧ (10 ≤ u → (Lib.decDigits u).head? ≠ some 48) := by
  have hch : ∀ d : Nat, d < 10 → (UInt8.ofNat (48 + d)).toNat = 48 + d := by intro d hd; simp [UInt8.toNat_ofNat]; omega
  induction u using Nat.strongRecOn with
  | _ u ih =>
    rw [Lib.decDigits]
    by_cases h : u < 10
    · rw [dif_pos h]
      refine ⟨?_, ?_, by simp, fun h2 => by omega⟩
      · rw [decVal_cons, decVal_nil, dstep_is, hch u h]; omega
      · intro c hc
        rw [List.mem_singleton.mp hc, hch u h]
        omega
    · rw [dif_neg h]
      obtain ⟨h1, h2, h3, h4⟩ := ih (u / 10) (by omega)
      refine ⟨?_, ?_, by simp, fun _ => ?_⟩
      · rw [decVal_append, h1, decVal_cons, decVal_nil, dstep_is, hch (u % 10) (by omega)]
        omega
      · intro c hc
        rcases List.mem_append.mp hc with hc | hc
        · exact h2 c hc
        · rw [List.mem_singleton.mp hc, hch (u % 10) (by omega)]
          omega
      · cases hl : Lib.decDigits (u / 10) with
        | nil => exact absurd hl h3
        | cons c r =>
          simp only [List.cons_append, List.head?_cons]
          by_cases h5 : 10 ≤ u / 10
          · have := h4 h5
            rw [hl] at this
            simpa using this
          · have h6 : Lib.decDigits (u / 10) = [UInt8.ofNat (48 + u / 10)] := by rw [Lib.decDigits, dif_pos (by omega)]
            rw [h6] at hl
            injection hl with hl1 _
            rw [← hl1]
            intro e
            have := congrArg UInt8.toNat (Option.some.inj e)
            rw [hch (u / 10) (by omega)] at this
            have e48 : (48 : UInt8).toNat = 48 := rfl
            omega
end Go.Proofs.YtlhkojnocconfaaDoor.Q

--@needs XHisaShow
namespace Go.Proofs.YtlhkojnocconfaaDoor.Q
open Go.RowKit Go.Proofs.YtlhkojnocconfaaDoorW.PrintWords Go.Proofs.YtlhkojnocconfaaDoorW.PrintLast Go.Proofs.YtlhkojnocconfaaDoorW.PrintMore
attribute [local go_sem] max2_int min2_int max_two min_two max_three min_three max_four min_four   -- for this text's walks alone
set_option linter.unusedVariables false
set_option linter.unusedSimpArgs false

theorem decDigits_step (u : Nat) (h : ¬ u < 10) : Lib.decDigits u = Lib.decDigits (u / 10) ++ [UInt8.ofNat (48 + u % 10)] := by
  rw [Lib.decDigits, dif_neg h]
theorem dig_char {d : Nat} (h : d < 10) : (UInt8.ofNat (48 + d)).toNat = 48 + d := by
  rw [UInt8.toNat_ofNat']; omega
theorem dec_chars (u : Nat) : (∀ c ∈ Lib.decDigits u, 48 ≤ c.toNat ∧ c.toNat ≤ 57) ∧ Lib.decDigits u ≠ [] := by
  induction u using Nat.strongRecOn with
  | _ u ih =>
    by_cases h : u < 10
    · rw [Lib.decDigits_one h]
      refine ⟨fun c hc => ?_, by simp⟩
      obtain rfl := List.mem_singleton.1 hc
      rw [dig_char h]; omega
    · rw [decDigits_step u h]
      refine ⟨fun c hc => ?_, by simp⟩
      rcases List.mem_append.1 hc with hc | hc
      · exact (ih (u / 10) (by omega)).1 c hc
      · obtain rfl := List.mem_singleton.1 hc
        rw [dig_char (by omega)]; omega
theorem itoa_form (x : Int) : (∃ u : Nat, x = (u : Int) ∧ Lib.itoa x = Lib.decDigits u) ∨ (∃ u : Nat, 1 ≤ u ∧ x = -(u : Int) ∧ Lib.itoa x = 45 :: Lib.decDigits u) := by
  by_cases h : x < 0
  · exact .inr ⟨x.natAbs, by omega, by omega, by rw [show x = -((x.natAbs : Nat) : Int) by omega, Lib.itoa_neg _ (by omega)]; congr 2; omega⟩
  · exact .inl ⟨x.toNat, by omega, by rw [show x = ((x.toNat : Nat) : Int) by omega, Lib.itoa_nonneg]; congr 1⟩
theorem itoa_no_space (x : Int) : (32 : UInt8) ∉ Lib.itoa x := by
  intro h
  rcases itoa_form x with ⟨u, _, e⟩ | ⟨u, _, _, e⟩
  · rw [e] at h
    exact absurd ((dec_chars u).1 _ h).1 (by decide)
  · rw [e] at h
    rcases List.mem_cons.1 h with h | h
    · exact absurd h (by decide)
    · exact absurd ((dec_chars u).1 _ h).1 (by decide)
theorem names_no_space : isaForms.all (fun x => !x.1.data.toList.contains 32) = true := by decide
theorem names_apart : ∀ i j : Fin 25, (isaForms.getD i.val (⟨#[]⟩, ⟨#[]⟩, 0, 0)).1.data.toList = (isaForms.getD j.val (⟨#[]⟩, ⟨#[]⟩, 0, 0)).1.data.toList → i = j := by decide
theorem of_name (k N : Int) : (isaOf k N).1 = (isaForm k).1 := by
  unfold isaOf; split <;> rfl
theorem isaRight_out2 (k D A B N : Int) (h : k < 0 ∨ 24 < k) : isaRight k D A B N = false := by
  have e : isaOf k N = (⟨#[]⟩, ⟨#[]⟩, 0, 0) := by
    unfold isaOf isaForm
    rw [if_neg (by omega), if_neg (by omega)]
  unfold isaRight
  rw [e, if_pos (.inl rfl)]
theorem right_kind {k D A B N : Int} (hr : isaRight k D A B N = true) : ∃ kk : Nat, k = (kk : Int) ∧ kk < 25 := by
  have hk : ¬ (k < 0 ∨ 24 < k) := fun h => by rw [isaRight_out2 _ _ _ _ _ h] at hr; cases hr
  exact ⟨k.toNat, by omega, by omega⟩
theorem form_name (kk : Nat) (h : kk < 25) : (isaForm (kk : Int)).1 = (isaForms.getD kk (⟨#[]⟩, ⟨#[]⟩, 0, 0)).1 := by
  unfold isaForm
  rw [if_pos (by omega), Int.toNat_natCast]
theorem name_no_space (kk : Nat) (h : kk < 25) : (32 : UInt8) ∉ (isaForm (kk : Int)).1.data.toList := by
  have hl : kk < isaForms.length := h
  have := List.all_eq_true.1 names_no_space _ (List.getElem_mem hl)
  rw [form_name kk h, List.getD_eq_getElem?_getD, List.getElem?_eq_getElem hl]
  intro hm
  simp only [Bool.not_eq_true', List.contains_eq_mem, decide_eq_false_iff_not] at this
  exact this hm
theorem name_inj (i j : Nat) (hi : i < 25) (hj : j < 25) (h : (isaForm (i : Int)).1.data.toList = (isaForm (j : Int)).1.data.toList) : i = j := by
  rw [form_name i hi, form_name j hj] at h
  have := names_apart ⟨i, hi⟩ ⟨j, hj⟩ h
  exact congrArg Fin.val this
end Go.Proofs.YtlhkojnocconfaaDoor.Q

--@needs XIsaReadM
--@needs XReadDec
--@needs XIsaWord
namespace Go.Proofs.YtlhkojnocconfaaDoor.Q
open Go.RowKit Go.Proofs.YtlhkojnocconfaaDoorW.PrintWords Go.Proofs.YtlhkojnocconfaaDoorW.PrintLast Go.Proofs.YtlhkojnocconfaaDoorW.PrintMore
attribute [local go_sem] max2_int min2_int max_two min_two max_three min_three max_four min_four   -- for this text's walks alone
set_option linter.unusedVariables false
set_option linter.unusedSimpArgs false

theorem ip_size (l : List UInt8) : (⟨l.toArray⟩ : ByteArray).size = l.length := by
  show l.toArray.size = _
  simp
theorem ip_bt (l : List UInt8) (i : Nat) (h : i < l.length) : bt ⟨l.toArray⟩ (i : Int) = ((l[i]'h).toNat : Int) := by
  rw [bt_data _ i (by rw [ip_size]; exact h)]
theorem ip_read (u : Nat) (m : Int) (hu : (u : Int) ≤ m) (hm : m ≤ 9223372036854775807) : num_Read.f ⟨(Lib.decDigits u).toArray⟩ m = some ((u : Int), 0) := by
  obtain ⟨h1, h2, h3, h4⟩ := dec_val u
  have hl : (Lib.decDigits u).length ≤ 21 := by rw [← Lib.itoa_nonneg]; exact Lib.itoa_length_le _ (by omega) (by omega)
  have hlen : (Lib.decDigits u).length ≠ 0 := fun e => h3 (List.length_eq_zero_iff.mp e)
  have hlt : ¬ 10 ≤ u → (Lib.decDigits u).length = 1 := by
    intro h
    rw [Lib.decDigits, dif_pos (by omega)]
    rfl
  generalize Lib.decDigits u = l at *
  unfold num_Read.f
  rw [if_pos (by rw [ip_size]; omega), if_neg (by rw [ip_size]; omega), if_neg, if_pos, readEnd_dig l h3 h2 _ hm, h1, if_neg (by omega)]
  · intro i hi
    rw [ip_size] at hi
    have hb := ip_bt l i hi
    rw [hb]
    have := h2 l[i] (List.getElem_mem hi)
    clear hb
    omega
  · rw [ip_size]
    intro ⟨hs, hb⟩
    have h10 : 10 ≤ u := by
      by_cases h : 10 ≤ u
      · exact h
      · have := hlt h; omega
    have h5 := h4 h10
    have hb2 := ip_bt l 0 (by omega)
    rw [show (((0 : Nat) : Int)) = 0 from rfl, hb] at hb2
    cases l with
    | nil => exact h3 rfl
    | cons c r =>
      apply h5
      have hc : c.toNat = 48 := by
        have : (48 : Int) = (c.toNat : Int) := hb2
        omega
      show some c = some 48
      congr 1
      exact UInt8.toNat.inj (by rw [hc]; rfl)
theorem isaNum_itoa (x : Int) (h : -1048576 ≤ x ∧ x ≤ 1048576) : isaNum (Lib.itoa x) = (x, true) := by
  rcases itoa_form x with ⟨u, rfl, e⟩ | ⟨u, h1, rfl, e⟩
  · rw [e]
    have hr := ip_read u 1048576 (by omega) (by decide)
    obtain ⟨hc, hne⟩ := dec_chars u
    generalize Lib.decDigits u = l at *
    cases l with
    | nil => exact absurd rfl hne
    | cons c r =>
      have h45 : c ≠ 45 := by
        rintro rfl
        have := hc 45 (by simp)
        simp at this
      unfold isaNum
      split
      · rename_i heq; injection heq with e1 _; exact absurd e1 h45
      · rw [hr]; rfl
  · rw [e]
    have hr := ip_read u 1048576 (by omega) (by decide)
    show (match num_Read.f ⟨(Lib.decDigits u).toArray⟩ 1048576 with
      | some (n, e) => (-n, decide (e = 0))
      | none => (0, false)) = _
    rw [hr]; rfl
theorem isaNums_itoa : ∀ (l : List Int), (∀ x ∈ l, -1048576 ≤ x ∧ x ≤ 1048575) → isaNums (l.map Lib.itoa) = some l
  | [], _ => rfl
  | x :: l, h => by
    have hx := h x (by simp)
    rw [List.map_cons, isaNums, isaNum_itoa x (by omega), if_pos rfl, isaNums_itoa l (fun y hy => h y (by simp [hy]))]
    rfl
theorem splitSp_words : ∀ (l : List Int) (acc : List UInt8), splitSp acc (showWords l) = acc :: l.map Lib.itoa
  | [], acc => by simp [showWords, splitSp]
  | x :: l, acc => by
    have e : showWords (x :: l) = 32 :: (Lib.itoa x ++ showWords l) := by simp [showWords]
    rw [e, splitSp, if_pos rfl, splitSp_app _ _ _ (itoa_no_space x), splitSp_words l]
    simp
theorem splitSp_show {k D A B N : Int} (hr : isaRight k D A B N = true) : splitSp [] (isaShow k D A B N) = (isaForm k).1.data.toList :: (isaThings k D A B N).map Lib.itoa := by
  obtain ⟨kk, rfl, hk⟩ := right_kind hr
  unfold isaShow
  rw [of_name, splitSp_app _ _ _ (name_no_space kk hk), splitSp_words]
  simp
theorem setRegs_vals : ∀ (l : List UInt8) (D A B d a b : Int) (ex : List Int), l.all regOk = true → setRegs l (regVals D A B l ++ ex) d a b = (if 68 ∈ l then D else d, if 65 ∈ l then A else a, if 66 ∈ l then B else b)
  | [], D, A, B, d, a, b, ex, _ => by cases ex <;> simp [regVals, setRegs]
  | c :: l, D, A, B, d, a, b, ex, h => by
    have hl : l.all regOk = true := by rw [List.all_cons, Bool.and_eq_true] at h; exact h.2
    have hc : c = 65 ∨ c = 66 ∨ c = 68 := by
      rw [List.all_cons, Bool.and_eq_true] at h
      have := h.1
      unfold regOk at this
      simp only [Bool.or_eq_true, beq_iff_eq] at this
      rcases this with (h | h) | h <;> simp [h]
    have e : regVals D A B (c :: l) = regVal c D A B :: regVals D A B l := rfl
    rw [e, List.cons_append, setRegs]
    rcases hc with rfl | rfl | rfl
    · rw [if_neg (by decide), if_pos rfl, setRegs_vals l D A B d _ b ex hl]
      by_cases h1 : (65 : UInt8) ∈ l <;> simp [h1, regVal]
    · rw [if_neg (by decide), if_neg (by decide), setRegs_vals l D A B d a _ ex hl]
      by_cases h1 : (66 : UInt8) ∈ l <;> simp [h1, regVal]
    · rw [if_pos rfl, setRegs_vals l D A B _ a b ex hl]
      by_cases h1 : (68 : UInt8) ∈ l <;> simp [h1, regVal]
theorem rightGo_zero : ∀ (l : List UInt8) (D A B : Int), l.all regOk = true → rightGo l D A B = true → (68 ∉ l → D = 0) ∧ (65 ∉ l → A = 0) ∧ (66 ∉ l → B = 0)
  | [], D, A, B, _, h => by
    simp only [rightGo, Bool.and_eq_true, beq_iff_eq] at h
    exact ⟨fun _ => h.1.1, fun _ => h.1.2, fun _ => h.2⟩
  | c :: l, D, A, B, ho, h => by
    have hl : l.all regOk = true := by rw [List.all_cons, Bool.and_eq_true] at ho; exact ho.2
    have hc : c = 65 ∨ c = 66 ∨ c = 68 := by
      rw [List.all_cons, Bool.and_eq_true] at ho
      have := ho.1
      unfold regOk at this
      simp only [Bool.or_eq_true, beq_iff_eq] at this
      rcases this with (h | h) | h <;> simp [h]
    rw [rightGo] at h
    rcases hc with rfl | rfl | rfl
    · rw [if_neg (by decide), if_pos rfl] at h
      split at h
      · cases h
      · have ih := rightGo_zero l _ _ _ hl h
        exact ⟨fun h1 => ih.1 (fun h2 => h1 (by simp [h2])), fun h1 => absurd (List.mem_cons_self) h1, fun h1 => ih.2.2 (fun h2 => h1 (by simp [h2]))⟩
    · rw [if_neg (by decide), if_neg (by decide)] at h
      split at h
      · cases h
      · have ih := rightGo_zero l _ _ _ hl h
        exact ⟨fun h1 => ih.1 (fun h2 => h1 (by simp [h2])), fun h1 => ih.2.1 (fun h2 => h1 (by simp [h2])), fun h1 => absurd (List.mem_cons_self) h1⟩
    · rw [if_pos rfl] at h
      split at h
      · cases h
      · have ih := rightGo_zero l _ _ _ hl h
        exact ⟨fun h1 => absurd (List.mem_cons_self) h1, fun h1 => ih.2.1 (fun h2 => h1 (by simp [h2])), fun h1 => ih.2.2 (fun h2 => h1 (by simp [h2]))⟩
theorem setRegs_right {l : List UInt8} {D A B : Int} (ex : List Int) (ho : l.all regOk = true) (h : rightGo l D A B = true) : setRegs l (regVals D A B l ++ ex) 0 0 0 = (D, A, B) := by
  obtain ⟨h1, h2, h3⟩ := rightGo_zero l D A B ho h
  rw [setRegs_vals l D A B 0 0 0 ex ho]
  by_cases e1 : (68 : UInt8) ∈ l <;> by_cases e2 : (65 : UInt8) ∈ l <;> by_cases e3 : (66 : UInt8) ∈ l <;> simp [e1, e2, e3, h1, h2, h3]
theorem forms_zero : isaForms.all (fun x => decide (0 < x.2.2.2) || (decide (x.2.2.1 = 0) && decide (x.2.2.2 = 0))) = true := by decide
theorem form_zeroN (k : Int) (h : ¬ 0 < (isaForm k).2.2.2) : (isaForm k).2.2.1 = 0 ∧ (isaForm k).2.2.2 = 0 := by
  unfold isaForm at h ⊢
  split
  · rename_i hk
    rw [if_pos hk] at h
    have hl : k.toNat < isaForms.length := by have : isaForms.length = 25 := rfl; omega
    have := List.all_eq_true.1 forms_zero _ (List.getElem_mem hl)
    rw [List.getD_eq_getElem?_getD, List.getElem?_eq_getElem hl] at h ⊢
    simp only [Bool.or_eq_true, Bool.and_eq_true, decide_eq_true_eq] at this
    simp only [Option.getD_some] at h ⊢
    rcases this with h1 | h1
    · exact absurd h1 h
    · exact h1
  · exact ⟨rfl, rfl⟩
theorem isaFill_things {k D A B N : Int} (hr : isaRight k D A B N = true) : isaFill k (isaThings k D A B N) = some (D, A, B, N) := by
  obtain ⟨h1, h2, h3, h4⟩ := right_parts hr
  have ho := (of_regs k N).1
  unfold isaThings isaFill
  by_cases h24 : k = 24
  · subst h24
    rw [if_pos rfl, if_pos rfl]
    show isaFill2 24 N (regVals D A B (isaOf 24 N).2.1.data.toList) = _
    have hs := setRegs_right [] ho h4
    rw [List.append_nil] at hs
    unfold isaFill2
    have hl : (regVals D A B (isaOf 24 N).2.1.data.toList).length = (isaOf 24 N).2.1.data.toList.length := by simp [regVals]
    generalize (isaOf 24 N).2.1.data.toList = l at hs hl ⊢
    rw [if_neg (by rw [hl]; omega), hs]
    simp only [List.length_drop, hl]
    rw [if_neg (fun h => h.2 rfl)]
  · have e0 : isaOf k 0 = isaForm k := by unfold isaOf; rw [if_neg (fun h => h24 h.1)]
    have eN : isaOf k N = isaForm k := by unfold isaOf; rw [if_neg (fun h => h24 h.1)]
    rw [eN] at h1 h2 h3 h4 ho ⊢
    rw [if_neg h24, if_neg h24]
    by_cases hp : 0 < (isaForm k).2.2.2
    · rw [if_pos hp]
      have hs := setRegs_right [N] ho h4
      unfold isaFill2
      rw [e0]
      have hl : (regVals D A B (isaForm k).2.1.data.toList).length = (isaForm k).2.1.data.toList.length := by simp [regVals]
      generalize (isaForm k).2.1.data.toList = l at hs hl ⊢
      rw [if_neg (by rw [List.length_append, hl]; simp), hs]
      simp only [List.length_drop, List.length_append, hl, List.length_singleton]
      rw [if_pos ⟨by omega, h24⟩]
      congr 4
      rw [List.getD_eq_getElem?_getD, List.getElem?_append_right (by omega), hl]
      simp
    · rw [if_neg hp]
      have hz := form_zeroN k hp
      have hN : N = 0 := by omega
      subst hN
      have hs := setRegs_right [] ho h4
      rw [List.append_nil] at hs
      unfold isaFill2
      rw [e0]
      have hl : (regVals D A B (isaForm k).2.1.data.toList).length = (isaForm k).2.1.data.toList.length := by simp [regVals]
      generalize (isaForm k).2.1.data.toList = l at hs hl ⊢
      rw [if_neg (by rw [hl]; omega), hs]
      simp only [List.length_drop, hl]
      rw [if_neg (fun h => by omega)]
/-- what is shown is read -/
theorem isaReadGo_show {k D A B N : Int} (hr : isaRight k D A B N = true) : isaReadGo (isaShow k D A B N) (splitSp [] (isaShow k D A B N)) 25 0 = some (k, D, A, B, N) := by
  have hf := isaFill_things hr
  have hn := isaNums_itoa _ (things_span hr).1
  rw [splitSp_show hr]
  obtain ⟨kk, rfl, hk⟩ := right_kind hr
  have e25 : 25 = kk + ((24 - kk) + 1) := by omega
  rw [e25, isaReadGo_skip kk _ 0 (fun j _ hj he => by
    have := name_inj j kk (by omega) hk he
    omega), Nat.zero_add, isaReadGo, if_neg (fun h => h rfl), List.drop_succ_cons, List.drop_zero, hn]
  dsimp only
  rw [hf]
  dsimp only
  unfold isaText
  rw [if_pos hr, if_pos rfl]
end Go.Proofs.YtlhkojnocconfaaDoor.Q
