
/- isa.Read, told by lists: what is shown is read. -/
import Derived.Test.YtcdeekfgdmckmaaDoorQx0
import Derived.Test.YtcdeekfgdmckmaaDoorHisaForms
import Derived.Test.YtcdeekfgdmckmaaDoorHisaOf
import Derived.Test.YtcdeekfgdmckmaaDoorHisaPut
import Derived.Test.YtcdeekfgdmckmaaDoorHisaRight
import Derived.Test.YtcdeekfgdmckmaaDoorHisaShow
import Derived.Test.YtcdeekfgdmckmaaDoorHisaThings
import Derived.Test.YtcdeekfgdmckmaaDoorHnumRead
import Derived.Test.YtcdeekfgdmckmaaDoorIsaRd
import Derived.Test.YtcdeekfgdmckmaaDoorReadPlain
--@needs XIsaReadM
--@needs XReadPlain
--@needs XIsaWord
import Derived.Lib.ItoaLen
namespace Go.Proofs.YtcdeekfgdmckmaaDoor.Q
open Go.RowKit Go.Proofs.YtcdeekfgdmckmaaDoorW.PrintWords Go.Proofs.YtcdeekfgdmckmaaDoorW.PrintLast Go.Proofs.YtcdeekfgdmckmaaDoorW.PrintMore
attribute [local go_sem] max2_int min2_int max_two min_two max_three min_three max_four min_four   -- for this text's walks alone
set_option linter.unusedVariables false
set_option linter.unusedSimpArgs false

theorem ip_size (l : List UInt8) : (⟨l.toArray⟩ : ByteArray).size = l.length := by
  show l.toArray.size = _
  simp
theorem ip_bt (l : List UInt8) (i : Nat) (h : i < l.length) : bt ⟨l.toArray⟩ (i : Int) = ((l[i]'h).toNat : Int) := by
  rw [bt_data _ i (by rw [ip_size]; exact h)]
theorem ip_read (u : Nat) (m : Int) (hu : (u : Int) ≤ m) (hm : m ≤ 9223372036854775807) : num_Read.f ⟨(Lib.decDigits u).toArray⟩ m = some ((u : Int), 0) := by
  obtain ⟨h1, h2, h3, h4⟩ := dec_val u
  have hl : (Lib.decDigits u).length ≤ 21 := by rw [← Lib.itoa_nonneg]; exact Lib.itoa_length_le _ (by omega) (by omega)
  have hlen : (Lib.decDigits u).length ≠ 0 := fun e => h3 (List.length_eq_zero_iff.mp e)
  have hlt : ¬ 10 ≤ u → (Lib.decDigits u).length = 1 := by
    intro h
    rw [Lib.decDigits, dif_pos (by omega)]
    rfl
  generalize Lib.decDigits u = l at *
  unfold num_Read.f
  rw [if_pos (by rw [ip_size]; omega), if_neg (by rw [ip_size]; omega), if_neg, if_pos, readEnd_dig l h3 h2 _ hm, h1, if_neg (by omega)]
  · intro i hi
    rw [ip_size] at hi
    have hb := ip_bt l i hi
    rw [hb]
    have := h2 l[i] (List.getElem_mem hi)
    clear hb
    omega
  · rw [ip_size]
    intro ⟨hs, hb⟩
    have h10 : 10 ≤ u := by
      by_cases h : 10 ≤ u
      · exact h
      · have := hlt h; omega
    have h5 := h4 h10
    have hb2 := ip_bt l 0 (by omega)
    rw [show (((0 : Nat) : Int)) = 0 from rfl, hb] at hb2
    cases l with
    | nil => exact h3 rfl
    | cons c r =>
      apply h5
      have hc : c.toNat = 48 := by
        have : (48 : Int) = (c.toNat : Int) := hb2
        omega
      show some c = some 48
      congr 1
      exact UInt8.toNat.inj (by rw [hc]; rfl)
theorem isaNum_itoa (x : Int) (h : -1048576 ≤ x ∧ x ≤ 1048576) : isaNum (Lib.itoa x) = (x, true) := by
  rcases itoa_form x with ⟨u, rfl, e⟩ | ⟨u, h1, rfl, e⟩
  · rw [e]
    have hr := ip_read u 1048576 (by omega) (by decide)
    obtain ⟨hc, hne⟩ := dec_chars u
    generalize Lib.decDigits u = l at *
    cases l with
    | nil => exact absurd rfl hne
    | cons c r =>
      have h45 : c ≠ 45 := by
        rintro rfl
        have := hc 45 (by simp)
        simp at this
      unfold isaNum
      split
      · rename_i heq; injection heq with e1 _; exact absurd e1 h45
      · rw [hr]; rfl
  · rw [e]
    have hr := ip_read u 1048576 (by omega) (by decide)
    show (match num_Read.f ⟨(Lib.decDigits u).toArray⟩ 1048576 with
      | some (n, e) => (-n, decide (e = 0))
      | none => (0, false)) = _
    rw [hr]; rfl
theorem isaNums_itoa : ∀ (l : List Int), (∀ x ∈ l, -1048576 ≤ x ∧ x ≤ 1048575) → isaNums (l.map Lib.itoa) = some l
  | [], _ => rfl
  | x :: l, h => by
    have hx := h x (by simp)
    rw [List.map_cons, isaNums, isaNum_itoa x (by omega), if_pos rfl, isaNums_itoa l (fun y hy => h y (by simp [hy]))]
    rfl
theorem splitSp_words : ∀ (l : List Int) (acc : List UInt8), splitSp acc (showWords l) = acc :: l.map Lib.itoa
  | [], acc => by simp [showWords, splitSp]
  | x :: l, acc => by
    have e : showWords (x :: l) = 32 :: (Lib.itoa x ++ showWords l) := by simp [showWords]
    rw [e, splitSp, if_pos rfl, splitSp_app _ _ _ (itoa_no_space x), splitSp_words l]
    simp
theorem splitSp_show {k D A B N : Int} (hr : isaRight k D A B N = true) : splitSp [] (isaShow k D A B N) = (isaForm k).1.data.toList :: (isaThings k D A B N).map Lib.itoa := by
  obtain ⟨kk, rfl, hk⟩ := right_kind hr
  unfold isaShow
  rw [of_name, splitSp_app _ _ _ (name_no_space kk hk), splitSp_words]
  simp
theorem setRegs_vals : ∀ (l : List UInt8) (D A B d a b : Int) (ex : List Int), l.all regOk = true → setRegs l (regVals D A B l ++ ex) d a b = (if 68 ∈ l then D else d, if 65 ∈ l then A else a, if 66 ∈ l then B else b)
  | [], D, A, B, d, a, b, ex, _ => by cases ex <;> simp [regVals, setRegs]
  | c :: l, D, A, B, d, a, b, ex, h => by
    have hl : l.all regOk = true := by rw [List.all_cons, Bool.and_eq_true] at h; exact h.2
    have hc : c = 65 ∨ c = 66 ∨ c = 68 := by
      rw [List.all_cons, Bool.and_eq_true] at h
      have := h.1
      unfold regOk at this
      simp only [Bool.or_eq_true, beq_iff_eq] at this
      rcases this with (h | h) | h <;> simp [h]
    have e : regVals D A B (c :: l) = regVal c D A B :: regVals D A B l := rfl
    rw [e, List.cons_append, setRegs]
    rcases hc with rfl | rfl | rfl
    · rw [if_neg (by decide), if_pos rfl, setRegs_vals l D A B d _ b ex hl]
      by_cases h1 : (65 : UInt8) ∈ l <;> simp [h1, regVal]
    · rw [if_neg (by decide), if_neg (by decide), setRegs_vals l D A B d a _ ex hl]
      by_cases h1 : (66 : UInt8) ∈ l <;> simp [h1, regVal]
    · rw [if_pos rfl, setRegs_vals l D A B _ a b ex hl]
      by_cases h1 : (68 : UInt8) ∈ l <;> simp [h1, regVal]
theorem rightGo_zero : ∀ (l : List UInt8) (D A B : Int), l.all regOk = true → rightGo l D A B = true → (68 ∉ l → D = 0) ∧ (65 ∉ l → A = 0) ∧ (66 ∉ l → B = 0)
  | [], D, A, B, _, h => by
    simp only [rightGo, Bool.and_eq_true, beq_iff_eq] at h
    exact ⟨fun _ => h.1.1, fun _ => h.1.2, fun _ => h.2⟩
  | c :: l, D, A, B, ho, h => by
    have hl : l.all regOk = true := by rw [List.all_cons, Bool.and_eq_true] at ho; exact ho.2
    have hc : c = 65 ∨ c = 66 ∨ c = 68 := by
      rw [List.all_cons, Bool.and_eq_true] at ho
      have := ho.1
      unfold regOk at this
      simp only [Bool.or_eq_true, beq_iff_eq] at this
      rcases this with (h | h) | h <;> simp [h]
    rw [rightGo] at h
    rcases hc with rfl | rfl | rfl
    · rw [if_neg (by decide), if_pos rfl] at h
      split at h
      · cases h
      · have ih := rightGo_zero l _ _ _ hl h
        exact ⟨fun h1 => ih.1 (fun h2 => h1 (by simp [h2])), fun h1 => absurd (List.mem_cons_self) h1, fun h1 => ih.2.2 (fun h2 => h1 (by simp [h2]))⟩
    · rw [if_neg (by decide), if_neg (by decide)] at h
      split at h
      · cases h
      · have ih := rightGo_zero l _ _ _ hl h
        exact ⟨fun h1 => ih.1 (fun h2 => h1 (by simp [h2])), fun h1 => ih.2.1 (fun h2 => h1 (by simp [h2])), fun h1 => absurd (List.mem_cons_self) h1⟩
    · rw [if_pos rfl] at h
      split at h
      · cases h
      · have ih := rightGo_zero l _ _ _ hl h
        exact ⟨fun h1 => absurd (List.mem_cons_self) h1, fun h1 => ih.2.1 (fun h2 => h1 (by simp [h2])), fun h1 => ih.2.2 (fun h2 => h1 (by simp [h2]))⟩
theorem setRegs_right {l : List UInt8} {D A B : Int} (ex : List Int) (ho : l.all regOk = true) (h : rightGo l D A B = true) : setRegs l (regVals D A B l ++ ex) 0 0 0 = (D, A, B) := by
  obtain ⟨h1, h2, h3⟩ := rightGo_zero l D A B ho h
  rw [setRegs_vals l D A B 0 0 0 ex ho]
  by_cases e1 : (68 : UInt8) ∈ l <;> by_cases e2 : (65 : UInt8) ∈ l <;> by_cases e3 : (66 : UInt8) ∈ l <;> simp [e1, e2, e3, h1, h2, h3]
theorem forms_zero : isaForms.all (fun x => decide (0 < x.2.2.2) || (decide (x.2.2.1 = 0) && decide (x.2.2.2 = 0))) = true := by decide
theorem form_zeroN (k : Int) (h : ¬ 0 < (isaForm k).2.2.2) : (isaForm k).2.2.1 = 0 ∧ (isaForm k).2.2.2 = 0 := by
  unfold isaForm at h ⊢
  split
  · rename_i hk
    rw [if_pos hk] at h
    have hl : k.toNat < isaForms.length := by have : isaForms.length = 25 := rfl; omega
    have := List.all_eq_true.1 forms_zero _ (List.getElem_mem hl)
    rw [List.getD_eq_getElem?_getD, List.getElem?_eq_getElem hl] at h ⊢
    simp only [Bool.or_eq_true, Bool.and_eq_true, decide_eq_true_eq] at this
    simp only [Option.getD_some] at h ⊢
    rcases this with h1 | h1
    · exact absurd h1 h
    · exact h1
  · exact ⟨rfl, rfl⟩
theorem isaFill_things {k D A B N : Int} (hr : isaRight k D A B N = true) : isaFill k (isaThings k D A B N) = some (D, A, B, N) := by
  obtain ⟨h1, h2, h3, h4⟩ := right_parts hr
  have ho := (of_regs k N).1
  unfold isaThings isaFill
  by_cases h24 : k = 24
  · subst h24
    rw [if_pos rfl, if_pos rfl]
    show isaFill2 24 N (regVals D A B (isaOf 24 N).2.1.data.toList) = _
    have hs := setRegs_right [] ho h4
    rw [List.append_nil] at hs
    unfold isaFill2
    have hl : (regVals D A B (isaOf 24 N).2.1.data.toList).length = (isaOf 24 N).2.1.data.toList.length := by simp [regVals]
    generalize (isaOf 24 N).2.1.data.toList = l at hs hl ⊢
    rw [if_neg (by rw [hl]; omega), hs]
    simp only [List.length_drop, hl]
    rw [if_neg (fun h => h.2 rfl)]
  · have e0 : isaOf k 0 = isaForm k := by unfold isaOf; rw [if_neg (fun h => h24 h.1)]
    have eN : isaOf k N = isaForm k := by unfold isaOf; rw [if_neg (fun h => h24 h.1)]
    rw [eN] at h1 h2 h3 h4 ho ⊢
    rw [if_neg h24, if_neg h24]
    by_cases hp : 0 < (isaForm k).2.2.2
    · rw [if_pos hp]
      have hs := setRegs_right [N] ho h4
      unfold isaFill2
      rw [e0]
      have hl : (regVals D A B (isaForm k).2.1.data.toList).length = (isaForm k).2.1.data.toList.length := by simp [regVals]
      generalize (isaForm k).2.1.data.toList = l at hs hl ⊢
      rw [if_neg (by rw [List.length_append, hl]; simp), hs]
      simp only [List.length_drop, List.length_append, hl, List.length_singleton]
      rw [if_pos ⟨by omega, h24⟩]
      congr 4
      rw [List.getD_eq_getElem?_getD, List.getElem?_append_right (by omega), hl]
      simp
    · rw [if_neg hp]
      have hz := form_zeroN k hp
      have hN : N = 0 := by omega
      subst hN
      have hs := setRegs_right [] ho h4
      rw [List.append_nil] at hs
      unfold isaFill2
      rw [e0]
      have hl : (regVals D A B (isaForm k).2.1.data.toList).length = (isaForm k).2.1.data.toList.length := by simp [regVals]
      generalize (isaForm k).2.1.data.toList = l at hs hl ⊢
      rw [if_neg (by rw [hl]; omega), hs]
      simp only [List.length_drop, hl]
      rw [if_neg (fun h => by omega)]
/-- what is shown is read -/
theorem isaReadGo_show {k D A B N : Int} (hr : isaRight k D A B N = true) : isaReadGo (isaShow k D A B N) (splitSp [] (isaShow k D A B N)) 25 0 = some (k, D, A, B, N) := by
  have hf := isaFill_things hr
  have hn := isaNums_itoa _ (things_span hr).1
  rw [splitSp_show hr]
  obtain ⟨kk, rfl, hk⟩ := right_kind hr
  have e25 : 25 = kk + ((24 - kk) + 1) := by omega
  rw [e25, isaReadGo_skip kk _ 0 (fun j _ hj he => by
    have := name_inj j kk (by omega) hk he
    omega), Nat.zero_add, isaReadGo, if_neg (fun h => h rfl), List.drop_succ_cons, List.drop_zero, hn]
  dsimp only
  rw [hf]
  dsimp only
  unfold isaText
  rw [if_pos hr, if_pos rfl]
end Go.Proofs.YtcdeekfgdmckmaaDoor.Q
