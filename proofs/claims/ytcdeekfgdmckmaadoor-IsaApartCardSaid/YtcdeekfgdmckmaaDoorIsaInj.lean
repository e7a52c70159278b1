/- An instruction that is right comes back from its word; its text tells it. By wip/gen/isa_inj.py. -/
import Derived.Test.YtcdeekfgdmckmaaDoorQx0
import Derived.Test.YtcdeekfgdmckmaaDoorHisaForms
import Derived.Test.YtcdeekfgdmckmaaDoorHisaOf
import Derived.Test.YtcdeekfgdmckmaaDoorHisaPut
import Derived.Test.YtcdeekfgdmckmaaDoorHisaRight
import Derived.Test.YtcdeekfgdmckmaaDoorHisaShow
import Derived.Test.YtcdeekfgdmckmaaDoorHisaTake
import Derived.Test.YtcdeekfgdmckmaaDoorHisaThings
import Derived.Test.YtcdeekfgdmckmaaDoorIsaRef
import Derived.Test.YtcdeekfgdmckmaaDoorIsaRefPut
import Derived.Test.YtcdeekfgdmckmaaDoorIsaTakeLit
--@needs XIsaTakeLit
--@needs XIsaRefPut
--@needs XHisaShow
import Derived.Lib.ItoaLen
import Derived.Lib.ItoaNum
import Derived.Lib.ItoaMem
namespace Go.Proofs.YtcdeekfgdmckmaaDoor.Q
open Go.RowKit Go.Proofs.YtcdeekfgdmckmaaDoorW.PrintWords Go.Proofs.YtcdeekfgdmckmaaDoorW.PrintLast Go.Proofs.YtcdeekfgdmckmaaDoorW.PrintMore
attribute [local go_sem] max2_int min2_int max_two min_two max_three min_three max_four min_four   -- for this text's walks alone
set_option linter.unusedVariables false
set_option linter.unusedSimpArgs false

def dval (l : List UInt8) : Nat := l.foldl (fun a c => 10 * a + (c.toNat - 48)) 0
theorem decDigits_step (u : Nat) (h : ¬ u < 10) : Lib.decDigits u = Lib.decDigits (u / 10) ++ [UInt8.ofNat (48 + u % 10)] := by
  rw [Lib.decDigits, dif_neg h]
theorem dig_char {d : Nat} (h : d < 10) : (UInt8.ofNat (48 + d)).toNat = 48 + d := by
  rw [UInt8.toNat_ofNat']; omega
theorem dval_dec (u : Nat) : dval (Lib.decDigits u) = u := by
  induction u using Nat.strongRecOn with
  | _ u ih =>
    by_cases h : u < 10
    · rw [Lib.decDigits_one h]
      unfold dval
      simp only [List.foldl_cons, List.foldl_nil, dig_char h]
      omega
    · rw [decDigits_step u h]
      have := ih (u / 10) (by omega)
      unfold dval at this ⊢
      rw [List.foldl_append, this]
      simp only [List.foldl_cons, List.foldl_nil, dig_char (show u % 10 < 10 by omega)]
      omega
theorem dec_inj {u v : Nat} (h : Lib.decDigits u = Lib.decDigits v) : u = v := by rw [← dval_dec u, h, dval_dec]
theorem dec_chars (u : Nat) : (∀ c ∈ Lib.decDigits u, 48 ≤ c.toNat ∧ c.toNat ≤ 57) ∧ Lib.decDigits u ≠ [] := by
  induction u using Nat.strongRecOn with
  | _ u ih =>
    by_cases h : u < 10
    · rw [Lib.decDigits_one h]
      refine ⟨fun c hc => ?_, by simp⟩
      obtain rfl := List.mem_singleton.1 hc
      rw [dig_char h]; omega
    · rw [decDigits_step u h]
      refine ⟨fun c hc => ?_, by simp⟩
      rcases List.mem_append.1 hc with hc | hc
      · exact (ih (u / 10) (by omega)).1 c hc
      · obtain rfl := List.mem_singleton.1 hc
        rw [dig_char (by omega)]; omega
theorem itoa_form (x : Int) : (∃ u : Nat, x = (u : Int) ∧ Lib.itoa x = Lib.decDigits u) ∨ (∃ u : Nat, 1 ≤ u ∧ x = -(u : Int) ∧ Lib.itoa x = 45 :: Lib.decDigits u) := by
  by_cases h : x < 0
  · exact .inr ⟨x.natAbs, by omega, by omega, by rw [show x = -((x.natAbs : Nat) : Int) by omega, Lib.itoa_neg _ (by omega)]; congr 2; omega⟩
  · exact .inl ⟨x.toNat, by omega, by rw [show x = ((x.toNat : Nat) : Int) by omega, Lib.itoa_nonneg]; congr 1⟩
theorem itoa_no_space (x : Int) : (32 : UInt8) ∉ Lib.itoa x := by
  intro h
  rcases itoa_form x with ⟨u, _, e⟩ | ⟨u, _, _, e⟩
  · rw [e] at h
    exact absurd ((dec_chars u).1 _ h).1 (by decide)
  · rw [e] at h
    rcases List.mem_cons.1 h with h | h
    · exact absurd h (by decide)
    · exact absurd ((dec_chars u).1 _ h).1 (by decide)
theorem itoa_inj {x y : Int} (h : Lib.itoa x = Lib.itoa y) : x = y := by
  have key : ∀ u v : Nat, 45 :: Lib.decDigits u ≠ Lib.decDigits v := by
    intro u v e
    have := (dec_chars v).1 45 (e ▸ List.mem_cons_self)
    exact absurd this.1 (by decide)
  rcases itoa_form x with ⟨u, hx, ex⟩ | ⟨u, _, hx, ex⟩ <;> rcases itoa_form y with ⟨v, hy, ey⟩ | ⟨v, _, hy, ey⟩
  · rw [ex, ey] at h; rw [hx, hy, dec_inj h]
  · rw [ex, ey] at h; exact absurd h.symm (key _ _)
  · rw [ex, ey] at h; exact absurd h (key _ _)
  · rw [ex, ey] at h
    injection h with _ h
    rw [hx, hy, dec_inj h]
/-- a word without a blank, and behind it nothing or a blank -/
theorem cut_word : ∀ (a b s t : List UInt8), (32 : UInt8) ∉ a → (32 : UInt8) ∉ b → (s = [] ∨ ∃ r, s = 32 :: r) → (t = [] ∨ ∃ r, t = 32 :: r) → a ++ s = b ++ t → a = b ∧ s = t
  | [], [], s, t, _, _, _, _, h => ⟨rfl, h⟩
  | [], c :: b, s, t, _, hb, hs, _, h => by
    rcases hs with rfl | ⟨r, rfl⟩
    · cases h
    · injection h with h1 _
      exact absurd (by rw [h1]; exact List.mem_cons_self) hb
  | c :: a, [], s, t, ha, _, _, ht, h => by
    rcases ht with rfl | ⟨r, rfl⟩
    · cases h
    · injection h with h1 _
      exact absurd (by rw [← h1]; exact List.mem_cons_self) ha
  | c :: a, d :: b, s, t, ha, hb, hs, ht, h => by
    injection h with h1 h2
    have := cut_word a b s t (fun hm => ha (List.mem_cons_of_mem _ hm)) (fun hm => hb (List.mem_cons_of_mem _ hm)) hs ht h2
    exact ⟨by rw [h1, this.1], this.2⟩
theorem showWords_head (l : List Int) : showWords l = [] ∨ ∃ r, showWords l = 32 :: r := by
  cases l with
  | nil => exact .inl rfl
  | cons x l => exact .inr ⟨_, rfl⟩
theorem showWords_inj : ∀ (l m : List Int), showWords l = showWords m → l = m
  | [], [], _ => rfl
  | [], y :: m, h => by cases h
  | x :: l, [], h => by cases h
  | x :: l, y :: m, h => by
    have h2 : (32 : UInt8) :: (Lib.itoa x ++ showWords l) = 32 :: (Lib.itoa y ++ showWords m) := h
    injection h2 with _ h2
    obtain ⟨h3, h4⟩ := cut_word _ _ _ _ (itoa_no_space x) (itoa_no_space y) (showWords_head l) (showWords_head m) h2
    rw [itoa_inj h3, showWords_inj l m h4]
theorem names_no_space : isaForms.all (fun x => !x.1.data.toList.contains 32) = true := by decide
theorem names_apart : ∀ i j : Fin 25, (isaForms.getD i.val (⟨#[]⟩, ⟨#[]⟩, 0, 0)).1.data.toList = (isaForms.getD j.val (⟨#[]⟩, ⟨#[]⟩, 0, 0)).1.data.toList → i = j := by decide
theorem of_name (k N : Int) : (isaOf k N).1 = (isaForm k).1 := by
  unfold isaOf; split <;> rfl
theorem right_kind {k D A B N : Int} (hr : isaRight k D A B N = true) : ∃ kk : Nat, k = (kk : Int) ∧ kk < 25 := by
  have hk : ¬ (k < 0 ∨ 24 < k) := fun h => by rw [isaRight_out _ _ _ _ _ h] at hr; cases hr
  exact ⟨k.toNat, by omega, by omega⟩
theorem form_name (kk : Nat) (h : kk < 25) : (isaForm (kk : Int)).1 = (isaForms.getD kk (⟨#[]⟩, ⟨#[]⟩, 0, 0)).1 := by
  unfold isaForm
  rw [if_pos (by omega), Int.toNat_natCast]
theorem name_no_space (kk : Nat) (h : kk < 25) : (32 : UInt8) ∉ (isaForm (kk : Int)).1.data.toList := by
  have hl : kk < isaForms.length := h
  have := List.all_eq_true.1 names_no_space _ (List.getElem_mem hl)
  rw [form_name kk h, List.getD_eq_getElem?_getD, List.getElem?_eq_getElem hl]
  intro hm
  simp only [Bool.not_eq_true', List.contains_eq_mem, decide_eq_false_iff_not] at this
  exact this hm
theorem name_inj (i j : Nat) (hi : i < 25) (hj : j < 25) (h : (isaForm (i : Int)).1.data.toList = (isaForm (j : Int)).1.data.toList) : i = j := by
  rw [form_name i hi, form_name j hj] at h
  have := names_apart ⟨i, hi⟩ ⟨j, hj⟩ h
  exact congrArg Fin.val this
/-- the fields that the list tells -/
theorem things_inj_lit (kk : Nat) (hk : kk < 25) (D A B N D' A' B' N' : Int) (h : isaRight kk D A B N = true) (h' : isaRight kk D' A' B' N' = true) (e : isaThings kk D A B N = isaThings kk D' A' B' N') : D = D' ∧ A = A' ∧ B = B' ∧ N = N' := by
  by_cases h24 : kk = 24
  · subst h24
    have hn := right_N24 h
    have hn' := right_N24 h'
    have eN : N = N' := by
      have e1 : isaThings (24 : Nat) D A B N = N :: regVals D A B (isaOf 24 N).2.1.data.toList := if_pos rfl
      have e2 : isaThings (24 : Nat) D' A' B' N' = N' :: regVals D' A' B' (isaOf 24 N').2.1.data.toList := if_pos rfl
      rw [e1, e2] at e
      injection e
    subst eN
    have hs := h
    have hs' := h'
    rw [show ((24 : Nat) : Int) = 24 from rfl, isaRight_sys] at hs hs'
    have h4 : N = 1 ∨ N = 2 ∨ N = 3 ∨ N = 4 := by omega
    rcases h4 with rfl | rfl | rfl | rfl
    · obtain ⟨a1, a2, a3, _, _⟩ := says_n (d := false) (a := true) (b := false) (lo := 1) (hi := 4) hs
      obtain ⟨b1, b2, b3, _, _⟩ := says_n (d := false) (a := true) (b := false) (lo := 1) (hi := 4) hs'
      have e2 : (1 : Int) :: [A] = 1 :: [A'] := e
      simp only [List.cons.injEq, and_true, true_and] at e2
      have z1 := okR_f.1 a1
      have y1 := okR_f.1 b1
      have z3 := okR_f.1 a3
      have y3 := okR_f.1 b3
      refine ⟨?_, ?_, ?_, rfl⟩ <;> omega
    · obtain ⟨a1, a2, a3, _, _⟩ := says_n (d := true) (a := false) (b := false) (lo := 1) (hi := 4) hs
      obtain ⟨b1, b2, b3, _, _⟩ := says_n (d := true) (a := false) (b := false) (lo := 1) (hi := 4) hs'
      have e2 : (2 : Int) :: [D] = 2 :: [D'] := e
      simp only [List.cons.injEq, and_true, true_and] at e2
      have z2 := okR_f.1 a2
      have y2 := okR_f.1 b2
      have z3 := okR_f.1 a3
      have y3 := okR_f.1 b3
      refine ⟨?_, ?_, ?_, rfl⟩ <;> omega
    · obtain ⟨a1, a2, a3, _, _⟩ := says_n (d := true) (a := false) (b := true) (lo := 1) (hi := 4) hs
      obtain ⟨b1, b2, b3, _, _⟩ := says_n (d := true) (a := false) (b := true) (lo := 1) (hi := 4) hs'
      have e2 : (3 : Int) :: [D, B] = 3 :: [D', B'] := e
      simp only [List.cons.injEq, and_true, true_and] at e2
      have z2 := okR_f.1 a2
      have y2 := okR_f.1 b2
      refine ⟨?_, ?_, ?_, rfl⟩ <;> omega
    · obtain ⟨a1, a2, a3, _, _⟩ := says_n (d := false) (a := true) (b := false) (lo := 1) (hi := 4) hs
      obtain ⟨b1, b2, b3, _, _⟩ := says_n (d := false) (a := true) (b := false) (lo := 1) (hi := 4) hs'
      have e2 : (4 : Int) :: [A] = 4 :: [A'] := e
      simp only [List.cons.injEq, and_true, true_and] at e2
      have z1 := okR_f.1 a1
      have y1 := okR_f.1 b1
      have z3 := okR_f.1 a3
      have y3 := okR_f.1 b3
      refine ⟨?_, ?_, ?_, rfl⟩ <;> omega
  have hs := h
  have hs' := h'
  rw [isaRight_lit kk (by omega)] at hs hs'
  have hk2 : kk < 24 := by omega
  clear h h' hk h24
  match kk, hk2, hs, hs', e with
  | 0, _, hs, hs', e =>
    obtain ⟨a1, a2, a3, a4⟩ := says_0 hs
    obtain ⟨b1, b2, b3, b4⟩ := says_0 hs'
    have z1 := okR_f.1 a1
    have y1 := okR_f.1 b1
    have z2 := okR_f.1 a2
    have y2 := okR_f.1 b2
    have z3 := okR_f.1 a3
    have y3 := okR_f.1 b3
    refine ⟨?_, ?_, ?_, ?_⟩ <;> omega
  | 1, _, hs, hs', e =>
    obtain ⟨a1, a2, a3, a4, a5⟩ := says_n hs
    obtain ⟨b1, b2, b3, b4, b5⟩ := says_n hs'
    have e2 : [D, N] = [D', N'] := e
    simp only [List.cons.injEq, and_true] at e2
    have z2 := okR_f.1 a2
    have y2 := okR_f.1 b2
    have z3 := okR_f.1 a3
    have y3 := okR_f.1 b3
    refine ⟨?_, ?_, ?_, ?_⟩ <;> omega
  | 2, _, hs, hs', e =>
    obtain ⟨a1, a2, a3, a4, a5⟩ := says_n hs
    obtain ⟨b1, b2, b3, b4, b5⟩ := says_n hs'
    have e2 : [D, N] = [D', N'] := e
    simp only [List.cons.injEq, and_true] at e2
    have z2 := okR_f.1 a2
    have y2 := okR_f.1 b2
    have z3 := okR_f.1 a3
    have y3 := okR_f.1 b3
    refine ⟨?_, ?_, ?_, ?_⟩ <;> omega
  | 3, _, hs, hs', e =>
    obtain ⟨a1, a2, a3, a4, a5⟩ := says_n hs
    obtain ⟨b1, b2, b3, b4, b5⟩ := says_n hs'
    have e2 : [D, A, N] = [D', A', N'] := e
    simp only [List.cons.injEq, and_true] at e2
    have z3 := okR_f.1 a3
    have y3 := okR_f.1 b3
    refine ⟨?_, ?_, ?_, ?_⟩ <;> omega
  | 4, _, hs, hs', e =>
    obtain ⟨a1, a2, a3, a4⟩ := says_0 hs
    obtain ⟨b1, b2, b3, b4⟩ := says_0 hs'
    have e2 : [D, A, B] = [D', A', B'] := e
    simp only [List.cons.injEq, and_true] at e2
    refine ⟨?_, ?_, ?_, ?_⟩ <;> omega
  | 5, _, hs, hs', e =>
    obtain ⟨a1, a2, a3, a4⟩ := says_0 hs
    obtain ⟨b1, b2, b3, b4⟩ := says_0 hs'
    have e2 : [D, A, B] = [D', A', B'] := e
    simp only [List.cons.injEq, and_true] at e2
    refine ⟨?_, ?_, ?_, ?_⟩ <;> omega
  | 6, _, hs, hs', e =>
    obtain ⟨a1, a2, a3, a4⟩ := says_0 hs
    obtain ⟨b1, b2, b3, b4⟩ := says_0 hs'
    have e2 : [D, A, B] = [D', A', B'] := e
    simp only [List.cons.injEq, and_true] at e2
    refine ⟨?_, ?_, ?_, ?_⟩ <;> omega
  | 7, _, hs, hs', e =>
    obtain ⟨a1, a2, a3, a4⟩ := says_0 hs
    obtain ⟨b1, b2, b3, b4⟩ := says_0 hs'
    have e2 : [D, A, B] = [D', A', B'] := e
    simp only [List.cons.injEq, and_true] at e2
    refine ⟨?_, ?_, ?_, ?_⟩ <;> omega
  | 8, _, hs, hs', e =>
    obtain ⟨a1, a2, a3, a4⟩ := says_0 hs
    obtain ⟨b1, b2, b3, b4⟩ := says_0 hs'
    have e2 : [D, A, B] = [D', A', B'] := e
    simp only [List.cons.injEq, and_true] at e2
    refine ⟨?_, ?_, ?_, ?_⟩ <;> omega
  | 9, _, hs, hs', e =>
    obtain ⟨a1, a2, a3, a4⟩ := says_0 hs
    obtain ⟨b1, b2, b3, b4⟩ := says_0 hs'
    have e2 : [D, A, B] = [D', A', B'] := e
    simp only [List.cons.injEq, and_true] at e2
    refine ⟨?_, ?_, ?_, ?_⟩ <;> omega
  | 10, _, hs, hs', e =>
    obtain ⟨a1, a2, a3, a4⟩ := says_0 hs
    obtain ⟨b1, b2, b3, b4⟩ := says_0 hs'
    have e2 : [D, A, B] = [D', A', B'] := e
    simp only [List.cons.injEq, and_true] at e2
    refine ⟨?_, ?_, ?_, ?_⟩ <;> omega
  | 11, _, hs, hs', e =>
    obtain ⟨a1, a2, a3, a4⟩ := says_0 hs
    obtain ⟨b1, b2, b3, b4⟩ := says_0 hs'
    have e2 : [D, A, B] = [D', A', B'] := e
    simp only [List.cons.injEq, and_true] at e2
    refine ⟨?_, ?_, ?_, ?_⟩ <;> omega
  | 12, _, hs, hs', e =>
    obtain ⟨a1, a2, a3, a4⟩ := says_0 hs
    obtain ⟨b1, b2, b3, b4⟩ := says_0 hs'
    have e2 : [D, A, B] = [D', A', B'] := e
    simp only [List.cons.injEq, and_true] at e2
    refine ⟨?_, ?_, ?_, ?_⟩ <;> omega
  | 13, _, hs, hs', e =>
    obtain ⟨a1, a2, a3, a4, a5⟩ := says_n hs
    obtain ⟨b1, b2, b3, b4, b5⟩ := says_n hs'
    have e2 : [D, A, N] = [D', A', N'] := e
    simp only [List.cons.injEq, and_true] at e2
    have z3 := okR_f.1 a3
    have y3 := okR_f.1 b3
    refine ⟨?_, ?_, ?_, ?_⟩ <;> omega
  | 14, _, hs, hs', e =>
    obtain ⟨a1, a2, a3, a4, a5⟩ := says_n hs
    obtain ⟨b1, b2, b3, b4, b5⟩ := says_n hs'
    have e2 : [D, A, N] = [D', A', N'] := e
    simp only [List.cons.injEq, and_true] at e2
    have z3 := okR_f.1 a3
    have y3 := okR_f.1 b3
    refine ⟨?_, ?_, ?_, ?_⟩ <;> omega
  | 15, _, hs, hs', e =>
    obtain ⟨a1, a2, a3, a4, a5⟩ := says_n hs
    obtain ⟨b1, b2, b3, b4, b5⟩ := says_n hs'
    have e2 : [D, A, N] = [D', A', N'] := e
    simp only [List.cons.injEq, and_true] at e2
    have z3 := okR_f.1 a3
    have y3 := okR_f.1 b3
    refine ⟨?_, ?_, ?_, ?_⟩ <;> omega
  | 16, _, hs, hs', e =>
    obtain ⟨a1, a2, a3, a4, a5⟩ := says_n hs
    obtain ⟨b1, b2, b3, b4, b5⟩ := says_n hs'
    have e2 : [D, A, N] = [D', A', N'] := e
    simp only [List.cons.injEq, and_true] at e2
    have z3 := okR_f.1 a3
    have y3 := okR_f.1 b3
    refine ⟨?_, ?_, ?_, ?_⟩ <;> omega
  | 17, _, hs, hs', e =>
    obtain ⟨a1, a2, a3, a4, a5⟩ := says_n hs
    obtain ⟨b1, b2, b3, b4, b5⟩ := says_n hs'
    have e2 : [D, A, N] = [D', A', N'] := e
    simp only [List.cons.injEq, and_true] at e2
    have z3 := okR_f.1 a3
    have y3 := okR_f.1 b3
    refine ⟨?_, ?_, ?_, ?_⟩ <;> omega
  | 18, _, hs, hs', e =>
    obtain ⟨a1, a2, a3, a4, a5⟩ := says_n hs
    obtain ⟨b1, b2, b3, b4, b5⟩ := says_n hs'
    have e2 : [B, A, N] = [B', A', N'] := e
    simp only [List.cons.injEq, and_true] at e2
    have z1 := okR_f.1 a1
    have y1 := okR_f.1 b1
    refine ⟨?_, ?_, ?_, ?_⟩ <;> omega
  | 19, _, hs, hs', e =>
    obtain ⟨a1, a2, a3, a4, a5⟩ := says_n hs
    obtain ⟨b1, b2, b3, b4, b5⟩ := says_n hs'
    have e2 : [A, B, N] = [A', B', N'] := e
    simp only [List.cons.injEq, and_true] at e2
    have z1 := okR_f.1 a1
    have y1 := okR_f.1 b1
    refine ⟨?_, ?_, ?_, ?_⟩ <;> omega
  | 20, _, hs, hs', e =>
    obtain ⟨a1, a2, a3, a4, a5⟩ := says_n hs
    obtain ⟨b1, b2, b3, b4, b5⟩ := says_n hs'
    have e2 : [A, B, N] = [A', B', N'] := e
    simp only [List.cons.injEq, and_true] at e2
    have z1 := okR_f.1 a1
    have y1 := okR_f.1 b1
    refine ⟨?_, ?_, ?_, ?_⟩ <;> omega
  | 21, _, hs, hs', e =>
    obtain ⟨a1, a2, a3, a4, a5⟩ := says_n hs
    obtain ⟨b1, b2, b3, b4, b5⟩ := says_n hs'
    have e2 : [A, B, N] = [A', B', N'] := e
    simp only [List.cons.injEq, and_true] at e2
    have z1 := okR_f.1 a1
    have y1 := okR_f.1 b1
    refine ⟨?_, ?_, ?_, ?_⟩ <;> omega
  | 22, _, hs, hs', e =>
    obtain ⟨a1, a2, a3, a4, a5⟩ := says_n hs
    obtain ⟨b1, b2, b3, b4, b5⟩ := says_n hs'
    have e2 : [D, N] = [D', N'] := e
    simp only [List.cons.injEq, and_true] at e2
    have z2 := okR_f.1 a2
    have y2 := okR_f.1 b2
    have z3 := okR_f.1 a3
    have y3 := okR_f.1 b3
    refine ⟨?_, ?_, ?_, ?_⟩ <;> omega
  | 23, _, hs, hs', e =>
    obtain ⟨a1, a2, a3, a4⟩ := says_0 hs
    obtain ⟨b1, b2, b3, b4⟩ := says_0 hs'
    have e2 : [D, A] = [D', A'] := e
    simp only [List.cons.injEq, and_true] at e2
    have z3 := okR_f.1 a3
    have y3 := okR_f.1 b3
    refine ⟨?_, ?_, ?_, ?_⟩ <;> omega
  | n + 24, h, _, _, _ => exact absurd h (by omega)
theorem show_inj {k D A B N k' D' A' B' N' : Int} (h : isaRight k D A B N = true) (h' : isaRight k' D' A' B' N' = true) (e : isaShow k D A B N = isaShow k' D' A' B' N') : k = k' ∧ D = D' ∧ A = A' ∧ B = B' ∧ N = N' := by
  obtain ⟨i, rfl, hi⟩ := right_kind h
  obtain ⟨j, rfl, hj⟩ := right_kind h'
  unfold isaShow at e
  rw [of_name, of_name] at e
  obtain ⟨e1, e2⟩ := cut_word _ _ _ _ (name_no_space i hi) (name_no_space j hj) (showWords_head _) (showWords_head _) e
  obtain rfl := name_inj i j hi hj e1
  exact ⟨rfl, things_inj_lit i hi _ _ _ _ _ _ _ _ h h' (showWords_inj _ _ e2)⟩
/-! ### Take of Put -/
theorem take_of {k D A B N x : Int} {kk : Nat} (hk : kk < 25) (hkk : k = (kk : Int)) (hr : isaRight k D A B N = true) (hx : isaPut k D A B N = x) (hx0 : 0 ≤ x ∧ x < 4294967296) (hq : x / 67108864 = k) (hN : takeN k (isaForm k).2.2.1 (isaForm k).2.2.2 x = N) (hg : takeGo x (isaOf k N).2.1.data.toList 0 0 0 0 = (D, A, B)) : isa_Take.f x = some (k, D, A, B, N, true) := by
  unfold isa_Take.f
  rw [if_pos hx0, hq, if_neg (by rw [hkk]; exact formName kk hk)]
  dsimp only
  rw [hN, hg]
  exact if_pos ⟨hr, hx⟩
theorem takePut_0 {D A B N : Int} (hr : isaRight 0 D A B N = true) : isa_Take.f (isaPut 0 D A B N) = some (0, D, A, B, N, true) := by
  have hs := hr
  rw [show (0 : Int) = ((0 : Nat) : Int) from rfl, isaRight_lit 0 (by decide)] at hs
  obtain ⟨hD, hA, hB, hn⟩ := says_0 (d := false) (a := false) (b := false) (lo := 0) (hi := 0) hs
  subst hn
  have hD2 := okR_f.1 hD
  have hA2 := okR_f.1 hA
  have hB2 := okR_f.1 hB
  have hsum := putGo_sum D A B [] 0 0 (0 % 65536 : Int).toNat (by decide) (by
    intro c hc
    simp only [List.mem_cons, List.not_mem_nil, or_false] at hc
    skip) (by decide) (by decide)
  have hst := start_sum 0 (by decide) 0
  rw [if_neg (by decide)] at hst
  have hv : isaPut 0 D A B 0 = ((67108864 * 0 + (0 % 65536 : Int).toNat : Nat) : Int) := by
    show putGo D A B [] 0 (putStart ((0 : Nat) : Int) 0) = _
    rw [hst]
    exact hsum
  obtain ⟨x, hx⟩ : ∃ x, isaPut 0 D A B 0 = x := ⟨_, rfl⟩
  rw [hx]
  rw [hx] at hv
  clear hsum hst
  have hx0 : 0 ≤ x ∧ x < 4294967296 := by omega
  have hTN := takeN_lit x hx0.1 hx0.2 0 (by decide)
  have hTR := takeRegs x hx0.1 hx0.2 0 0 (by decide)
  refine take_of (kk := 0) (by decide) rfl hr hx hx0 (by omega) ?_ ?_
  · exact hTN.trans (if_neg (by decide))
  · refine hTR.trans ?_
    show ((0, 0, 0) : Int × Int × Int) = (D, A, B)
    rw [hD2, hA2, hB2]
theorem takePut_1 {D A B N : Int} (hr : isaRight 1 D A B N = true) : isa_Take.f (isaPut 1 D A B N) = some (1, D, A, B, N, true) := by
  have hs := hr
  rw [show (1 : Int) = ((1 : Nat) : Int) from rfl, isaRight_lit 1 (by decide)] at hs
  obtain ⟨hD, hA, hB, hn1, hn2⟩ := says_n (d := true) (a := false) (b := false) (lo := -32768) (hi := 32767) hs
  have hD2 := okR_t.1 hD
  have hA2 := okR_f.1 hA
  have hB2 := okR_f.1 hB
  have hsum := putGo_sum D A B [68] 0 1 (N % 65536 : Int).toNat (by decide) (by
    intro c hc
    simp only [List.mem_cons, List.not_mem_nil, or_false] at hc
    obtain rfl := hc
    exact hD2) (by
    show (N % 65536 : Int).toNat < 2 ^ (26 - 5 * (0 + 1))
    rw [show (2 : Nat) ^ (26 - 5 * (0 + 1)) = 2097152 from rfl]
    omega) (by decide)
  have hst := start_sum 1 (by decide) N
  rw [if_neg (by decide)] at hst
  have hv : isaPut 1 D A B N = ((2097152 * (32 * 1 + D.toNat) + (N % 65536 : Int).toNat : Nat) : Int) := by
    show putGo D A B [68] 0 (putStart ((1 : Nat) : Int) N) = _
    rw [hst]
    exact hsum
  obtain ⟨x, hx⟩ : ∃ x, isaPut 1 D A B N = x := ⟨_, rfl⟩
  rw [hx]
  rw [hx] at hv
  clear hsum hst
  have hx0 : 0 ≤ x ∧ x < 4294967296 := by omega
  have hTN := takeN_lit x hx0.1 hx0.2 1 (by decide)
  have hTR := takeRegs x hx0.1 hx0.2 N 1 (by decide)
  refine take_of (kk := 1) (by decide) rfl hr hx hx0 (by omega) ?_ ?_
  · refine hTN.trans ((if_pos (by decide)).trans ?_)
    have tm : Int.tmod x 65536 = x % 65536 := Int.tmod_eq_emod_of_nonneg hx0.1
    by_cases hh : Int.tmod x 65536 ≥ 32768
    · rw [show refN 1 x = wrap64 (Int.tmod x 65536 - 65536) from if_pos ⟨by decide, hh⟩, tm, w64 (by omega)]
      omega
    · rw [show refN 1 x = Int.tmod x 65536 from if_neg (fun h => hh h.2), tm]
      omega
  · refine hTR.trans ?_
    show ((fieldT x 2097152, 0, 0) : Int × Int × Int) = (D, A, B)
    have f0 : fieldT x 2097152 = D := by
      unfold fieldT
      have hq0 : 0 ≤ x / 2097152 := Int.ediv_nonneg hx0.1 (by decide)
      rw [Int.tdiv_eq_ediv_of_nonneg hx0.1, w64 (by omega), Int.tmod_eq_emod_of_nonneg hq0]
      omega
    rw [f0, hA2, hB2]
theorem takePut_2 {D A B N : Int} (hr : isaRight 2 D A B N = true) : isa_Take.f (isaPut 2 D A B N) = some (2, D, A, B, N, true) := by
  have hs := hr
  rw [show (2 : Int) = ((2 : Nat) : Int) from rfl, isaRight_lit 2 (by decide)] at hs
  obtain ⟨hD, hA, hB, hn1, hn2⟩ := says_n (d := true) (a := false) (b := false) (lo := 0) (hi := 65535) hs
  have hD2 := okR_t.1 hD
  have hA2 := okR_f.1 hA
  have hB2 := okR_f.1 hB
  have hsum := putGo_sum D A B [68] 0 2 (N % 65536 : Int).toNat (by decide) (by
    intro c hc
    simp only [List.mem_cons, List.not_mem_nil, or_false] at hc
    obtain rfl := hc
    exact hD2) (by
    show (N % 65536 : Int).toNat < 2 ^ (26 - 5 * (0 + 1))
    rw [show (2 : Nat) ^ (26 - 5 * (0 + 1)) = 2097152 from rfl]
    omega) (by decide)
  have hst := start_sum 2 (by decide) N
  rw [if_neg (by decide)] at hst
  have hv : isaPut 2 D A B N = ((2097152 * (32 * 2 + D.toNat) + (N % 65536 : Int).toNat : Nat) : Int) := by
    show putGo D A B [68] 0 (putStart ((2 : Nat) : Int) N) = _
    rw [hst]
    exact hsum
  obtain ⟨x, hx⟩ : ∃ x, isaPut 2 D A B N = x := ⟨_, rfl⟩
  rw [hx]
  rw [hx] at hv
  clear hsum hst
  have hx0 : 0 ≤ x ∧ x < 4294967296 := by omega
  have hTN := takeN_lit x hx0.1 hx0.2 2 (by decide)
  have hTR := takeRegs x hx0.1 hx0.2 N 2 (by decide)
  refine take_of (kk := 2) (by decide) rfl hr hx hx0 (by omega) ?_ ?_
  · refine hTN.trans ((if_pos (by decide)).trans ?_)
    have tm : Int.tmod x 65536 = x % 65536 := Int.tmod_eq_emod_of_nonneg hx0.1
    rw [show refN 2 x = Int.tmod x 65536 from if_neg (fun h => h.1 (by decide)), tm]
    omega
  · refine hTR.trans ?_
    show ((fieldT x 2097152, 0, 0) : Int × Int × Int) = (D, A, B)
    have f0 : fieldT x 2097152 = D := by
      unfold fieldT
      have hq0 : 0 ≤ x / 2097152 := Int.ediv_nonneg hx0.1 (by decide)
      rw [Int.tdiv_eq_ediv_of_nonneg hx0.1, w64 (by omega), Int.tmod_eq_emod_of_nonneg hq0]
      omega
    rw [f0, hA2, hB2]
theorem takePut_3 {D A B N : Int} (hr : isaRight 3 D A B N = true) : isa_Take.f (isaPut 3 D A B N) = some (3, D, A, B, N, true) := by
  have hs := hr
  rw [show (3 : Int) = ((3 : Nat) : Int) from rfl, isaRight_lit 3 (by decide)] at hs
  obtain ⟨hD, hA, hB, hn1, hn2⟩ := says_n (d := true) (a := true) (b := false) (lo := 0) (hi := 65535) hs
  have hD2 := okR_t.1 hD
  have hA2 := okR_t.1 hA
  have hB2 := okR_f.1 hB
  have hsum := putGo_sum D A B [68, 65] 0 3 (N % 65536 : Int).toNat (by decide) (by
    intro c hc
    simp only [List.mem_cons, List.not_mem_nil, or_false] at hc
    rcases hc with rfl | rfl
    · exact hD2
    · exact hA2) (by
    show (N % 65536 : Int).toNat < 2 ^ (26 - 5 * (0 + 2))
    rw [show (2 : Nat) ^ (26 - 5 * (0 + 2)) = 65536 from rfl]
    omega) (by decide)
  have hst := start_sum 3 (by decide) N
  rw [if_neg (by decide)] at hst
  have hv : isaPut 3 D A B N = ((65536 * (32 * (32 * 3 + D.toNat) + A.toNat) + (N % 65536 : Int).toNat : Nat) : Int) := by
    show putGo D A B [68, 65] 0 (putStart ((3 : Nat) : Int) N) = _
    rw [hst]
    exact hsum
  obtain ⟨x, hx⟩ : ∃ x, isaPut 3 D A B N = x := ⟨_, rfl⟩
  rw [hx]
  rw [hx] at hv
  clear hsum hst
  have hx0 : 0 ≤ x ∧ x < 4294967296 := by omega
  have hTN := takeN_lit x hx0.1 hx0.2 3 (by decide)
  have hTR := takeRegs x hx0.1 hx0.2 N 3 (by decide)
  refine take_of (kk := 3) (by decide) rfl hr hx hx0 (by omega) ?_ ?_
  · refine hTN.trans ((if_pos (by decide)).trans ?_)
    have tm : Int.tmod x 65536 = x % 65536 := Int.tmod_eq_emod_of_nonneg hx0.1
    rw [show refN 3 x = Int.tmod x 65536 from if_neg (fun h => h.1 (by decide)), tm]
    omega
  · refine hTR.trans ?_
    show ((fieldT x 2097152, fieldT x 65536, 0) : Int × Int × Int) = (D, A, B)
    have f0 : fieldT x 2097152 = D := by
      unfold fieldT
      have hq0 : 0 ≤ x / 2097152 := Int.ediv_nonneg hx0.1 (by decide)
      rw [Int.tdiv_eq_ediv_of_nonneg hx0.1, w64 (by omega), Int.tmod_eq_emod_of_nonneg hq0]
      omega
    have f1 : fieldT x 65536 = A := by
      unfold fieldT
      have hq0 : 0 ≤ x / 65536 := Int.ediv_nonneg hx0.1 (by decide)
      rw [Int.tdiv_eq_ediv_of_nonneg hx0.1, w64 (by omega), Int.tmod_eq_emod_of_nonneg hq0]
      omega
    rw [f0, f1, hB2]
theorem takePut_4 {D A B N : Int} (hr : isaRight 4 D A B N = true) : isa_Take.f (isaPut 4 D A B N) = some (4, D, A, B, N, true) := by
  have hs := hr
  rw [show (4 : Int) = ((4 : Nat) : Int) from rfl, isaRight_lit 4 (by decide)] at hs
  obtain ⟨hD, hA, hB, hn⟩ := says_0 (d := true) (a := true) (b := true) (lo := 0) (hi := 0) hs
  subst hn
  have hD2 := okR_t.1 hD
  have hA2 := okR_t.1 hA
  have hB2 := okR_t.1 hB
  have hsum := putGo_sum D A B [68, 65, 66] 0 4 (0 % 65536 : Int).toNat (by decide) (by
    intro c hc
    simp only [List.mem_cons, List.not_mem_nil, or_false] at hc
    rcases hc with rfl | rfl | rfl
    · exact hD2
    · exact hA2
    · exact hB2) (by decide) (by decide)
  have hst := start_sum 4 (by decide) 0
  rw [if_neg (by decide)] at hst
  have hv : isaPut 4 D A B 0 = ((2048 * (32 * (32 * (32 * 4 + D.toNat) + A.toNat) + B.toNat) + (0 % 65536 : Int).toNat : Nat) : Int) := by
    show putGo D A B [68, 65, 66] 0 (putStart ((4 : Nat) : Int) 0) = _
    rw [hst]
    exact hsum
  obtain ⟨x, hx⟩ : ∃ x, isaPut 4 D A B 0 = x := ⟨_, rfl⟩
  rw [hx]
  rw [hx] at hv
  clear hsum hst
  have hx0 : 0 ≤ x ∧ x < 4294967296 := by omega
  have hTN := takeN_lit x hx0.1 hx0.2 4 (by decide)
  have hTR := takeRegs x hx0.1 hx0.2 0 4 (by decide)
  refine take_of (kk := 4) (by decide) rfl hr hx hx0 (by omega) ?_ ?_
  · exact hTN.trans (if_neg (by decide))
  · refine hTR.trans ?_
    show ((fieldT x 2097152, fieldT x 65536, fieldT x 2048) : Int × Int × Int) = (D, A, B)
    have f0 : fieldT x 2097152 = D := by
      unfold fieldT
      have hq0 : 0 ≤ x / 2097152 := Int.ediv_nonneg hx0.1 (by decide)
      rw [Int.tdiv_eq_ediv_of_nonneg hx0.1, w64 (by omega), Int.tmod_eq_emod_of_nonneg hq0]
      omega
    have f1 : fieldT x 65536 = A := by
      unfold fieldT
      have hq0 : 0 ≤ x / 65536 := Int.ediv_nonneg hx0.1 (by decide)
      rw [Int.tdiv_eq_ediv_of_nonneg hx0.1, w64 (by omega), Int.tmod_eq_emod_of_nonneg hq0]
      omega
    have f2 : fieldT x 2048 = B := by
      unfold fieldT
      have hq0 : 0 ≤ x / 2048 := Int.ediv_nonneg hx0.1 (by decide)
      rw [Int.tdiv_eq_ediv_of_nonneg hx0.1, w64 (by omega), Int.tmod_eq_emod_of_nonneg hq0]
      omega
    rw [f0, f1, f2]
theorem takePut_5 {D A B N : Int} (hr : isaRight 5 D A B N = true) : isa_Take.f (isaPut 5 D A B N) = some (5, D, A, B, N, true) := by
  have hs := hr
  rw [show (5 : Int) = ((5 : Nat) : Int) from rfl, isaRight_lit 5 (by decide)] at hs
  obtain ⟨hD, hA, hB, hn⟩ := says_0 (d := true) (a := true) (b := true) (lo := 0) (hi := 0) hs
  subst hn
  have hD2 := okR_t.1 hD
  have hA2 := okR_t.1 hA
  have hB2 := okR_t.1 hB
  have hsum := putGo_sum D A B [68, 65, 66] 0 5 (0 % 65536 : Int).toNat (by decide) (by
    intro c hc
    simp only [List.mem_cons, List.not_mem_nil, or_false] at hc
    rcases hc with rfl | rfl | rfl
    · exact hD2
    · exact hA2
    · exact hB2) (by decide) (by decide)
  have hst := start_sum 5 (by decide) 0
  rw [if_neg (by decide)] at hst
  have hv : isaPut 5 D A B 0 = ((2048 * (32 * (32 * (32 * 5 + D.toNat) + A.toNat) + B.toNat) + (0 % 65536 : Int).toNat : Nat) : Int) := by
    show putGo D A B [68, 65, 66] 0 (putStart ((5 : Nat) : Int) 0) = _
    rw [hst]
    exact hsum
  obtain ⟨x, hx⟩ : ∃ x, isaPut 5 D A B 0 = x := ⟨_, rfl⟩
  rw [hx]
  rw [hx] at hv
  clear hsum hst
  have hx0 : 0 ≤ x ∧ x < 4294967296 := by omega
  have hTN := takeN_lit x hx0.1 hx0.2 5 (by decide)
  have hTR := takeRegs x hx0.1 hx0.2 0 5 (by decide)
  refine take_of (kk := 5) (by decide) rfl hr hx hx0 (by omega) ?_ ?_
  · exact hTN.trans (if_neg (by decide))
  · refine hTR.trans ?_
    show ((fieldT x 2097152, fieldT x 65536, fieldT x 2048) : Int × Int × Int) = (D, A, B)
    have f0 : fieldT x 2097152 = D := by
      unfold fieldT
      have hq0 : 0 ≤ x / 2097152 := Int.ediv_nonneg hx0.1 (by decide)
      rw [Int.tdiv_eq_ediv_of_nonneg hx0.1, w64 (by omega), Int.tmod_eq_emod_of_nonneg hq0]
      omega
    have f1 : fieldT x 65536 = A := by
      unfold fieldT
      have hq0 : 0 ≤ x / 65536 := Int.ediv_nonneg hx0.1 (by decide)
      rw [Int.tdiv_eq_ediv_of_nonneg hx0.1, w64 (by omega), Int.tmod_eq_emod_of_nonneg hq0]
      omega
    have f2 : fieldT x 2048 = B := by
      unfold fieldT
      have hq0 : 0 ≤ x / 2048 := Int.ediv_nonneg hx0.1 (by decide)
      rw [Int.tdiv_eq_ediv_of_nonneg hx0.1, w64 (by omega), Int.tmod_eq_emod_of_nonneg hq0]
      omega
    rw [f0, f1, f2]
theorem takePut_6 {D A B N : Int} (hr : isaRight 6 D A B N = true) : isa_Take.f (isaPut 6 D A B N) = some (6, D, A, B, N, true) := by
  have hs := hr
  rw [show (6 : Int) = ((6 : Nat) : Int) from rfl, isaRight_lit 6 (by decide)] at hs
  obtain ⟨hD, hA, hB, hn⟩ := says_0 (d := true) (a := true) (b := true) (lo := 0) (hi := 0) hs
  subst hn
  have hD2 := okR_t.1 hD
  have hA2 := okR_t.1 hA
  have hB2 := okR_t.1 hB
  have hsum := putGo_sum D A B [68, 65, 66] 0 6 (0 % 65536 : Int).toNat (by decide) (by
    intro c hc
    simp only [List.mem_cons, List.not_mem_nil, or_false] at hc
    rcases hc with rfl | rfl | rfl
    · exact hD2
    · exact hA2
    · exact hB2) (by decide) (by decide)
  have hst := start_sum 6 (by decide) 0
  rw [if_neg (by decide)] at hst
  have hv : isaPut 6 D A B 0 = ((2048 * (32 * (32 * (32 * 6 + D.toNat) + A.toNat) + B.toNat) + (0 % 65536 : Int).toNat : Nat) : Int) := by
    show putGo D A B [68, 65, 66] 0 (putStart ((6 : Nat) : Int) 0) = _
    rw [hst]
    exact hsum
  obtain ⟨x, hx⟩ : ∃ x, isaPut 6 D A B 0 = x := ⟨_, rfl⟩
  rw [hx]
  rw [hx] at hv
  clear hsum hst
  have hx0 : 0 ≤ x ∧ x < 4294967296 := by omega
  have hTN := takeN_lit x hx0.1 hx0.2 6 (by decide)
  have hTR := takeRegs x hx0.1 hx0.2 0 6 (by decide)
  refine take_of (kk := 6) (by decide) rfl hr hx hx0 (by omega) ?_ ?_
  · exact hTN.trans (if_neg (by decide))
  · refine hTR.trans ?_
    show ((fieldT x 2097152, fieldT x 65536, fieldT x 2048) : Int × Int × Int) = (D, A, B)
    have f0 : fieldT x 2097152 = D := by
      unfold fieldT
      have hq0 : 0 ≤ x / 2097152 := Int.ediv_nonneg hx0.1 (by decide)
      rw [Int.tdiv_eq_ediv_of_nonneg hx0.1, w64 (by omega), Int.tmod_eq_emod_of_nonneg hq0]
      omega
    have f1 : fieldT x 65536 = A := by
      unfold fieldT
      have hq0 : 0 ≤ x / 65536 := Int.ediv_nonneg hx0.1 (by decide)
      rw [Int.tdiv_eq_ediv_of_nonneg hx0.1, w64 (by omega), Int.tmod_eq_emod_of_nonneg hq0]
      omega
    have f2 : fieldT x 2048 = B := by
      unfold fieldT
      have hq0 : 0 ≤ x / 2048 := Int.ediv_nonneg hx0.1 (by decide)
      rw [Int.tdiv_eq_ediv_of_nonneg hx0.1, w64 (by omega), Int.tmod_eq_emod_of_nonneg hq0]
      omega
    rw [f0, f1, f2]
theorem takePut_7 {D A B N : Int} (hr : isaRight 7 D A B N = true) : isa_Take.f (isaPut 7 D A B N) = some (7, D, A, B, N, true) := by
  have hs := hr
  rw [show (7 : Int) = ((7 : Nat) : Int) from rfl, isaRight_lit 7 (by decide)] at hs
  obtain ⟨hD, hA, hB, hn⟩ := says_0 (d := true) (a := true) (b := true) (lo := 0) (hi := 0) hs
  subst hn
  have hD2 := okR_t.1 hD
  have hA2 := okR_t.1 hA
  have hB2 := okR_t.1 hB
  have hsum := putGo_sum D A B [68, 65, 66] 0 7 (0 % 65536 : Int).toNat (by decide) (by
    intro c hc
    simp only [List.mem_cons, List.not_mem_nil, or_false] at hc
    rcases hc with rfl | rfl | rfl
    · exact hD2
    · exact hA2
    · exact hB2) (by decide) (by decide)
  have hst := start_sum 7 (by decide) 0
  rw [if_neg (by decide)] at hst
  have hv : isaPut 7 D A B 0 = ((2048 * (32 * (32 * (32 * 7 + D.toNat) + A.toNat) + B.toNat) + (0 % 65536 : Int).toNat : Nat) : Int) := by
    show putGo D A B [68, 65, 66] 0 (putStart ((7 : Nat) : Int) 0) = _
    rw [hst]
    exact hsum
  obtain ⟨x, hx⟩ : ∃ x, isaPut 7 D A B 0 = x := ⟨_, rfl⟩
  rw [hx]
  rw [hx] at hv
  clear hsum hst
  have hx0 : 0 ≤ x ∧ x < 4294967296 := by omega
  have hTN := takeN_lit x hx0.1 hx0.2 7 (by decide)
  have hTR := takeRegs x hx0.1 hx0.2 0 7 (by decide)
  refine take_of (kk := 7) (by decide) rfl hr hx hx0 (by omega) ?_ ?_
  · exact hTN.trans (if_neg (by decide))
  · refine hTR.trans ?_
    show ((fieldT x 2097152, fieldT x 65536, fieldT x 2048) : Int × Int × Int) = (D, A, B)
    have f0 : fieldT x 2097152 = D := by
      unfold fieldT
      have hq0 : 0 ≤ x / 2097152 := Int.ediv_nonneg hx0.1 (by decide)
      rw [Int.tdiv_eq_ediv_of_nonneg hx0.1, w64 (by omega), Int.tmod_eq_emod_of_nonneg hq0]
      omega
    have f1 : fieldT x 65536 = A := by
      unfold fieldT
      have hq0 : 0 ≤ x / 65536 := Int.ediv_nonneg hx0.1 (by decide)
      rw [Int.tdiv_eq_ediv_of_nonneg hx0.1, w64 (by omega), Int.tmod_eq_emod_of_nonneg hq0]
      omega
    have f2 : fieldT x 2048 = B := by
      unfold fieldT
      have hq0 : 0 ≤ x / 2048 := Int.ediv_nonneg hx0.1 (by decide)
      rw [Int.tdiv_eq_ediv_of_nonneg hx0.1, w64 (by omega), Int.tmod_eq_emod_of_nonneg hq0]
      omega
    rw [f0, f1, f2]
theorem takePut_8 {D A B N : Int} (hr : isaRight 8 D A B N = true) : isa_Take.f (isaPut 8 D A B N) = some (8, D, A, B, N, true) := by
  have hs := hr
  rw [show (8 : Int) = ((8 : Nat) : Int) from rfl, isaRight_lit 8 (by decide)] at hs
  obtain ⟨hD, hA, hB, hn⟩ := says_0 (d := true) (a := true) (b := true) (lo := 0) (hi := 0) hs
  subst hn
  have hD2 := okR_t.1 hD
  have hA2 := okR_t.1 hA
  have hB2 := okR_t.1 hB
  have hsum := putGo_sum D A B [68, 65, 66] 0 8 (0 % 65536 : Int).toNat (by decide) (by
    intro c hc
    simp only [List.mem_cons, List.not_mem_nil, or_false] at hc
    rcases hc with rfl | rfl | rfl
    · exact hD2
    · exact hA2
    · exact hB2) (by decide) (by decide)
  have hst := start_sum 8 (by decide) 0
  rw [if_neg (by decide)] at hst
  have hv : isaPut 8 D A B 0 = ((2048 * (32 * (32 * (32 * 8 + D.toNat) + A.toNat) + B.toNat) + (0 % 65536 : Int).toNat : Nat) : Int) := by
    show putGo D A B [68, 65, 66] 0 (putStart ((8 : Nat) : Int) 0) = _
    rw [hst]
    exact hsum
  obtain ⟨x, hx⟩ : ∃ x, isaPut 8 D A B 0 = x := ⟨_, rfl⟩
  rw [hx]
  rw [hx] at hv
  clear hsum hst
  have hx0 : 0 ≤ x ∧ x < 4294967296 := by omega
  have hTN := takeN_lit x hx0.1 hx0.2 8 (by decide)
  have hTR := takeRegs x hx0.1 hx0.2 0 8 (by decide)
  refine take_of (kk := 8) (by decide) rfl hr hx hx0 (by omega) ?_ ?_
  · exact hTN.trans (if_neg (by decide))
  · refine hTR.trans ?_
    show ((fieldT x 2097152, fieldT x 65536, fieldT x 2048) : Int × Int × Int) = (D, A, B)
    have f0 : fieldT x 2097152 = D := by
      unfold fieldT
      have hq0 : 0 ≤ x / 2097152 := Int.ediv_nonneg hx0.1 (by decide)
      rw [Int.tdiv_eq_ediv_of_nonneg hx0.1, w64 (by omega), Int.tmod_eq_emod_of_nonneg hq0]
      omega
    have f1 : fieldT x 65536 = A := by
      unfold fieldT
      have hq0 : 0 ≤ x / 65536 := Int.ediv_nonneg hx0.1 (by decide)
      rw [Int.tdiv_eq_ediv_of_nonneg hx0.1, w64 (by omega), Int.tmod_eq_emod_of_nonneg hq0]
      omega
    have f2 : fieldT x 2048 = B := by
      unfold fieldT
      have hq0 : 0 ≤ x / 2048 := Int.ediv_nonneg hx0.1 (by decide)
      rw [Int.tdiv_eq_ediv_of_nonneg hx0.1, w64 (by omega), Int.tmod_eq_emod_of_nonneg hq0]
      omega
    rw [f0, f1, f2]
theorem takePut_9 {D A B N : Int} (hr : isaRight 9 D A B N = true) : isa_Take.f (isaPut 9 D A B N) = some (9, D, A, B, N, true) := by
  have hs := hr
  rw [show (9 : Int) = ((9 : Nat) : Int) from rfl, isaRight_lit 9 (by decide)] at hs
  obtain ⟨hD, hA, hB, hn⟩ := says_0 (d := true) (a := true) (b := true) (lo := 0) (hi := 0) hs
  subst hn
  have hD2 := okR_t.1 hD
  have hA2 := okR_t.1 hA
  have hB2 := okR_t.1 hB
  have hsum := putGo_sum D A B [68, 65, 66] 0 9 (0 % 65536 : Int).toNat (by decide) (by
    intro c hc
    simp only [List.mem_cons, List.not_mem_nil, or_false] at hc
    rcases hc with rfl | rfl | rfl
    · exact hD2
    · exact hA2
    · exact hB2) (by decide) (by decide)
  have hst := start_sum 9 (by decide) 0
  rw [if_neg (by decide)] at hst
  have hv : isaPut 9 D A B 0 = ((2048 * (32 * (32 * (32 * 9 + D.toNat) + A.toNat) + B.toNat) + (0 % 65536 : Int).toNat : Nat) : Int) := by
    show putGo D A B [68, 65, 66] 0 (putStart ((9 : Nat) : Int) 0) = _
    rw [hst]
    exact hsum
  obtain ⟨x, hx⟩ : ∃ x, isaPut 9 D A B 0 = x := ⟨_, rfl⟩
  rw [hx]
  rw [hx] at hv
  clear hsum hst
  have hx0 : 0 ≤ x ∧ x < 4294967296 := by omega
  have hTN := takeN_lit x hx0.1 hx0.2 9 (by decide)
  have hTR := takeRegs x hx0.1 hx0.2 0 9 (by decide)
  refine take_of (kk := 9) (by decide) rfl hr hx hx0 (by omega) ?_ ?_
  · exact hTN.trans (if_neg (by decide))
  · refine hTR.trans ?_
    show ((fieldT x 2097152, fieldT x 65536, fieldT x 2048) : Int × Int × Int) = (D, A, B)
    have f0 : fieldT x 2097152 = D := by
      unfold fieldT
      have hq0 : 0 ≤ x / 2097152 := Int.ediv_nonneg hx0.1 (by decide)
      rw [Int.tdiv_eq_ediv_of_nonneg hx0.1, w64 (by omega), Int.tmod_eq_emod_of_nonneg hq0]
      omega
    have f1 : fieldT x 65536 = A := by
      unfold fieldT
      have hq0 : 0 ≤ x / 65536 := Int.ediv_nonneg hx0.1 (by decide)
      rw [Int.tdiv_eq_ediv_of_nonneg hx0.1, w64 (by omega), Int.tmod_eq_emod_of_nonneg hq0]
      omega
    have f2 : fieldT x 2048 = B := by
      unfold fieldT
      have hq0 : 0 ≤ x / 2048 := Int.ediv_nonneg hx0.1 (by decide)
      rw [Int.tdiv_eq_ediv_of_nonneg hx0.1, w64 (by omega), Int.tmod_eq_emod_of_nonneg hq0]
      omega
    rw [f0, f1, f2]
theorem takePut_10 {D A B N : Int} (hr : isaRight 10 D A B N = true) : isa_Take.f (isaPut 10 D A B N) = some (10, D, A, B, N, true) := by
  have hs := hr
  rw [show (10 : Int) = ((10 : Nat) : Int) from rfl, isaRight_lit 10 (by decide)] at hs
  obtain ⟨hD, hA, hB, hn⟩ := says_0 (d := true) (a := true) (b := true) (lo := 0) (hi := 0) hs
  subst hn
  have hD2 := okR_t.1 hD
  have hA2 := okR_t.1 hA
  have hB2 := okR_t.1 hB
  have hsum := putGo_sum D A B [68, 65, 66] 0 10 (0 % 65536 : Int).toNat (by decide) (by
    intro c hc
    simp only [List.mem_cons, List.not_mem_nil, or_false] at hc
    rcases hc with rfl | rfl | rfl
    · exact hD2
    · exact hA2
    · exact hB2) (by decide) (by decide)
  have hst := start_sum 10 (by decide) 0
  rw [if_neg (by decide)] at hst
  have hv : isaPut 10 D A B 0 = ((2048 * (32 * (32 * (32 * 10 + D.toNat) + A.toNat) + B.toNat) + (0 % 65536 : Int).toNat : Nat) : Int) := by
    show putGo D A B [68, 65, 66] 0 (putStart ((10 : Nat) : Int) 0) = _
    rw [hst]
    exact hsum
  obtain ⟨x, hx⟩ : ∃ x, isaPut 10 D A B 0 = x := ⟨_, rfl⟩
  rw [hx]
  rw [hx] at hv
  clear hsum hst
  have hx0 : 0 ≤ x ∧ x < 4294967296 := by omega
  have hTN := takeN_lit x hx0.1 hx0.2 10 (by decide)
  have hTR := takeRegs x hx0.1 hx0.2 0 10 (by decide)
  refine take_of (kk := 10) (by decide) rfl hr hx hx0 (by omega) ?_ ?_
  · exact hTN.trans (if_neg (by decide))
  · refine hTR.trans ?_
    show ((fieldT x 2097152, fieldT x 65536, fieldT x 2048) : Int × Int × Int) = (D, A, B)
    have f0 : fieldT x 2097152 = D := by
      unfold fieldT
      have hq0 : 0 ≤ x / 2097152 := Int.ediv_nonneg hx0.1 (by decide)
      rw [Int.tdiv_eq_ediv_of_nonneg hx0.1, w64 (by omega), Int.tmod_eq_emod_of_nonneg hq0]
      omega
    have f1 : fieldT x 65536 = A := by
      unfold fieldT
      have hq0 : 0 ≤ x / 65536 := Int.ediv_nonneg hx0.1 (by decide)
      rw [Int.tdiv_eq_ediv_of_nonneg hx0.1, w64 (by omega), Int.tmod_eq_emod_of_nonneg hq0]
      omega
    have f2 : fieldT x 2048 = B := by
      unfold fieldT
      have hq0 : 0 ≤ x / 2048 := Int.ediv_nonneg hx0.1 (by decide)
      rw [Int.tdiv_eq_ediv_of_nonneg hx0.1, w64 (by omega), Int.tmod_eq_emod_of_nonneg hq0]
      omega
    rw [f0, f1, f2]
theorem takePut_11 {D A B N : Int} (hr : isaRight 11 D A B N = true) : isa_Take.f (isaPut 11 D A B N) = some (11, D, A, B, N, true) := by
  have hs := hr
  rw [show (11 : Int) = ((11 : Nat) : Int) from rfl, isaRight_lit 11 (by decide)] at hs
  obtain ⟨hD, hA, hB, hn⟩ := says_0 (d := true) (a := true) (b := true) (lo := 0) (hi := 0) hs
  subst hn
  have hD2 := okR_t.1 hD
  have hA2 := okR_t.1 hA
  have hB2 := okR_t.1 hB
  have hsum := putGo_sum D A B [68, 65, 66] 0 11 (0 % 65536 : Int).toNat (by decide) (by
    intro c hc
    simp only [List.mem_cons, List.not_mem_nil, or_false] at hc
    rcases hc with rfl | rfl | rfl
    · exact hD2
    · exact hA2
    · exact hB2) (by decide) (by decide)
  have hst := start_sum 11 (by decide) 0
  rw [if_neg (by decide)] at hst
  have hv : isaPut 11 D A B 0 = ((2048 * (32 * (32 * (32 * 11 + D.toNat) + A.toNat) + B.toNat) + (0 % 65536 : Int).toNat : Nat) : Int) := by
    show putGo D A B [68, 65, 66] 0 (putStart ((11 : Nat) : Int) 0) = _
    rw [hst]
    exact hsum
  obtain ⟨x, hx⟩ : ∃ x, isaPut 11 D A B 0 = x := ⟨_, rfl⟩
  rw [hx]
  rw [hx] at hv
  clear hsum hst
  have hx0 : 0 ≤ x ∧ x < 4294967296 := by omega
  have hTN := takeN_lit x hx0.1 hx0.2 11 (by decide)
  have hTR := takeRegs x hx0.1 hx0.2 0 11 (by decide)
  refine take_of (kk := 11) (by decide) rfl hr hx hx0 (by omega) ?_ ?_
  · exact hTN.trans (if_neg (by decide))
  · refine hTR.trans ?_
    show ((fieldT x 2097152, fieldT x 65536, fieldT x 2048) : Int × Int × Int) = (D, A, B)
    have f0 : fieldT x 2097152 = D := by
      unfold fieldT
      have hq0 : 0 ≤ x / 2097152 := Int.ediv_nonneg hx0.1 (by decide)
      rw [Int.tdiv_eq_ediv_of_nonneg hx0.1, w64 (by omega), Int.tmod_eq_emod_of_nonneg hq0]
      omega
    have f1 : fieldT x 65536 = A := by
      unfold fieldT
      have hq0 : 0 ≤ x / 65536 := Int.ediv_nonneg hx0.1 (by decide)
      rw [Int.tdiv_eq_ediv_of_nonneg hx0.1, w64 (by omega), Int.tmod_eq_emod_of_nonneg hq0]
      omega
    have f2 : fieldT x 2048 = B := by
      unfold fieldT
      have hq0 : 0 ≤ x / 2048 := Int.ediv_nonneg hx0.1 (by decide)
      rw [Int.tdiv_eq_ediv_of_nonneg hx0.1, w64 (by omega), Int.tmod_eq_emod_of_nonneg hq0]
      omega
    rw [f0, f1, f2]
theorem takePut_12 {D A B N : Int} (hr : isaRight 12 D A B N = true) : isa_Take.f (isaPut 12 D A B N) = some (12, D, A, B, N, true) := by
  have hs := hr
  rw [show (12 : Int) = ((12 : Nat) : Int) from rfl, isaRight_lit 12 (by decide)] at hs
  obtain ⟨hD, hA, hB, hn⟩ := says_0 (d := true) (a := true) (b := true) (lo := 0) (hi := 0) hs
  subst hn
  have hD2 := okR_t.1 hD
  have hA2 := okR_t.1 hA
  have hB2 := okR_t.1 hB
  have hsum := putGo_sum D A B [68, 65, 66] 0 12 (0 % 65536 : Int).toNat (by decide) (by
    intro c hc
    simp only [List.mem_cons, List.not_mem_nil, or_false] at hc
    rcases hc with rfl | rfl | rfl
    · exact hD2
    · exact hA2
    · exact hB2) (by decide) (by decide)
  have hst := start_sum 12 (by decide) 0
  rw [if_neg (by decide)] at hst
  have hv : isaPut 12 D A B 0 = ((2048 * (32 * (32 * (32 * 12 + D.toNat) + A.toNat) + B.toNat) + (0 % 65536 : Int).toNat : Nat) : Int) := by
    show putGo D A B [68, 65, 66] 0 (putStart ((12 : Nat) : Int) 0) = _
    rw [hst]
    exact hsum
  obtain ⟨x, hx⟩ : ∃ x, isaPut 12 D A B 0 = x := ⟨_, rfl⟩
  rw [hx]
  rw [hx] at hv
  clear hsum hst
  have hx0 : 0 ≤ x ∧ x < 4294967296 := by omega
  have hTN := takeN_lit x hx0.1 hx0.2 12 (by decide)
  have hTR := takeRegs x hx0.1 hx0.2 0 12 (by decide)
  refine take_of (kk := 12) (by decide) rfl hr hx hx0 (by omega) ?_ ?_
  · exact hTN.trans (if_neg (by decide))
  · refine hTR.trans ?_
    show ((fieldT x 2097152, fieldT x 65536, fieldT x 2048) : Int × Int × Int) = (D, A, B)
    have f0 : fieldT x 2097152 = D := by
      unfold fieldT
      have hq0 : 0 ≤ x / 2097152 := Int.ediv_nonneg hx0.1 (by decide)
      rw [Int.tdiv_eq_ediv_of_nonneg hx0.1, w64 (by omega), Int.tmod_eq_emod_of_nonneg hq0]
      omega
    have f1 : fieldT x 65536 = A := by
      unfold fieldT
      have hq0 : 0 ≤ x / 65536 := Int.ediv_nonneg hx0.1 (by decide)
      rw [Int.tdiv_eq_ediv_of_nonneg hx0.1, w64 (by omega), Int.tmod_eq_emod_of_nonneg hq0]
      omega
    have f2 : fieldT x 2048 = B := by
      unfold fieldT
      have hq0 : 0 ≤ x / 2048 := Int.ediv_nonneg hx0.1 (by decide)
      rw [Int.tdiv_eq_ediv_of_nonneg hx0.1, w64 (by omega), Int.tmod_eq_emod_of_nonneg hq0]
      omega
    rw [f0, f1, f2]
theorem takePut_13 {D A B N : Int} (hr : isaRight 13 D A B N = true) : isa_Take.f (isaPut 13 D A B N) = some (13, D, A, B, N, true) := by
  have hs := hr
  rw [show (13 : Int) = ((13 : Nat) : Int) from rfl, isaRight_lit 13 (by decide)] at hs
  obtain ⟨hD, hA, hB, hn1, hn2⟩ := says_n (d := true) (a := true) (b := false) (lo := 0) (hi := 31) hs
  have hD2 := okR_t.1 hD
  have hA2 := okR_t.1 hA
  have hB2 := okR_f.1 hB
  have hsum := putGo_sum D A B [68, 65] 0 13 (N % 65536 : Int).toNat (by decide) (by
    intro c hc
    simp only [List.mem_cons, List.not_mem_nil, or_false] at hc
    rcases hc with rfl | rfl
    · exact hD2
    · exact hA2) (by
    show (N % 65536 : Int).toNat < 2 ^ (26 - 5 * (0 + 2))
    rw [show (2 : Nat) ^ (26 - 5 * (0 + 2)) = 65536 from rfl]
    omega) (by decide)
  have hst := start_sum 13 (by decide) N
  rw [if_neg (by decide)] at hst
  have hv : isaPut 13 D A B N = ((65536 * (32 * (32 * 13 + D.toNat) + A.toNat) + (N % 65536 : Int).toNat : Nat) : Int) := by
    show putGo D A B [68, 65] 0 (putStart ((13 : Nat) : Int) N) = _
    rw [hst]
    exact hsum
  obtain ⟨x, hx⟩ : ∃ x, isaPut 13 D A B N = x := ⟨_, rfl⟩
  rw [hx]
  rw [hx] at hv
  clear hsum hst
  have hx0 : 0 ≤ x ∧ x < 4294967296 := by omega
  have hTN := takeN_lit x hx0.1 hx0.2 13 (by decide)
  have hTR := takeRegs x hx0.1 hx0.2 N 13 (by decide)
  refine take_of (kk := 13) (by decide) rfl hr hx hx0 (by omega) ?_ ?_
  · refine hTN.trans ((if_pos (by decide)).trans ?_)
    have tm : Int.tmod x 65536 = x % 65536 := Int.tmod_eq_emod_of_nonneg hx0.1
    rw [show refN 13 x = Int.tmod x 65536 from if_neg (fun h => h.1 (by decide)), tm]
    omega
  · refine hTR.trans ?_
    show ((fieldT x 2097152, fieldT x 65536, 0) : Int × Int × Int) = (D, A, B)
    have f0 : fieldT x 2097152 = D := by
      unfold fieldT
      have hq0 : 0 ≤ x / 2097152 := Int.ediv_nonneg hx0.1 (by decide)
      rw [Int.tdiv_eq_ediv_of_nonneg hx0.1, w64 (by omega), Int.tmod_eq_emod_of_nonneg hq0]
      omega
    have f1 : fieldT x 65536 = A := by
      unfold fieldT
      have hq0 : 0 ≤ x / 65536 := Int.ediv_nonneg hx0.1 (by decide)
      rw [Int.tdiv_eq_ediv_of_nonneg hx0.1, w64 (by omega), Int.tmod_eq_emod_of_nonneg hq0]
      omega
    rw [f0, f1, hB2]
theorem takePut_14 {D A B N : Int} (hr : isaRight 14 D A B N = true) : isa_Take.f (isaPut 14 D A B N) = some (14, D, A, B, N, true) := by
  have hs := hr
  rw [show (14 : Int) = ((14 : Nat) : Int) from rfl, isaRight_lit 14 (by decide)] at hs
  obtain ⟨hD, hA, hB, hn1, hn2⟩ := says_n (d := true) (a := true) (b := false) (lo := 0) (hi := 31) hs
  have hD2 := okR_t.1 hD
  have hA2 := okR_t.1 hA
  have hB2 := okR_f.1 hB
  have hsum := putGo_sum D A B [68, 65] 0 14 (N % 65536 : Int).toNat (by decide) (by
    intro c hc
    simp only [List.mem_cons, List.not_mem_nil, or_false] at hc
    rcases hc with rfl | rfl
    · exact hD2
    · exact hA2) (by
    show (N % 65536 : Int).toNat < 2 ^ (26 - 5 * (0 + 2))
    rw [show (2 : Nat) ^ (26 - 5 * (0 + 2)) = 65536 from rfl]
    omega) (by decide)
  have hst := start_sum 14 (by decide) N
  rw [if_neg (by decide)] at hst
  have hv : isaPut 14 D A B N = ((65536 * (32 * (32 * 14 + D.toNat) + A.toNat) + (N % 65536 : Int).toNat : Nat) : Int) := by
    show putGo D A B [68, 65] 0 (putStart ((14 : Nat) : Int) N) = _
    rw [hst]
    exact hsum
  obtain ⟨x, hx⟩ : ∃ x, isaPut 14 D A B N = x := ⟨_, rfl⟩
  rw [hx]
  rw [hx] at hv
  clear hsum hst
  have hx0 : 0 ≤ x ∧ x < 4294967296 := by omega
  have hTN := takeN_lit x hx0.1 hx0.2 14 (by decide)
  have hTR := takeRegs x hx0.1 hx0.2 N 14 (by decide)
  refine take_of (kk := 14) (by decide) rfl hr hx hx0 (by omega) ?_ ?_
  · refine hTN.trans ((if_pos (by decide)).trans ?_)
    have tm : Int.tmod x 65536 = x % 65536 := Int.tmod_eq_emod_of_nonneg hx0.1
    rw [show refN 14 x = Int.tmod x 65536 from if_neg (fun h => h.1 (by decide)), tm]
    omega
  · refine hTR.trans ?_
    show ((fieldT x 2097152, fieldT x 65536, 0) : Int × Int × Int) = (D, A, B)
    have f0 : fieldT x 2097152 = D := by
      unfold fieldT
      have hq0 : 0 ≤ x / 2097152 := Int.ediv_nonneg hx0.1 (by decide)
      rw [Int.tdiv_eq_ediv_of_nonneg hx0.1, w64 (by omega), Int.tmod_eq_emod_of_nonneg hq0]
      omega
    have f1 : fieldT x 65536 = A := by
      unfold fieldT
      have hq0 : 0 ≤ x / 65536 := Int.ediv_nonneg hx0.1 (by decide)
      rw [Int.tdiv_eq_ediv_of_nonneg hx0.1, w64 (by omega), Int.tmod_eq_emod_of_nonneg hq0]
      omega
    rw [f0, f1, hB2]
theorem takePut_15 {D A B N : Int} (hr : isaRight 15 D A B N = true) : isa_Take.f (isaPut 15 D A B N) = some (15, D, A, B, N, true) := by
  have hs := hr
  rw [show (15 : Int) = ((15 : Nat) : Int) from rfl, isaRight_lit 15 (by decide)] at hs
  obtain ⟨hD, hA, hB, hn1, hn2⟩ := says_n (d := true) (a := true) (b := false) (lo := 0) (hi := 31) hs
  have hD2 := okR_t.1 hD
  have hA2 := okR_t.1 hA
  have hB2 := okR_f.1 hB
  have hsum := putGo_sum D A B [68, 65] 0 15 (N % 65536 : Int).toNat (by decide) (by
    intro c hc
    simp only [List.mem_cons, List.not_mem_nil, or_false] at hc
    rcases hc with rfl | rfl
    · exact hD2
    · exact hA2) (by
    show (N % 65536 : Int).toNat < 2 ^ (26 - 5 * (0 + 2))
    rw [show (2 : Nat) ^ (26 - 5 * (0 + 2)) = 65536 from rfl]
    omega) (by decide)
  have hst := start_sum 15 (by decide) N
  rw [if_neg (by decide)] at hst
  have hv : isaPut 15 D A B N = ((65536 * (32 * (32 * 15 + D.toNat) + A.toNat) + (N % 65536 : Int).toNat : Nat) : Int) := by
    show putGo D A B [68, 65] 0 (putStart ((15 : Nat) : Int) N) = _
    rw [hst]
    exact hsum
  obtain ⟨x, hx⟩ : ∃ x, isaPut 15 D A B N = x := ⟨_, rfl⟩
  rw [hx]
  rw [hx] at hv
  clear hsum hst
  have hx0 : 0 ≤ x ∧ x < 4294967296 := by omega
  have hTN := takeN_lit x hx0.1 hx0.2 15 (by decide)
  have hTR := takeRegs x hx0.1 hx0.2 N 15 (by decide)
  refine take_of (kk := 15) (by decide) rfl hr hx hx0 (by omega) ?_ ?_
  · refine hTN.trans ((if_pos (by decide)).trans ?_)
    have tm : Int.tmod x 65536 = x % 65536 := Int.tmod_eq_emod_of_nonneg hx0.1
    rw [show refN 15 x = Int.tmod x 65536 from if_neg (fun h => h.1 (by decide)), tm]
    omega
  · refine hTR.trans ?_
    show ((fieldT x 2097152, fieldT x 65536, 0) : Int × Int × Int) = (D, A, B)
    have f0 : fieldT x 2097152 = D := by
      unfold fieldT
      have hq0 : 0 ≤ x / 2097152 := Int.ediv_nonneg hx0.1 (by decide)
      rw [Int.tdiv_eq_ediv_of_nonneg hx0.1, w64 (by omega), Int.tmod_eq_emod_of_nonneg hq0]
      omega
    have f1 : fieldT x 65536 = A := by
      unfold fieldT
      have hq0 : 0 ≤ x / 65536 := Int.ediv_nonneg hx0.1 (by decide)
      rw [Int.tdiv_eq_ediv_of_nonneg hx0.1, w64 (by omega), Int.tmod_eq_emod_of_nonneg hq0]
      omega
    rw [f0, f1, hB2]
theorem takePut_16 {D A B N : Int} (hr : isaRight 16 D A B N = true) : isa_Take.f (isaPut 16 D A B N) = some (16, D, A, B, N, true) := by
  have hs := hr
  rw [show (16 : Int) = ((16 : Nat) : Int) from rfl, isaRight_lit 16 (by decide)] at hs
  obtain ⟨hD, hA, hB, hn1, hn2⟩ := says_n (d := true) (a := true) (b := false) (lo := -32768) (hi := 32767) hs
  have hD2 := okR_t.1 hD
  have hA2 := okR_t.1 hA
  have hB2 := okR_f.1 hB
  have hsum := putGo_sum D A B [68, 65] 0 16 (N % 65536 : Int).toNat (by decide) (by
    intro c hc
    simp only [List.mem_cons, List.not_mem_nil, or_false] at hc
    rcases hc with rfl | rfl
    · exact hD2
    · exact hA2) (by
    show (N % 65536 : Int).toNat < 2 ^ (26 - 5 * (0 + 2))
    rw [show (2 : Nat) ^ (26 - 5 * (0 + 2)) = 65536 from rfl]
    omega) (by decide)
  have hst := start_sum 16 (by decide) N
  rw [if_neg (by decide)] at hst
  have hv : isaPut 16 D A B N = ((65536 * (32 * (32 * 16 + D.toNat) + A.toNat) + (N % 65536 : Int).toNat : Nat) : Int) := by
    show putGo D A B [68, 65] 0 (putStart ((16 : Nat) : Int) N) = _
    rw [hst]
    exact hsum
  obtain ⟨x, hx⟩ : ∃ x, isaPut 16 D A B N = x := ⟨_, rfl⟩
  rw [hx]
  rw [hx] at hv
  clear hsum hst
  have hx0 : 0 ≤ x ∧ x < 4294967296 := by omega
  have hTN := takeN_lit x hx0.1 hx0.2 16 (by decide)
  have hTR := takeRegs x hx0.1 hx0.2 N 16 (by decide)
  refine take_of (kk := 16) (by decide) rfl hr hx hx0 (by omega) ?_ ?_
  · refine hTN.trans ((if_pos (by decide)).trans ?_)
    have tm : Int.tmod x 65536 = x % 65536 := Int.tmod_eq_emod_of_nonneg hx0.1
    by_cases hh : Int.tmod x 65536 ≥ 32768
    · rw [show refN 16 x = wrap64 (Int.tmod x 65536 - 65536) from if_pos ⟨by decide, hh⟩, tm, w64 (by omega)]
      omega
    · rw [show refN 16 x = Int.tmod x 65536 from if_neg (fun h => hh h.2), tm]
      omega
  · refine hTR.trans ?_
    show ((fieldT x 2097152, fieldT x 65536, 0) : Int × Int × Int) = (D, A, B)
    have f0 : fieldT x 2097152 = D := by
      unfold fieldT
      have hq0 : 0 ≤ x / 2097152 := Int.ediv_nonneg hx0.1 (by decide)
      rw [Int.tdiv_eq_ediv_of_nonneg hx0.1, w64 (by omega), Int.tmod_eq_emod_of_nonneg hq0]
      omega
    have f1 : fieldT x 65536 = A := by
      unfold fieldT
      have hq0 : 0 ≤ x / 65536 := Int.ediv_nonneg hx0.1 (by decide)
      rw [Int.tdiv_eq_ediv_of_nonneg hx0.1, w64 (by omega), Int.tmod_eq_emod_of_nonneg hq0]
      omega
    rw [f0, f1, hB2]
theorem takePut_17 {D A B N : Int} (hr : isaRight 17 D A B N = true) : isa_Take.f (isaPut 17 D A B N) = some (17, D, A, B, N, true) := by
  have hs := hr
  rw [show (17 : Int) = ((17 : Nat) : Int) from rfl, isaRight_lit 17 (by decide)] at hs
  obtain ⟨hD, hA, hB, hn1, hn2⟩ := says_n (d := true) (a := true) (b := false) (lo := -32768) (hi := 32767) hs
  have hD2 := okR_t.1 hD
  have hA2 := okR_t.1 hA
  have hB2 := okR_f.1 hB
  have hsum := putGo_sum D A B [68, 65] 0 17 (N % 65536 : Int).toNat (by decide) (by
    intro c hc
    simp only [List.mem_cons, List.not_mem_nil, or_false] at hc
    rcases hc with rfl | rfl
    · exact hD2
    · exact hA2) (by
    show (N % 65536 : Int).toNat < 2 ^ (26 - 5 * (0 + 2))
    rw [show (2 : Nat) ^ (26 - 5 * (0 + 2)) = 65536 from rfl]
    omega) (by decide)
  have hst := start_sum 17 (by decide) N
  rw [if_neg (by decide)] at hst
  have hv : isaPut 17 D A B N = ((65536 * (32 * (32 * 17 + D.toNat) + A.toNat) + (N % 65536 : Int).toNat : Nat) : Int) := by
    show putGo D A B [68, 65] 0 (putStart ((17 : Nat) : Int) N) = _
    rw [hst]
    exact hsum
  obtain ⟨x, hx⟩ : ∃ x, isaPut 17 D A B N = x := ⟨_, rfl⟩
  rw [hx]
  rw [hx] at hv
  clear hsum hst
  have hx0 : 0 ≤ x ∧ x < 4294967296 := by omega
  have hTN := takeN_lit x hx0.1 hx0.2 17 (by decide)
  have hTR := takeRegs x hx0.1 hx0.2 N 17 (by decide)
  refine take_of (kk := 17) (by decide) rfl hr hx hx0 (by omega) ?_ ?_
  · refine hTN.trans ((if_pos (by decide)).trans ?_)
    have tm : Int.tmod x 65536 = x % 65536 := Int.tmod_eq_emod_of_nonneg hx0.1
    by_cases hh : Int.tmod x 65536 ≥ 32768
    · rw [show refN 17 x = wrap64 (Int.tmod x 65536 - 65536) from if_pos ⟨by decide, hh⟩, tm, w64 (by omega)]
      omega
    · rw [show refN 17 x = Int.tmod x 65536 from if_neg (fun h => hh h.2), tm]
      omega
  · refine hTR.trans ?_
    show ((fieldT x 2097152, fieldT x 65536, 0) : Int × Int × Int) = (D, A, B)
    have f0 : fieldT x 2097152 = D := by
      unfold fieldT
      have hq0 : 0 ≤ x / 2097152 := Int.ediv_nonneg hx0.1 (by decide)
      rw [Int.tdiv_eq_ediv_of_nonneg hx0.1, w64 (by omega), Int.tmod_eq_emod_of_nonneg hq0]
      omega
    have f1 : fieldT x 65536 = A := by
      unfold fieldT
      have hq0 : 0 ≤ x / 65536 := Int.ediv_nonneg hx0.1 (by decide)
      rw [Int.tdiv_eq_ediv_of_nonneg hx0.1, w64 (by omega), Int.tmod_eq_emod_of_nonneg hq0]
      omega
    rw [f0, f1, hB2]
theorem takePut_18 {D A B N : Int} (hr : isaRight 18 D A B N = true) : isa_Take.f (isaPut 18 D A B N) = some (18, D, A, B, N, true) := by
  have hs := hr
  rw [show (18 : Int) = ((18 : Nat) : Int) from rfl, isaRight_lit 18 (by decide)] at hs
  obtain ⟨hD, hA, hB, hn1, hn2⟩ := says_n (d := false) (a := true) (b := true) (lo := -32768) (hi := 32767) hs
  have hD2 := okR_f.1 hD
  have hA2 := okR_t.1 hA
  have hB2 := okR_t.1 hB
  have hsum := putGo_sum D A B [66, 65] 0 18 (N % 65536 : Int).toNat (by decide) (by
    intro c hc
    simp only [List.mem_cons, List.not_mem_nil, or_false] at hc
    rcases hc with rfl | rfl
    · exact hB2
    · exact hA2) (by
    show (N % 65536 : Int).toNat < 2 ^ (26 - 5 * (0 + 2))
    rw [show (2 : Nat) ^ (26 - 5 * (0 + 2)) = 65536 from rfl]
    omega) (by decide)
  have hst := start_sum 18 (by decide) N
  rw [if_neg (by decide)] at hst
  have hv : isaPut 18 D A B N = ((65536 * (32 * (32 * 18 + B.toNat) + A.toNat) + (N % 65536 : Int).toNat : Nat) : Int) := by
    show putGo D A B [66, 65] 0 (putStart ((18 : Nat) : Int) N) = _
    rw [hst]
    exact hsum
  obtain ⟨x, hx⟩ : ∃ x, isaPut 18 D A B N = x := ⟨_, rfl⟩
  rw [hx]
  rw [hx] at hv
  clear hsum hst
  have hx0 : 0 ≤ x ∧ x < 4294967296 := by omega
  have hTN := takeN_lit x hx0.1 hx0.2 18 (by decide)
  have hTR := takeRegs x hx0.1 hx0.2 N 18 (by decide)
  refine take_of (kk := 18) (by decide) rfl hr hx hx0 (by omega) ?_ ?_
  · refine hTN.trans ((if_pos (by decide)).trans ?_)
    have tm : Int.tmod x 65536 = x % 65536 := Int.tmod_eq_emod_of_nonneg hx0.1
    by_cases hh : Int.tmod x 65536 ≥ 32768
    · rw [show refN 18 x = wrap64 (Int.tmod x 65536 - 65536) from if_pos ⟨by decide, hh⟩, tm, w64 (by omega)]
      omega
    · rw [show refN 18 x = Int.tmod x 65536 from if_neg (fun h => hh h.2), tm]
      omega
  · refine hTR.trans ?_
    show ((0, fieldT x 65536, fieldT x 2097152) : Int × Int × Int) = (D, A, B)
    have f0 : fieldT x 2097152 = B := by
      unfold fieldT
      have hq0 : 0 ≤ x / 2097152 := Int.ediv_nonneg hx0.1 (by decide)
      rw [Int.tdiv_eq_ediv_of_nonneg hx0.1, w64 (by omega), Int.tmod_eq_emod_of_nonneg hq0]
      omega
    have f1 : fieldT x 65536 = A := by
      unfold fieldT
      have hq0 : 0 ≤ x / 65536 := Int.ediv_nonneg hx0.1 (by decide)
      rw [Int.tdiv_eq_ediv_of_nonneg hx0.1, w64 (by omega), Int.tmod_eq_emod_of_nonneg hq0]
      omega
    rw [f0, f1, hD2]
theorem takePut_19 {D A B N : Int} (hr : isaRight 19 D A B N = true) : isa_Take.f (isaPut 19 D A B N) = some (19, D, A, B, N, true) := by
  have hs := hr
  rw [show (19 : Int) = ((19 : Nat) : Int) from rfl, isaRight_lit 19 (by decide)] at hs
  obtain ⟨hD, hA, hB, hn1, hn2⟩ := says_n (d := false) (a := true) (b := true) (lo := -32768) (hi := 32767) hs
  have hD2 := okR_f.1 hD
  have hA2 := okR_t.1 hA
  have hB2 := okR_t.1 hB
  have hsum := putGo_sum D A B [65, 66] 0 19 (N % 65536 : Int).toNat (by decide) (by
    intro c hc
    simp only [List.mem_cons, List.not_mem_nil, or_false] at hc
    rcases hc with rfl | rfl
    · exact hA2
    · exact hB2) (by
    show (N % 65536 : Int).toNat < 2 ^ (26 - 5 * (0 + 2))
    rw [show (2 : Nat) ^ (26 - 5 * (0 + 2)) = 65536 from rfl]
    omega) (by decide)
  have hst := start_sum 19 (by decide) N
  rw [if_neg (by decide)] at hst
  have hv : isaPut 19 D A B N = ((65536 * (32 * (32 * 19 + A.toNat) + B.toNat) + (N % 65536 : Int).toNat : Nat) : Int) := by
    show putGo D A B [65, 66] 0 (putStart ((19 : Nat) : Int) N) = _
    rw [hst]
    exact hsum
  obtain ⟨x, hx⟩ : ∃ x, isaPut 19 D A B N = x := ⟨_, rfl⟩
  rw [hx]
  rw [hx] at hv
  clear hsum hst
  have hx0 : 0 ≤ x ∧ x < 4294967296 := by omega
  have hTN := takeN_lit x hx0.1 hx0.2 19 (by decide)
  have hTR := takeRegs x hx0.1 hx0.2 N 19 (by decide)
  refine take_of (kk := 19) (by decide) rfl hr hx hx0 (by omega) ?_ ?_
  · refine hTN.trans ((if_pos (by decide)).trans ?_)
    have tm : Int.tmod x 65536 = x % 65536 := Int.tmod_eq_emod_of_nonneg hx0.1
    by_cases hh : Int.tmod x 65536 ≥ 32768
    · rw [show refN 19 x = wrap64 (Int.tmod x 65536 - 65536) from if_pos ⟨by decide, hh⟩, tm, w64 (by omega)]
      omega
    · rw [show refN 19 x = Int.tmod x 65536 from if_neg (fun h => hh h.2), tm]
      omega
  · refine hTR.trans ?_
    show ((0, fieldT x 2097152, fieldT x 65536) : Int × Int × Int) = (D, A, B)
    have f0 : fieldT x 2097152 = A := by
      unfold fieldT
      have hq0 : 0 ≤ x / 2097152 := Int.ediv_nonneg hx0.1 (by decide)
      rw [Int.tdiv_eq_ediv_of_nonneg hx0.1, w64 (by omega), Int.tmod_eq_emod_of_nonneg hq0]
      omega
    have f1 : fieldT x 65536 = B := by
      unfold fieldT
      have hq0 : 0 ≤ x / 65536 := Int.ediv_nonneg hx0.1 (by decide)
      rw [Int.tdiv_eq_ediv_of_nonneg hx0.1, w64 (by omega), Int.tmod_eq_emod_of_nonneg hq0]
      omega
    rw [f0, f1, hD2]
theorem takePut_20 {D A B N : Int} (hr : isaRight 20 D A B N = true) : isa_Take.f (isaPut 20 D A B N) = some (20, D, A, B, N, true) := by
  have hs := hr
  rw [show (20 : Int) = ((20 : Nat) : Int) from rfl, isaRight_lit 20 (by decide)] at hs
  obtain ⟨hD, hA, hB, hn1, hn2⟩ := says_n (d := false) (a := true) (b := true) (lo := -32768) (hi := 32767) hs
  have hD2 := okR_f.1 hD
  have hA2 := okR_t.1 hA
  have hB2 := okR_t.1 hB
  have hsum := putGo_sum D A B [65, 66] 0 20 (N % 65536 : Int).toNat (by decide) (by
    intro c hc
    simp only [List.mem_cons, List.not_mem_nil, or_false] at hc
    rcases hc with rfl | rfl
    · exact hA2
    · exact hB2) (by
    show (N % 65536 : Int).toNat < 2 ^ (26 - 5 * (0 + 2))
    rw [show (2 : Nat) ^ (26 - 5 * (0 + 2)) = 65536 from rfl]
    omega) (by decide)
  have hst := start_sum 20 (by decide) N
  rw [if_neg (by decide)] at hst
  have hv : isaPut 20 D A B N = ((65536 * (32 * (32 * 20 + A.toNat) + B.toNat) + (N % 65536 : Int).toNat : Nat) : Int) := by
    show putGo D A B [65, 66] 0 (putStart ((20 : Nat) : Int) N) = _
    rw [hst]
    exact hsum
  obtain ⟨x, hx⟩ : ∃ x, isaPut 20 D A B N = x := ⟨_, rfl⟩
  rw [hx]
  rw [hx] at hv
  clear hsum hst
  have hx0 : 0 ≤ x ∧ x < 4294967296 := by omega
  have hTN := takeN_lit x hx0.1 hx0.2 20 (by decide)
  have hTR := takeRegs x hx0.1 hx0.2 N 20 (by decide)
  refine take_of (kk := 20) (by decide) rfl hr hx hx0 (by omega) ?_ ?_
  · refine hTN.trans ((if_pos (by decide)).trans ?_)
    have tm : Int.tmod x 65536 = x % 65536 := Int.tmod_eq_emod_of_nonneg hx0.1
    by_cases hh : Int.tmod x 65536 ≥ 32768
    · rw [show refN 20 x = wrap64 (Int.tmod x 65536 - 65536) from if_pos ⟨by decide, hh⟩, tm, w64 (by omega)]
      omega
    · rw [show refN 20 x = Int.tmod x 65536 from if_neg (fun h => hh h.2), tm]
      omega
  · refine hTR.trans ?_
    show ((0, fieldT x 2097152, fieldT x 65536) : Int × Int × Int) = (D, A, B)
    have f0 : fieldT x 2097152 = A := by
      unfold fieldT
      have hq0 : 0 ≤ x / 2097152 := Int.ediv_nonneg hx0.1 (by decide)
      rw [Int.tdiv_eq_ediv_of_nonneg hx0.1, w64 (by omega), Int.tmod_eq_emod_of_nonneg hq0]
      omega
    have f1 : fieldT x 65536 = B := by
      unfold fieldT
      have hq0 : 0 ≤ x / 65536 := Int.ediv_nonneg hx0.1 (by decide)
      rw [Int.tdiv_eq_ediv_of_nonneg hx0.1, w64 (by omega), Int.tmod_eq_emod_of_nonneg hq0]
      omega
    rw [f0, f1, hD2]
theorem takePut_21 {D A B N : Int} (hr : isaRight 21 D A B N = true) : isa_Take.f (isaPut 21 D A B N) = some (21, D, A, B, N, true) := by
  have hs := hr
  rw [show (21 : Int) = ((21 : Nat) : Int) from rfl, isaRight_lit 21 (by decide)] at hs
  obtain ⟨hD, hA, hB, hn1, hn2⟩ := says_n (d := false) (a := true) (b := true) (lo := -32768) (hi := 32767) hs
  have hD2 := okR_f.1 hD
  have hA2 := okR_t.1 hA
  have hB2 := okR_t.1 hB
  have hsum := putGo_sum D A B [65, 66] 0 21 (N % 65536 : Int).toNat (by decide) (by
    intro c hc
    simp only [List.mem_cons, List.not_mem_nil, or_false] at hc
    rcases hc with rfl | rfl
    · exact hA2
    · exact hB2) (by
    show (N % 65536 : Int).toNat < 2 ^ (26 - 5 * (0 + 2))
    rw [show (2 : Nat) ^ (26 - 5 * (0 + 2)) = 65536 from rfl]
    omega) (by decide)
  have hst := start_sum 21 (by decide) N
  rw [if_neg (by decide)] at hst
  have hv : isaPut 21 D A B N = ((65536 * (32 * (32 * 21 + A.toNat) + B.toNat) + (N % 65536 : Int).toNat : Nat) : Int) := by
    show putGo D A B [65, 66] 0 (putStart ((21 : Nat) : Int) N) = _
    rw [hst]
    exact hsum
  obtain ⟨x, hx⟩ : ∃ x, isaPut 21 D A B N = x := ⟨_, rfl⟩
  rw [hx]
  rw [hx] at hv
  clear hsum hst
  have hx0 : 0 ≤ x ∧ x < 4294967296 := by omega
  have hTN := takeN_lit x hx0.1 hx0.2 21 (by decide)
  have hTR := takeRegs x hx0.1 hx0.2 N 21 (by decide)
  refine take_of (kk := 21) (by decide) rfl hr hx hx0 (by omega) ?_ ?_
  · refine hTN.trans ((if_pos (by decide)).trans ?_)
    have tm : Int.tmod x 65536 = x % 65536 := Int.tmod_eq_emod_of_nonneg hx0.1
    by_cases hh : Int.tmod x 65536 ≥ 32768
    · rw [show refN 21 x = wrap64 (Int.tmod x 65536 - 65536) from if_pos ⟨by decide, hh⟩, tm, w64 (by omega)]
      omega
    · rw [show refN 21 x = Int.tmod x 65536 from if_neg (fun h => hh h.2), tm]
      omega
  · refine hTR.trans ?_
    show ((0, fieldT x 2097152, fieldT x 65536) : Int × Int × Int) = (D, A, B)
    have f0 : fieldT x 2097152 = A := by
      unfold fieldT
      have hq0 : 0 ≤ x / 2097152 := Int.ediv_nonneg hx0.1 (by decide)
      rw [Int.tdiv_eq_ediv_of_nonneg hx0.1, w64 (by omega), Int.tmod_eq_emod_of_nonneg hq0]
      omega
    have f1 : fieldT x 65536 = B := by
      unfold fieldT
      have hq0 : 0 ≤ x / 65536 := Int.ediv_nonneg hx0.1 (by decide)
      rw [Int.tdiv_eq_ediv_of_nonneg hx0.1, w64 (by omega), Int.tmod_eq_emod_of_nonneg hq0]
      omega
    rw [f0, f1, hD2]
theorem takePut_22 {D A B N : Int} (hr : isaRight 22 D A B N = true) : isa_Take.f (isaPut 22 D A B N) = some (22, D, A, B, N, true) := by
  have hs := hr
  rw [show (22 : Int) = ((22 : Nat) : Int) from rfl, isaRight_lit 22 (by decide)] at hs
  obtain ⟨hD, hA, hB, hn1, hn2⟩ := says_n (d := true) (a := false) (b := false) (lo := -1048576) (hi := 1048575) hs
  have hD2 := okR_t.1 hD
  have hA2 := okR_f.1 hA
  have hB2 := okR_f.1 hB
  have hsum := putGo_sum D A B [68] 0 22 (N % 2097152 : Int).toNat (by decide) (by
    intro c hc
    simp only [List.mem_cons, List.not_mem_nil, or_false] at hc
    obtain rfl := hc
    exact hD2) (by
    show (N % 2097152 : Int).toNat < 2 ^ (26 - 5 * (0 + 1))
    rw [show (2 : Nat) ^ (26 - 5 * (0 + 1)) = 2097152 from rfl]
    omega) (by decide)
  have hst := start_sum 22 (by decide) N
  rw [if_pos (by decide)] at hst
  have hv : isaPut 22 D A B N = ((2097152 * (32 * 22 + D.toNat) + (N % 2097152 : Int).toNat : Nat) : Int) := by
    show putGo D A B [68] 0 (putStart ((22 : Nat) : Int) N) = _
    rw [hst]
    exact hsum
  obtain ⟨x, hx⟩ : ∃ x, isaPut 22 D A B N = x := ⟨_, rfl⟩
  rw [hx]
  rw [hx] at hv
  clear hsum hst
  have hx0 : 0 ≤ x ∧ x < 4294967296 := by omega
  have hTN := takeN_lit x hx0.1 hx0.2 22 (by decide)
  have hTR := takeRegs x hx0.1 hx0.2 N 22 (by decide)
  refine take_of (kk := 22) (by decide) rfl hr hx hx0 (by omega) ?_ ?_
  · refine hTN.trans ((if_pos (by decide)).trans ?_)
    have tm : Int.tmod x 2097152 = x % 2097152 := Int.tmod_eq_emod_of_nonneg hx0.1
    by_cases hh : Int.tmod x 2097152 ≥ 1048576
    · rw [show refN 22 x = wrap64 (Int.tmod x 2097152 - 2097152) from if_pos ⟨by decide, hh⟩, tm, w64 (by omega)]
      omega
    · rw [show refN 22 x = Int.tmod x 2097152 from if_neg (fun h => hh h.2), tm]
      omega
  · refine hTR.trans ?_
    show ((fieldT x 2097152, 0, 0) : Int × Int × Int) = (D, A, B)
    have f0 : fieldT x 2097152 = D := by
      unfold fieldT
      have hq0 : 0 ≤ x / 2097152 := Int.ediv_nonneg hx0.1 (by decide)
      rw [Int.tdiv_eq_ediv_of_nonneg hx0.1, w64 (by omega), Int.tmod_eq_emod_of_nonneg hq0]
      omega
    rw [f0, hA2, hB2]
theorem takePut_23 {D A B N : Int} (hr : isaRight 23 D A B N = true) : isa_Take.f (isaPut 23 D A B N) = some (23, D, A, B, N, true) := by
  have hs := hr
  rw [show (23 : Int) = ((23 : Nat) : Int) from rfl, isaRight_lit 23 (by decide)] at hs
  obtain ⟨hD, hA, hB, hn⟩ := says_0 (d := true) (a := true) (b := false) (lo := 0) (hi := 0) hs
  subst hn
  have hD2 := okR_t.1 hD
  have hA2 := okR_t.1 hA
  have hB2 := okR_f.1 hB
  have hsum := putGo_sum D A B [68, 65] 0 23 (0 % 65536 : Int).toNat (by decide) (by
    intro c hc
    simp only [List.mem_cons, List.not_mem_nil, or_false] at hc
    rcases hc with rfl | rfl
    · exact hD2
    · exact hA2) (by decide) (by decide)
  have hst := start_sum 23 (by decide) 0
  rw [if_neg (by decide)] at hst
  have hv : isaPut 23 D A B 0 = ((65536 * (32 * (32 * 23 + D.toNat) + A.toNat) + (0 % 65536 : Int).toNat : Nat) : Int) := by
    show putGo D A B [68, 65] 0 (putStart ((23 : Nat) : Int) 0) = _
    rw [hst]
    exact hsum
  obtain ⟨x, hx⟩ : ∃ x, isaPut 23 D A B 0 = x := ⟨_, rfl⟩
  rw [hx]
  rw [hx] at hv
  clear hsum hst
  have hx0 : 0 ≤ x ∧ x < 4294967296 := by omega
  have hTN := takeN_lit x hx0.1 hx0.2 23 (by decide)
  have hTR := takeRegs x hx0.1 hx0.2 0 23 (by decide)
  refine take_of (kk := 23) (by decide) rfl hr hx hx0 (by omega) ?_ ?_
  · exact hTN.trans (if_neg (by decide))
  · refine hTR.trans ?_
    show ((fieldT x 2097152, fieldT x 65536, 0) : Int × Int × Int) = (D, A, B)
    have f0 : fieldT x 2097152 = D := by
      unfold fieldT
      have hq0 : 0 ≤ x / 2097152 := Int.ediv_nonneg hx0.1 (by decide)
      rw [Int.tdiv_eq_ediv_of_nonneg hx0.1, w64 (by omega), Int.tmod_eq_emod_of_nonneg hq0]
      omega
    have f1 : fieldT x 65536 = A := by
      unfold fieldT
      have hq0 : 0 ≤ x / 65536 := Int.ediv_nonneg hx0.1 (by decide)
      rw [Int.tdiv_eq_ediv_of_nonneg hx0.1, w64 (by omega), Int.tmod_eq_emod_of_nonneg hq0]
      omega
    rw [f0, f1, hB2]
theorem takePut_S1 {D A B : Int} (hr : isaRight 24 D A B 1 = true) : isa_Take.f (isaPut 24 D A B 1) = some (24, D, A, B, 1, true) := by
  have hs := hr
  rw [isaRight_sys] at hs
  obtain ⟨hD, hA, hB, _, _⟩ := says_n (d := false) (a := true) (b := false) (lo := 1) (hi := 4) hs
  have hD2 := okR_f.1 hD
  have hA2 := okR_t.1 hA
  have hB2 := okR_f.1 hB
  have hsum := putGo_sum D A B [65] 0 24 1 (by decide) (by
    intro c hc
    simp only [List.mem_cons, List.not_mem_nil, or_false] at hc
    obtain rfl := hc
    exact hA2) (by decide) (by decide)
  have hst : putStart 24 1 = ((2 ^ (26 - 5 * 0) * 24 + 1 : Nat) : Int) := start_sum 24 (by decide) 1
  have hv : isaPut 24 D A B 1 = ((2097152 * (32 * 24 + A.toNat) + 1 : Nat) : Int) := by
    show putGo D A B [65] 0 (putStart 24 1) = _
    rw [hst]
    exact hsum
  obtain ⟨x, hx⟩ : ∃ x, isaPut 24 D A B 1 = x := ⟨_, rfl⟩
  rw [hx]
  rw [hx] at hv
  clear hsum hst
  have hx0 : 0 ≤ x ∧ x < 4294967296 := by omega
  have hTN := takeN_lit x hx0.1 hx0.2 24 (by decide)
  have t0 := tb x hx0.1 hx0.2 0 2097152 rfl (by decide) (by decide)
  have t1 := tb x hx0.1 hx0.2 1 65536 rfl (by decide) (by decide)
  refine take_of (kk := 24) (by decide) rfl hr hx hx0 (by omega) ?_ ?_
  · refine hTN.trans ((if_pos (by decide)).trans ?_)
    have tm : Int.tmod x 65536 = x % 65536 := Int.tmod_eq_emod_of_nonneg hx0.1
    rw [show refN 24 x = Int.tmod x 65536 from if_neg (fun h => h.1 (by decide)), tm]
    omega
  · show ((0, takeBits x 0, 0) : Int × Int × Int) = (D, A, B)
    have f0 : fieldT x 2097152 = A := by
      unfold fieldT
      have hq0 : 0 ≤ x / 2097152 := Int.ediv_nonneg hx0.1 (by decide)
      rw [Int.tdiv_eq_ediv_of_nonneg hx0.1, w64 (by omega), Int.tmod_eq_emod_of_nonneg hq0]
      omega
    rw [t0, f0, hD2, hB2]
theorem takePut_S2 {D A B : Int} (hr : isaRight 24 D A B 2 = true) : isa_Take.f (isaPut 24 D A B 2) = some (24, D, A, B, 2, true) := by
  have hs := hr
  rw [isaRight_sys] at hs
  obtain ⟨hD, hA, hB, _, _⟩ := says_n (d := true) (a := false) (b := false) (lo := 1) (hi := 4) hs
  have hD2 := okR_t.1 hD
  have hA2 := okR_f.1 hA
  have hB2 := okR_f.1 hB
  have hsum := putGo_sum D A B [68] 0 24 2 (by decide) (by
    intro c hc
    simp only [List.mem_cons, List.not_mem_nil, or_false] at hc
    obtain rfl := hc
    exact hD2) (by decide) (by decide)
  have hst : putStart 24 2 = ((2 ^ (26 - 5 * 0) * 24 + 2 : Nat) : Int) := start_sum 24 (by decide) 2
  have hv : isaPut 24 D A B 2 = ((2097152 * (32 * 24 + D.toNat) + 2 : Nat) : Int) := by
    show putGo D A B [68] 0 (putStart 24 2) = _
    rw [hst]
    exact hsum
  obtain ⟨x, hx⟩ : ∃ x, isaPut 24 D A B 2 = x := ⟨_, rfl⟩
  rw [hx]
  rw [hx] at hv
  clear hsum hst
  have hx0 : 0 ≤ x ∧ x < 4294967296 := by omega
  have hTN := takeN_lit x hx0.1 hx0.2 24 (by decide)
  have t0 := tb x hx0.1 hx0.2 0 2097152 rfl (by decide) (by decide)
  have t1 := tb x hx0.1 hx0.2 1 65536 rfl (by decide) (by decide)
  refine take_of (kk := 24) (by decide) rfl hr hx hx0 (by omega) ?_ ?_
  · refine hTN.trans ((if_pos (by decide)).trans ?_)
    have tm : Int.tmod x 65536 = x % 65536 := Int.tmod_eq_emod_of_nonneg hx0.1
    rw [show refN 24 x = Int.tmod x 65536 from if_neg (fun h => h.1 (by decide)), tm]
    omega
  · show ((takeBits x 0, 0, 0) : Int × Int × Int) = (D, A, B)
    have f0 : fieldT x 2097152 = D := by
      unfold fieldT
      have hq0 : 0 ≤ x / 2097152 := Int.ediv_nonneg hx0.1 (by decide)
      rw [Int.tdiv_eq_ediv_of_nonneg hx0.1, w64 (by omega), Int.tmod_eq_emod_of_nonneg hq0]
      omega
    rw [t0, f0, hA2, hB2]
theorem takePut_S3 {D A B : Int} (hr : isaRight 24 D A B 3 = true) : isa_Take.f (isaPut 24 D A B 3) = some (24, D, A, B, 3, true) := by
  have hs := hr
  rw [isaRight_sys] at hs
  obtain ⟨hD, hA, hB, _, _⟩ := says_n (d := true) (a := false) (b := true) (lo := 1) (hi := 4) hs
  have hD2 := okR_t.1 hD
  have hA2 := okR_f.1 hA
  have hB2 := okR_t.1 hB
  have hsum := putGo_sum D A B [68, 66] 0 24 3 (by decide) (by
    intro c hc
    simp only [List.mem_cons, List.not_mem_nil, or_false] at hc
    rcases hc with rfl | rfl
    · exact hD2
    · exact hB2) (by decide) (by decide)
  have hst : putStart 24 3 = ((2 ^ (26 - 5 * 0) * 24 + 3 : Nat) : Int) := start_sum 24 (by decide) 3
  have hv : isaPut 24 D A B 3 = ((65536 * (32 * (32 * 24 + D.toNat) + B.toNat) + 3 : Nat) : Int) := by
    show putGo D A B [68, 66] 0 (putStart 24 3) = _
    rw [hst]
    exact hsum
  obtain ⟨x, hx⟩ : ∃ x, isaPut 24 D A B 3 = x := ⟨_, rfl⟩
  rw [hx]
  rw [hx] at hv
  clear hsum hst
  have hx0 : 0 ≤ x ∧ x < 4294967296 := by omega
  have hTN := takeN_lit x hx0.1 hx0.2 24 (by decide)
  have t0 := tb x hx0.1 hx0.2 0 2097152 rfl (by decide) (by decide)
  have t1 := tb x hx0.1 hx0.2 1 65536 rfl (by decide) (by decide)
  refine take_of (kk := 24) (by decide) rfl hr hx hx0 (by omega) ?_ ?_
  · refine hTN.trans ((if_pos (by decide)).trans ?_)
    have tm : Int.tmod x 65536 = x % 65536 := Int.tmod_eq_emod_of_nonneg hx0.1
    rw [show refN 24 x = Int.tmod x 65536 from if_neg (fun h => h.1 (by decide)), tm]
    omega
  · show ((takeBits x 0, 0, takeBits x 1) : Int × Int × Int) = (D, A, B)
    have f0 : fieldT x 2097152 = D := by
      unfold fieldT
      have hq0 : 0 ≤ x / 2097152 := Int.ediv_nonneg hx0.1 (by decide)
      rw [Int.tdiv_eq_ediv_of_nonneg hx0.1, w64 (by omega), Int.tmod_eq_emod_of_nonneg hq0]
      omega
    have f1 : fieldT x 65536 = B := by
      unfold fieldT
      have hq0 : 0 ≤ x / 65536 := Int.ediv_nonneg hx0.1 (by decide)
      rw [Int.tdiv_eq_ediv_of_nonneg hx0.1, w64 (by omega), Int.tmod_eq_emod_of_nonneg hq0]
      omega
    rw [t0, f0, t1, f1, hA2]
theorem takePut_S4 {D A B : Int} (hr : isaRight 24 D A B 4 = true) : isa_Take.f (isaPut 24 D A B 4) = some (24, D, A, B, 4, true) := by
  have hs := hr
  rw [isaRight_sys] at hs
  obtain ⟨hD, hA, hB, _, _⟩ := says_n (d := false) (a := true) (b := false) (lo := 1) (hi := 4) hs
  have hD2 := okR_f.1 hD
  have hA2 := okR_t.1 hA
  have hB2 := okR_f.1 hB
  have hsum := putGo_sum D A B [65] 0 24 4 (by decide) (by
    intro c hc
    simp only [List.mem_cons, List.not_mem_nil, or_false] at hc
    obtain rfl := hc
    exact hA2) (by decide) (by decide)
  have hst : putStart 24 4 = ((2 ^ (26 - 5 * 0) * 24 + 4 : Nat) : Int) := start_sum 24 (by decide) 4
  have hv : isaPut 24 D A B 4 = ((2097152 * (32 * 24 + A.toNat) + 4 : Nat) : Int) := by
    show putGo D A B [65] 0 (putStart 24 4) = _
    rw [hst]
    exact hsum
  obtain ⟨x, hx⟩ : ∃ x, isaPut 24 D A B 4 = x := ⟨_, rfl⟩
  rw [hx]
  rw [hx] at hv
  clear hsum hst
  have hx0 : 0 ≤ x ∧ x < 4294967296 := by omega
  have hTN := takeN_lit x hx0.1 hx0.2 24 (by decide)
  have t0 := tb x hx0.1 hx0.2 0 2097152 rfl (by decide) (by decide)
  have t1 := tb x hx0.1 hx0.2 1 65536 rfl (by decide) (by decide)
  refine take_of (kk := 24) (by decide) rfl hr hx hx0 (by omega) ?_ ?_
  · refine hTN.trans ((if_pos (by decide)).trans ?_)
    have tm : Int.tmod x 65536 = x % 65536 := Int.tmod_eq_emod_of_nonneg hx0.1
    rw [show refN 24 x = Int.tmod x 65536 from if_neg (fun h => h.1 (by decide)), tm]
    omega
  · show ((0, takeBits x 0, 0) : Int × Int × Int) = (D, A, B)
    have f0 : fieldT x 2097152 = A := by
      unfold fieldT
      have hq0 : 0 ≤ x / 2097152 := Int.ediv_nonneg hx0.1 (by decide)
      rw [Int.tdiv_eq_ediv_of_nonneg hx0.1, w64 (by omega), Int.tmod_eq_emod_of_nonneg hq0]
      omega
    rw [t0, f0, hD2, hB2]
theorem takePut (k D A B N : Int) (hr : isaRight k D A B N = true) : isa_Take.f (isaPut k D A B N) = some (k, D, A, B, N, true) := by
  obtain ⟨kk, rfl, hk⟩ := right_kind hr
  match kk, hk, hr with
  | 0, _, hr => exact takePut_0 hr
  | 1, _, hr => exact takePut_1 hr
  | 2, _, hr => exact takePut_2 hr
  | 3, _, hr => exact takePut_3 hr
  | 4, _, hr => exact takePut_4 hr
  | 5, _, hr => exact takePut_5 hr
  | 6, _, hr => exact takePut_6 hr
  | 7, _, hr => exact takePut_7 hr
  | 8, _, hr => exact takePut_8 hr
  | 9, _, hr => exact takePut_9 hr
  | 10, _, hr => exact takePut_10 hr
  | 11, _, hr => exact takePut_11 hr
  | 12, _, hr => exact takePut_12 hr
  | 13, _, hr => exact takePut_13 hr
  | 14, _, hr => exact takePut_14 hr
  | 15, _, hr => exact takePut_15 hr
  | 16, _, hr => exact takePut_16 hr
  | 17, _, hr => exact takePut_17 hr
  | 18, _, hr => exact takePut_18 hr
  | 19, _, hr => exact takePut_19 hr
  | 20, _, hr => exact takePut_20 hr
  | 21, _, hr => exact takePut_21 hr
  | 22, _, hr => exact takePut_22 hr
  | 23, _, hr => exact takePut_23 hr
  | 24, _, hr =>
    have hb := right_N24 hr
    have h4 : N = 1 ∨ N = 2 ∨ N = 3 ∨ N = 4 := by omega
    rcases h4 with rfl | rfl | rfl | rfl
    · exact takePut_S1 hr
    · exact takePut_S2 hr
    · exact takePut_S3 hr
    · exact takePut_S4 hr
  | n + 25, h, _ => exact absurd h (by omega)
theorem put_inj {k D A B N k' D' A' B' N' : Int} (h : isaRight k D A B N = true) (h' : isaRight k' D' A' B' N' = true) (e : isaPut k D A B N = isaPut k' D' A' B' N') : k = k' ∧ D = D' ∧ A = A' ∧ B = B' ∧ N = N' := by
  have h1 := takePut k D A B N h
  have h2 := takePut k' D' A' B' N' h'
  rw [e, h2] at h1
  injection h1 with h1
  simp only [Prod.mk.injEq, and_true] at h1
  exact ⟨h1.1.symm, h1.2.1.symm, h1.2.2.1.symm, h1.2.2.2.1.symm, h1.2.2.2.2.symm⟩
end Go.Proofs.YtcdeekfgdmckmaaDoor.Q
