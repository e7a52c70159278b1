/- Several texts in one: asm.Back gives lines of which asm.Of makes the words again. What asm.Read reads is shown as it was. asm.parse takes a line of its text. What is shown is read back. -/
import Derived.Test.YtlhkojnocconfaaDoorQx0
import Derived.Test.YtlhkojnocconfaaDoorQx3
import Derived.Test.YtlhkojnocconfaaDoorAsmModel
import Derived.Test.YtlhkojnocconfaaDoorAsmLw
import Derived.Test.YtlhkojnocconfaaDoorHasmOf
import Derived.Test.YtlhkojnocconfaaDoorHisaPut
import Derived.Test.YtlhkojnocconfaaDoorHisaRight
import Derived.Test.YtlhkojnocconfaaDoorHisaTake
import Derived.Test.YtlhkojnocconfaaDoorRdGrp
import Derived.Test.YtlhkojnocconfaaDoorHasmParse
import Derived.Test.YtlhkojnocconfaaDoorHasmShow
import Derived.Test.YtlhkojnocconfaaDoorHisaRd
import Derived.Lib.IndexMore
import Derived.Lib.IndexLaws
import Derived.Test.YtlhkojnocconfaaDoorHisaForms
import Derived.Test.YtlhkojnocconfaaDoorHisaOf
import Derived.Test.YtlhkojnocconfaaDoorHisaShow
import Derived.Test.YtlhkojnocconfaaDoorIsaRp
--@needs XAsmModel
--@needs XHasmOf
--@needs XHisaTake
--@needs XEvW
--@uses camlet/asm.Back
namespace Go.Proofs.YtlhkojnocconfaaDoor.Q
open Go.RowKit Go.Proofs.YtlhkojnocconfaaDoorW.PrintWords Go.Proofs.YtlhkojnocconfaaDoorW.PrintLast Go.Proofs.YtlhkojnocconfaaDoorW.PrintMore
attribute [local go_sem] max2_int min2_int max_two min_two max_three min_three max_four min_four   -- for this text's walks alone
set_option linter.unusedVariables false
set_option linter.unusedSimpArgs false

/-- a line without labels, its instruction right -/
def PL (x : S36) : Prop := x.f0 = ⟨#[]⟩ ∧ x.f2 = ⟨#[]⟩ ∧ isaRight x.f1.f0 x.f1.f1 x.f1.f2 x.f1.f3 x.f1.f4 = true
def putL (x : S36) : Int := isaPut x.f1.f0 x.f1.f1 x.f1.f2 x.f1.f3 x.f1.f4
theorem ab_take {x : Int} (h : 0 ≤ x ∧ x < 4294967296) : isa_Take.f x = some (0, 0, 0, 0, 0, false) ∨ ∃ k D A B N, isa_Take.f x = some (k, D, A, B, N, true) ∧ isaRight k D A B N = true ∧ isaPut k D A B N = x := by
  unfold isa_Take.f
  rw [if_pos h]
  split
  · exact .inl rfl
  · dsimp only
    split
    · rename_i hh
      exact .inr ⟨_, _, _, _, _, rfl, hh.1, hh.2⟩
    · exact .inl rfl
theorem ab_rd {l : List Int} {i : Nat} (h : i < l.length) : rd l (i : Int) = l[i] := by
  unfold rd
  rw [Int.toNat_natCast, List.getD_eq_getElem?_getD, List.getElem?_eq_getElem h]
  rfl
theorem ab_l0 (code : List Int) (hc : ∀ x ∈ code, 0 ≤ x ∧ x < 4294967296) (hn : code.length ≤ 16384) : ∀ (d i : Nat) (acc : List S36), i + d = code.length → acc.length = i → (∀ x ∈ acc, PL x) → acc.map putL = code.take i →
    ∃ r, Ev (fun k => asm_Back.l0 k acc code (code.length : Int) (i : Int)) r ∧ (r.2.2 = 0 → (∀ x ∈ r.1, PL x) ∧ r.1.map putL = code) ∧ ((∀ x ∈ code, isa_Take.f x ≠ some (0, 0, 0, 0, 0, false)) → r.2.2 = 0)
  | 0, i, acc, hi, ha, hp, hm => by
    obtain rfl : i = code.length := by omega
    refine ⟨(acc, 0, 0), Ev.some 1 (fun n => ?_), fun _ => ⟨hp, by rw [hm, List.take_length]⟩, fun _ => rfl⟩
    rw [asm_Back.l0, if_neg (by omega)]
  | d + 1, i, acc, hi, ha, hp, hm => by
    have hlt : i < code.length := by omega
    have hx := ab_rd hlt
    have hw : wrap64 ((i : Int) + 1) = ((i + 1 : Nat) : Int) := by unfold wrap64; omega
    rcases ab_take (hc _ (List.getElem_mem hlt)) with ht | ⟨k, D, A, B, N, ht, hr, hpu⟩
    · refine ⟨([], (i : Int), 26), Ev.some 1 (fun n => ?_), fun h => by simp at h, fun h => absurd ht (h _ (List.getElem_mem hlt))⟩
      rw [asm_Back.l0, if_pos (by omega), if_pos (by omega), if_pos (by omega), hx, ht]
      rfl
    · obtain ⟨r, h1, h2, h3⟩ := ab_l0 code hc hn d (i + 1) (acc ++ [⟨⟨#[]⟩, ⟨k, D, A, B, N⟩, ⟨#[]⟩⟩]) (by omega) (by simp [ha]) (fun x hx => (List.mem_append.1 hx).elim (hp x) (fun hx => by obtain rfl := List.mem_singleton.1 hx; exact ⟨rfl, rfl, hr⟩))
        (by rw [List.map_append, hm, List.take_succ_eq_append_getElem hlt]; simp [putL, hpu])
      refine ⟨r, Ev.step (fun n => ?_) h1, h2, h3⟩
      rw [asm_Back.l0, if_pos (by omega), if_pos (by omega), if_pos (by omega), hx, ht, Option.bind_some]
      dsimp only
      rw [if_pos rfl, if_pos (by omega), hw]
theorem ab_back (code : List Int) (hc : ∀ x ∈ code, 0 ≤ x ∧ x < 4294967296) (hn : code.length ≤ 16384) :
    ∃ r, Ev (fun k => asm_Back.f k code) r ∧ (r.2.2 = 0 → (∀ x ∈ r.1, PL x) ∧ r.1.map putL = code) ∧ ((∀ x ∈ code, isa_Take.f x ≠ some (0, 0, 0, 0, 0, false)) → r.2.2 = 0) := by
  obtain ⟨r, h1, h2, h3⟩ := ab_l0 code hc hn code.length 0 [] (by omega) rfl (by simp) (by simp)
  refine ⟨r, ?_, h2, h3⟩
  unfold asm_Back.f
  exact Ev.neg (by omega) h1
theorem ab_go (l : List S36) : ∀ (r : List S36) (i : Nat) (acc : List Int), (∀ x ∈ r, PL x) → asmGo l r i acc = (acc ++ r.map putL, 0, 0)
  | [], i, acc, h => by simp [asmGo]
  | x :: r, i, acc, h => by
    obtain ⟨h0, h2, hr⟩ := h x (List.mem_cons_self)
    have e0 : asmWrong l i x = 0 := by
      unfold asmWrong
      have hm : mayB (⟨#[]⟩ : ByteArray) = true := by unfold mayB; rw [if_pos (by rw [toList_nil])]
      have hk : skey (⟨#[]⟩ : ByteArray) = .string [] := rfl
      have ht : (⟨#[]⟩ : ByteArray).toList = [] := by rw [toList_nil]
      rw [h0, h2, hm, hk, firstF_nil, ht]
      simp
    have e1 : asmNum l i x = x.f1.f4 := by
      unfold asmNum
      rw [h2, if_pos (by rw [toList_nil])]
    rw [asmGo, e0, if_neg (by simp), e1, if_pos hr, ab_go l r (i + 1) _ (fun y hy => h y (List.mem_cons_of_mem _ hy))]
    simp [putL]
theorem ab_of (l : List S36) (h : ∀ x ∈ l, PL x) (hl : l.length ≤ 16384) : asm_Of.f l = some (l.map putL, 0, 0) := by
  have hok : asmOk l := fun x hx => by
    obtain ⟨h0, h2, _⟩ := h x hx
    rw [h0, h2]
    exact ⟨by decide, by decide⟩
  unfold asm_Of.f
  rw [if_pos hok, if_neg (by omega), ab_go l l 0 [] h]
  rfl
end Go.Proofs.YtlhkojnocconfaaDoor.Q

--@needs XHasmRead
--@needs XHasmShow
namespace Go.Proofs.YtlhkojnocconfaaDoor.Q
open Go.RowKit Go.Proofs.YtlhkojnocconfaaDoorW.PrintWords Go.Proofs.YtlhkojnocconfaaDoorW.PrintLast Go.Proofs.YtlhkojnocconfaaDoorW.PrintMore
attribute [local go_sem] max2_int min2_int max_two min_two max_three min_three max_four min_four   -- for this text's walks alone
set_option linter.unusedVariables false
set_option linter.unusedSimpArgs false

theorem occ_split {s sub : List UInt8} {i : Nat} (hi : i ≤ s.length) (h : Lib.occAt s sub i = true) : s = s.take i ++ sub ++ s.drop (i + sub.length) := by
  have h2 : (s.drop i).take sub.length = sub := by
    unfold Lib.occAt at h
    have := List.isPrefixOf_iff_prefix.1 h
    exact (List.prefix_iff_eq_take.1 this).symm
  conv => lhs; rw [← List.take_append_drop i s, ← List.take_append_drop sub.length (s.drop i), h2, List.drop_drop]
  rw [List.append_assoc]
theorem cutB_true {s a b : ByteArray} {sep : List UInt8} (h : cutB s sep = (a, b, true)) : s.data.toList = a.data.toList ++ sep ++ b.data.toList := by
  unfold cutB Lib.cut at h
  rcases Lib.index_spec s.data.toList sep with ⟨h1, _⟩ | ⟨i, h1, h2, h3, _⟩
  · rw [h1, if_neg (by decide)] at h
    simp at h
  · rw [h1, if_pos (by omega)] at h
    simp only [Prod.mk.injEq] at h
    obtain ⟨rfl, rfl, _⟩ := h
    simp only [Int.toNat_natCast, List.toList_toArray]
    exact occ_split h2 h3
theorem asmParse3_out {s lab tgt t : ByteArray} {k D A B N : Int} {l r : ByteArray} (h : asmParse3 s lab tgt t = some (l, (k, D, A, B, N), r)) : l = lab ∧ r = tgt ∧ (⟨(lineText l.data.toList k D A B N r.data.toList).toArray⟩ : ByteArray) = s := by
  unfold asmParse3 at h
  cases hr : isaReadF t with
  | none => rw [hr] at h; cases h
  | some q =>
    obtain ⟨k2, D2, A2, B2, N2⟩ := q
    rw [hr] at h
    dsimp only at h
    split at h
    · rename_i e
      simp only [Option.some.injEq, Prod.mk.injEq] at h
      obtain ⟨rfl, ⟨rfl, rfl, rfl, rfl, rfl⟩, rfl⟩ := h
      exact ⟨rfl, rfl, e⟩
    · cases h
theorem asmParse2_out {s lab t : ByteArray} {k D A B N : Int} {l r : ByteArray} (h : asmParse2 s lab t = some (l, (k, D, A, B, N), r)) : l = lab ∧ r.size ≤ 32 ∧ (⟨(lineText l.data.toList k D A B N r.data.toList).toArray⟩ : ByteArray) = s := by
  unfold asmParse2 at h
  generalize cutB t [32, 62] = c at h
  obtain ⟨L, R, b⟩ := c
  cases b with
  | true =>
    dsimp only at h
    split at h
    · rename_i hl
      obtain ⟨e1, e2, e3⟩ := asmParse3_out h
      exact ⟨e1, e2 ▸ label_size hl, e3⟩
    · cases h
  | false =>
    obtain ⟨e1, e2, e3⟩ := asmParse3_out h
    exact ⟨e1, by rw [e2]; decide, e3⟩
theorem asmParse_out {s : ByteArray} {k D A B N : Int} {l r : ByteArray} (h : asmParse s = some (l, (k, D, A, B, N), r)) : l.size ≤ 32 ∧ r.size ≤ 32 ∧ (⟨(lineText l.data.toList k D A B N r.data.toList).toArray⟩ : ByteArray) = s := by
  unfold asmParse at h
  generalize cutB s [58, 32] = c at h
  obtain ⟨L, R, b⟩ := c
  cases b with
  | true =>
    dsimp only at h
    split at h
    · rename_i hl
      obtain ⟨e1, e2, e3⟩ := asmParse2_out h
      exact ⟨e1 ▸ label_size hl, e2, e3⟩
    · cases h
  | false =>
    obtain ⟨e1, e2, e3⟩ := asmParse2_out h
    exact ⟨by rw [e1]; decide, e2, e3⟩
theorem readGo_show : ∀ (f : Nat) (s : ByteArray) (acc l : List S36) (n : Int), s.size ≤ f → readGo acc (linesN f s) = (l, n, 0) → ∃ l2, l = acc ++ l2 ∧ asmShow l2 = some s.data.toList
  | 0, s, acc, l, n, hf, h => by
    simp only [linesN, readGo, Prod.mk.injEq] at h
    refine ⟨[], by rw [← h.1]; simp, ?_⟩
    rw [asmShow, Option.some.injEq]
    exact (List.eq_nil_of_length_eq_zero (by rw [Array.length_toList]; show s.size = 0; omega)).symm
  | f + 1, s, acc, l, n, hf, h => by
    by_cases h0 : s.size = 0
    · rw [linesN, if_pos h0] at h
      simp only [readGo, Prod.mk.injEq] at h
      refine ⟨[], by rw [← h.1]; simp, ?_⟩
      rw [asmShow, Option.some.injEq]
      exact (List.eq_nil_of_length_eq_zero (by rw [Array.length_toList]; show s.size = 0; omega)).symm
    · rw [linesN, if_neg h0] at h
      have hlt := cutB_less s h0
      cases hc : cutB s [10] with
      | mk one rb =>
      obtain ⟨r, b⟩ := rb
      rw [hc] at h hlt
      dsimp only at h hlt
      cases hq : asmParse one with
      | none => simp [readGo, hq] at h
      | some q =>
        obtain ⟨lab, ⟨k, D, A, B, N⟩, tgt⟩ := q
        cases b with
        | false => simp [readGo, hq] at h
        | true =>
          simp only [readGo, hq] at h
          obtain ⟨l2, e1, e2⟩ := readGo_show f r _ l n (by omega) h
          obtain ⟨p1, p2, p3⟩ := asmParse_out hq
          refine ⟨⟨lab, ⟨k, D, A, B, N⟩, tgt⟩ :: l2, by rw [e1, List.append_assoc]; rfl, ?_⟩
          have e3 : asmLineF ⟨lab, ⟨k, D, A, B, N⟩, tgt⟩ = some one := by
            unfold asmLineF
            rw [line_text lab tgt k D A B N (by omega) (by omega), p3]
          rw [asmShow, e3, e2, Option.bind_some, Option.bind_some, cutB_true hc, List.append_assoc]
          rfl
theorem read_show {s : ByteArray} (hs : s.size ≤ 1000000) {l : List S36} {n : Int} (h : asmRead s = (l, n, 0)) : asm_Show.f l = some s := by
  unfold asmRead at h
  split at h
  · simp at h
  · obtain ⟨l2, e1, e2⟩ := readGo_show s.size s [] l n (Nat.le_refl _) h
    rw [List.nil_append] at e1
    unfold asm_Show.f
    rw [e1, e2, Option.bind_some, if_pos (by rw [Array.length_toList]; show s.size ≤ _; omega)]
end Go.Proofs.YtlhkojnocconfaaDoor.Q

--@needs XHasmParse
--@needs XIsaReadP
--@needs XHisaRead
--@needs XIsaWord
namespace Go.Proofs.YtlhkojnocconfaaDoor.Q
open Go.RowKit Go.Proofs.YtlhkojnocconfaaDoorW.PrintWords Go.Proofs.YtlhkojnocconfaaDoorW.PrintLast Go.Proofs.YtlhkojnocconfaaDoorW.PrintMore
attribute [local go_sem] max2_int min2_int max_two min_two max_three min_three max_four min_four   -- for this text's walks alone
set_option linter.unusedVariables false
set_option linter.unusedSimpArgs false

theorem occ_out {s : List UInt8} {x y : UInt8} {j : Nat} (h : Lib.occAt s [x, y] j = true) : ∃ t, s.drop j = x :: y :: t := by
  unfold Lib.occAt at h
  obtain ⟨t, ht⟩ := List.isPrefixOf_iff_prefix.1 h
  exact ⟨t, ht.symm⟩
theorem cut_hit (a b : List UInt8) (x y : UInt8) (hy : y ∉ a) (hxy : x ≠ y) : Lib.cut (a ++ x :: y :: b) [x, y] = (a, b, true) := by
  have hi : Lib.index (a ++ x :: y :: b) [x, y] = (a.length : Int) := by
    refine Lib.index_first (by simp) ?_ ?_
    · unfold Lib.occAt
      rw [List.drop_left, List.isPrefixOf_iff_prefix]
      exact ⟨b, rfl⟩
    · intro j hj
      cases hq : Lib.occAt (a ++ x :: y :: b) [x, y] j with
      | false => rfl
      | true =>
        exfalso
        obtain ⟨t, ht⟩ := occ_out hq
        rw [List.drop_append_of_le_length (by omega)] at ht
        cases ha : a.drop j with
        | nil => have := congrArg List.length ha; rw [List.length_drop, List.length_nil] at this; omega
        | cons c r =>
          rw [ha, List.cons_append] at ht
          have ht2 := (List.cons.inj ht).2
          cases r with
          | nil => exact hxy (List.cons.inj ht2).1
          | cons d r =>
            have e : d = y := (List.cons.inj ht2).1
            exact hy (List.mem_of_mem_drop (i := j) (by rw [ha, e]; simp))
  unfold Lib.cut
  rw [hi, if_pos (by omega)]
  simp only [Int.toNat_natCast, List.take_left]
  rw [show a.length + [x, y].length = (a ++ [x, y]).length by simp, show a ++ x :: y :: b = (a ++ [x, y]) ++ b by simp, List.drop_left]
theorem cut_miss (s : List UInt8) (x y : UInt8) (h : x ∉ s ∨ y ∉ s) : Lib.cut s [x, y] = (s, [], false) := by
  have hi : Lib.index s [x, y] = -1 := by
    refine Lib.index_none ?_
    intro j hj
    cases hq : Lib.occAt s [x, y] j with
    | false => rfl
    | true =>
      exfalso
      obtain ⟨t, ht⟩ := occ_out hq
      rcases h with h | h
      · exact h (List.mem_of_mem_drop (i := j) (by rw [ht]; simp))
      · exact h (List.mem_of_mem_drop (i := j) (by rw [ht]; simp))
  unfold Lib.cut
  rw [hi, if_neg (by decide)]
theorem cut_one (a b : List UInt8) (c : UInt8) (hc : c ∉ a) : Lib.cut (a ++ c :: b) [c] = (a, b, true) := by
  have hi : Lib.index (a ++ c :: b) [c] = (a.length : Int) := by
    refine Lib.index_first (by simp) ?_ ?_
    · unfold Lib.occAt
      rw [List.drop_left, List.isPrefixOf_iff_prefix]
      exact ⟨b, rfl⟩
    · intro j hj
      cases hq : Lib.occAt (a ++ c :: b) [c] j with
      | false => rfl
      | true =>
        exfalso
        unfold Lib.occAt at hq
        obtain ⟨t, ht⟩ := List.isPrefixOf_iff_prefix.1 hq
        rw [List.drop_append_of_le_length (by omega)] at ht
        cases ha : a.drop j with
        | nil => have := congrArg List.length ha; rw [List.length_drop, List.length_nil] at this; omega
        | cons d r =>
          rw [ha] at ht
          have e : c = d := (List.cons.inj ht).1
          exact hc (List.mem_of_mem_drop (i := j) (by rw [ha, e]; simp))
  unfold Lib.cut
  rw [hi, if_pos (by omega)]
  simp only [Int.toNat_natCast, List.take_left]
  rw [show a.length + [c].length = (a ++ [c]).length by simp, show a ++ c :: b = (a ++ [c]) ++ b by simp, List.drop_left]
theorem cutB_mk (l sep : List UInt8) : cutB ⟨l.toArray⟩ sep = (⟨(Lib.cut l sep).1.toArray⟩, ⟨(Lib.cut l sep).2.1.toArray⟩, (Lib.cut l sep).2.2) := rfl
/-- neither a new line nor what parts a line -/
def clean (l : List UInt8) : Prop := ∀ c ∈ l, c.toNat ≠ 10 ∧ c.toNat ≠ 58 ∧ c.toNat ≠ 62 ∧ c.toNat < 128
theorem clean_out {l : List UInt8} (h : clean l) : (10 : UInt8) ∉ l ∧ (58 : UInt8) ∉ l ∧ (62 : UInt8) ∉ l := ⟨fun hm => (h _ hm).1 rfl, fun hm => (h _ hm).2.1 rfl, fun hm => (h _ hm).2.2.1 rfl⟩
theorem forms_chars : isaForms.all (fun x => x.1.data.toList.all (fun c => decide (97 ≤ c.toNat) && decide (c.toNat ≤ 122))) = true := by decide
theorem form_clean (kk : Nat) (h : kk < 25) : clean (isaForm (kk : Int)).1.data.toList := by
  rw [form_name kk h]
  intro c hc
  have hm : isaForms.getD kk (⟨#[]⟩, ⟨#[]⟩, 0, 0) ∈ isaForms := by
    have hl : kk < isaForms.length := h
    rw [List.getD_eq_getElem?_getD, List.getElem?_eq_getElem hl]
    exact List.getElem_mem hl
  have h1 := List.all_eq_true.1 forms_chars _ hm
  have h2 := List.all_eq_true.1 h1 c hc
  simp only [Bool.and_eq_true, decide_eq_true_eq] at h2
  omega
theorem itoa_clean (x : Int) : clean (Lib.itoa x) := by
  intro c hc
  rcases itoa_form x with ⟨u, _, e⟩ | ⟨u, _, _, e⟩
  · rw [e] at hc
    have := (dec_chars u).1 c hc
    omega
  · rw [e] at hc
    rcases List.mem_cons.1 hc with rfl | hc
    · decide
    · have := (dec_chars u).1 c hc
      omega
theorem show_clean {k D A B N : Int} (hr : isaRight k D A B N = true) : clean (isaShow k D A B N) := by
  obtain ⟨kk, rfl, hk⟩ := right_kind hr
  intro c hc
  unfold isaShow showWords at hc
  rw [of_name] at hc
  rcases List.mem_append.1 hc with hc | hc
  · exact form_clean kk hk c hc
  · obtain ⟨x, _, hx⟩ := List.mem_flatMap.1 hc
    rcases List.mem_cons.1 hx with rfl | hx
    · decide
    · exact itoa_clean x c hx
theorem label_chars {s : ByteArray} (h : labelB s = true) : clean s.data.toList ∧ (32 : UInt8) ∉ s.data.toList := by
  unfold labelB at h
  simp only [Bool.and_eq_true] at h
  have h1 : ∀ c ∈ s.data.toList, lch (c.toNat : Int) := fun c hc => of_decide_eq_true (List.all_eq_true.1 h.1.1 c hc)
  refine ⟨fun c hc => ?_, fun hm => ?_⟩
  · have := h1 c hc
    unfold lch at this
    omega
  · have := h1 _ hm
    unfold lch at this
    revert this
    decide
theorem ab_bamk (s : ByteArray) : (⟨s.data.toList.toArray⟩ : ByteArray) = s := by cases s; simp
theorem ab_banil {s : ByteArray} (h : s.data.toList = []) : s = ⟨#[]⟩ := by rw [← ab_bamk s, h]
theorem ab_dec_len : ∀ (n u : Nat), 1 ≤ n → u < 10 ^ n → (Lib.decDigits u).length ≤ n
  | 0, u, h, _ => by omega
  | n + 1, u, _, h => by
    by_cases h10 : u < 10
    · rw [Lib.decDigits_one h10]; simp
    · rw [decDigits_step u h10, List.length_append]
      have hn : 1 ≤ n := by
        cases n with
        | zero => simp at h; omega
        | succ _ => omega
      have := ab_dec_len n (u / 10) hn (by rw [Nat.pow_succ] at h; omega)
      simp; omega
theorem ab_itoa_len {x : Int} (h : -1048576 ≤ x ∧ x ≤ 1048576) : (Lib.itoa x).length ≤ 8 := by
  rcases itoa_form x with ⟨u, rfl, e⟩ | ⟨u, _, rfl, e⟩
  · rw [e]
    have := ab_dec_len 7 u (by omega) (by have : (10 : Nat) ^ 7 = 10000000 := rfl; omega)
    omega
  · rw [e, List.length_cons]
    have := ab_dec_len 7 u (by omega) (by have : (10 : Nat) ^ 7 = 10000000 := rfl; omega)
    omega
theorem ab_words_len : ∀ (l : List Int), (∀ x ∈ l, -1048576 ≤ x ∧ x ≤ 1048575) → (showWords l).length ≤ 9 * l.length
  | [], _ => by simp [showWords]
  | x :: l, h => by
    have h1 := ab_itoa_len (x := x) (by have := h x (by simp); omega)
    have h2 := ab_words_len l (fun y hy => h y (by simp [hy]))
    simp only [showWords, List.flatMap_cons, List.length_append, List.length_cons] at *
    omega
theorem ab_show_len {k D A B N : Int} (hr : isaRight k D A B N = true) : (isaShow k D A B N).length ≤ 60 := by
  unfold isaShow
  have h1 := ab_words_len _ (things_span hr).1
  have h2 := (things_span hr).2
  have h3 := (of_span k N).2.2
  have h4 : (isaOf k N).1.data.toList.length = (isaOf k N).1.size := by rw [Array.length_toList]; rfl
  rw [List.length_append]
  omega
theorem ab_read {k D A B N : Int} (hr : isaRight k D A B N = true) : isaReadF ⟨(isaShow k D A B N).toArray⟩ = some (k, D, A, B, N) := by
  unfold isaReadF
  have hl := ab_show_len hr
  have hz : (⟨(isaShow k D A B N).toArray⟩ : ByteArray).size = (isaShow k D A B N).length := by show (isaShow k D A B N).toArray.size = _; simp
  have ha : (isaShow k D A B N).all (fun c => decide (c.toNat < 128)) = true := by
    rw [List.all_eq_true]
    intro c hc
    exact decide_eq_true (show_clean hr c hc).2.2.2
  rw [hz, if_neg (by omega)]
  simp only [List.toList_toArray]
  rw [if_pos ha]
  exact isaReadGo_show hr
theorem parse3_text {s lab tgt : ByteArray} {k D A B N : Int} (hr : isaRight k D A B N = true) (hs : (⟨(lineText lab.data.toList k D A B N tgt.data.toList).toArray⟩ : ByteArray) = s) :
    asmParse3 s lab tgt ⟨(isaShow k D A B N).toArray⟩ = some (lab, (k, D, A, B, N), tgt) := by
  unfold asmParse3
  rw [ab_read hr]
  dsimp only
  rw [if_pos hs]
theorem parse2_text {s lab tgt : ByteArray} {k D A B N : Int} (hr : isaRight k D A B N = true) (ht : mayB tgt = true) (hs : (⟨(lineText lab.data.toList k D A B N tgt.data.toList).toArray⟩ : ByteArray) = s) :
    asmParse2 s lab ⟨(isaShow k D A B N ++ (if tgt.data.toList = [] then [] else [32, 62] ++ tgt.data.toList)).toArray⟩ = some (lab, (k, D, A, B, N), tgt) := by
  have hc := clean_out (show_clean hr)
  unfold asmParse2
  rw [cutB_mk]
  by_cases h : tgt.data.toList = []
  · rw [if_pos h, List.append_nil, cut_miss _ _ _ (.inr hc.2.2)]
    have := ab_banil h
    subst this
    exact parse3_text hr hs
  · have hl : labelB tgt = true := by
      unfold mayB at ht
      rwa [if_neg (by rw [toList_nil]; exact h)] at ht
    rw [if_neg h]
    have e := cut_hit (isaShow k D A B N) tgt.data.toList 32 62 hc.2.2 (by decide)
    rw [show isaShow k D A B N ++ ([32, 62] ++ tgt.data.toList) = isaShow k D A B N ++ 32 :: 62 :: tgt.data.toList by simp, e]
    dsimp only
    rw [ab_bamk, if_pos hl]
    exact parse3_text hr hs
theorem parse_text {lab tgt : ByteArray} {k D A B N : Int} (hr : isaRight k D A B N = true) (hl : mayB lab = true) (ht : mayB tgt = true) :
    asmParse ⟨(lineText lab.data.toList k D A B N tgt.data.toList).toArray⟩ = some (lab, (k, D, A, B, N), tgt) := by
  have hc := clean_out (show_clean hr)
  have h2 := parse2_text (lab := lab) hr ht rfl
  unfold asmParse
  rw [cutB_mk]
  have et : isaText k D A B N = isaShow k D A B N := by unfold isaText; rw [if_pos hr]
  have hg : (58 : UInt8) ∉ tgt.data.toList := by
    intro hm
    unfold mayB at ht
    split at ht
    · rename_i e; rw [(toList_nil tgt).1 e] at hm; cases hm
    · exact (clean_out (label_chars ht).1).2.1 hm
  by_cases h : lab.data.toList = []
  · have := ab_banil h
    subst this
    have e : lineText (⟨#[]⟩ : ByteArray).data.toList k D A B N tgt.data.toList = isaShow k D A B N ++ (if tgt.data.toList = [] then [] else [32, 62] ++ tgt.data.toList) := by
      unfold lineText
      rw [if_pos rfl, et, List.nil_append]
    rw [e] at h2 ⊢
    rw [cut_miss _ _ _ (.inl (fun hm => by
      rcases List.mem_append.1 hm with hm | hm
      · exact hc.2.1 hm
      · split at hm
        · cases hm
        · rcases List.mem_append.1 hm with hm | hm
          · revert hm; decide
          · exact hg hm))]
    exact h2
  · have hlb : labelB lab = true := by
      unfold mayB at hl
      rwa [if_neg (by rw [toList_nil]; exact h)] at hl
    have e : lineText lab.data.toList k D A B N tgt.data.toList = lab.data.toList ++ 58 :: 32 :: (isaShow k D A B N ++ (if tgt.data.toList = [] then [] else [32, 62] ++ tgt.data.toList)) := by
      unfold lineText
      rw [if_neg h, et]
      simp
    have e2 := cut_hit lab.data.toList (isaShow k D A B N ++ (if tgt.data.toList = [] then [] else [32, 62] ++ tgt.data.toList)) 58 32 (label_chars hlb).2 (by decide)
    rw [e] at h2 ⊢
    rw [e2]
    dsimp only
    rw [ab_bamk, if_pos hlb]
    exact h2
theorem line_clean {lab tgt : ByteArray} {k D A B N : Int} (hr : isaRight k D A B N = true) (hl : mayB lab = true) (ht : mayB tgt = true) : (10 : UInt8) ∉ lineText lab.data.toList k D A B N tgt.data.toList := by
  have hc := (clean_out (show_clean hr)).1
  have hm : ∀ s : ByteArray, mayB s = true → (10 : UInt8) ∉ s.data.toList := by
    intro s hs hm
    unfold mayB at hs
    split at hs
    · rename_i e; rw [(toList_nil s).1 e] at hm; cases hm
    · exact (clean_out (label_chars hs).1).1 hm
  unfold lineText isaText
  rw [if_pos hr]
  intro h
  rcases List.mem_append.1 h with h | h
  · rcases List.mem_append.1 h with h | h
    · split at h
      · cases h
      · rcases List.mem_append.1 h with h | h
        · exact hm _ hl h
        · revert h; decide
    · exact hc h
  · split at h
    · cases h
    · rcases List.mem_append.1 h with h | h
      · revert h; decide
      · exact hm _ ht h
end Go.Proofs.YtlhkojnocconfaaDoor.Q

--@needs XAsmBackB
--@needs XAsmBackC
namespace Go.Proofs.YtlhkojnocconfaaDoor.Q
open Go.RowKit Go.Proofs.YtlhkojnocconfaaDoorW.PrintWords Go.Proofs.YtlhkojnocconfaaDoorW.PrintLast Go.Proofs.YtlhkojnocconfaaDoorW.PrintMore
attribute [local go_sem] max2_int min2_int max_two min_two max_three min_three max_four min_four   -- for this text's walks alone
set_option linter.unusedVariables false
set_option linter.unusedSimpArgs false

/-- a line that is shown so that it can be read -/
def shownOk (x : S36) : Prop := mayB x.f0 = true ∧ mayB x.f2 = true ∧ isaRight x.f1.f0 x.f1.f1 x.f1.f2 x.f1.f3 x.f1.f4 = true ∧ x.f0.size ≤ 60 ∧ x.f2.size ≤ 60
def lnText (x : S36) : List UInt8 := lineText x.f0.data.toList x.f1.f0 x.f1.f1 x.f1.f2 x.f1.f3 x.f1.f4 x.f2.data.toList
def textOf (l : List S36) : List UInt8 := l.flatMap (fun x => lnText x ++ [10])
theorem ln_len {x : S36} (h : shownOk x) : (lnText x).length ≤ 200 := by
  have h0 := text_len x.f1.f0 x.f1.f1 x.f1.f2 x.f1.f3 x.f1.f4
  have h1 : x.f0.data.toList.length = x.f0.size := by rw [Array.length_toList]; rfl
  have h2 : x.f2.data.toList.length = x.f2.size := by rw [Array.length_toList]; rfl
  obtain ⟨_, _, hr, h3, h4⟩ := h
  have h5 := ab_show_len hr
  have h6 : isaText x.f1.f0 x.f1.f1 x.f1.f2 x.f1.f3 x.f1.f4 = isaShow x.f1.f0 x.f1.f1 x.f1.f2 x.f1.f3 x.f1.f4 := by unfold isaText; rw [if_pos hr]
  unfold lnText lineText
  rw [h6]
  simp only [List.length_append]
  split <;> split <;> simp only [List.length_append, List.length_nil, List.length_cons] <;> omega
theorem show_textOf : ∀ (l : List S36), (∀ x ∈ l, shownOk x) → asmShow l = some (textOf l)
  | [], _ => rfl
  | x :: l, h => by
    have hx := h x (List.mem_cons_self)
    have e : asmLineF x = some ⟨(lnText x).toArray⟩ := by
      unfold asmLineF
      exact line_text x.f0 x.f2 _ _ _ _ _ (by have := hx.2.2.2.1; omega) (by have := hx.2.2.2.2; omega)
    rw [asmShow, e, Option.bind_some, show_textOf l (fun y hy => h y (List.mem_cons_of_mem _ hy)), Option.bind_some]
    simp [textOf]
theorem textOf_len : ∀ (l : List S36), (∀ x ∈ l, shownOk x) → (textOf l).length ≤ 201 * l.length
  | [], _ => by simp [textOf]
  | x :: l, h => by
    have h1 := ln_len (h x (List.mem_cons_self))
    have h2 := textOf_len l (fun y hy => h y (List.mem_cons_of_mem _ hy))
    simp only [textOf, List.flatMap_cons, List.length_append, List.length_cons, List.length_nil] at *
    omega
theorem textOf_count : ∀ (l : List S36), (∀ x ∈ l, shownOk x) → Lib.countByte (textOf l) 10 = l.length
  | [], _ => rfl
  | x :: l, h => by
    have hx := h x (List.mem_cons_self)
    have h1 := line_clean hx.2.2.1 hx.1 hx.2.1
    have h2 := textOf_count l (fun y hy => h y (List.mem_cons_of_mem _ hy))
    unfold Lib.countByte at *
    simp only [textOf, List.flatMap_cons, List.count_append, List.length_cons] at *
    rw [h2, List.count_eq_zero.2 (show (10 : UInt8) ∉ lnText x from h1)]
    simp
    omega
theorem lines_text : ∀ (l : List S36) (f : Nat), (∀ x ∈ l, shownOk x) → (textOf l).length ≤ f → linesN f ⟨(textOf l).toArray⟩ = l.map (fun x => ((⟨(lnText x).toArray⟩ : ByteArray), true))
  | [], f, _, _ => by
    cases f with
    | zero => rfl
    | succ f => rw [linesN, if_pos (show (⟨(textOf []).toArray⟩ : ByteArray).size = 0 from rfl)]; rfl
  | x :: l, f, h, hf => by
    have hx := h x (List.mem_cons_self)
    have h1 := line_clean hx.2.2.1 hx.1 hx.2.1
    have e : textOf (x :: l) = lnText x ++ 10 :: textOf l := by simp [textOf]
    have hz : (⟨(textOf (x :: l)).toArray⟩ : ByteArray).size = (textOf (x :: l)).length := by show (textOf (x :: l)).toArray.size = _; simp
    rw [e, List.length_append, List.length_cons] at hf
    obtain ⟨f, rfl⟩ : ∃ g, f = g + 1 := ⟨f - 1, by omega⟩
    rw [linesN, hz, if_neg (by rw [e, List.length_append, List.length_cons]; omega), cutB_mk, e, cut_one (lnText x) _ _ h1]
    dsimp only
    rw [lines_text l f (fun y hy => h y (List.mem_cons_of_mem _ hy)) (by omega), List.map_cons]
theorem readGo_text : ∀ (l acc : List S36), (∀ x ∈ l, shownOk x) → readGo acc (l.map (fun x => ((⟨(lnText x).toArray⟩ : ByteArray), true))) = (acc ++ l, 0, 0)
  | [], acc, _ => by simp [readGo]
  | x :: l, acc, h => by
    have hx := h x (List.mem_cons_self)
    have e : asmParse ⟨(lnText x).toArray⟩ = some (x.f0, (x.f1.f0, x.f1.f1, x.f1.f2, x.f1.f3, x.f1.f4), x.f2) := parse_text hx.2.2.1 hx.1 hx.2.1
    have ih := readGo_text l (acc ++ [x]) (fun y hy => h y (List.mem_cons_of_mem _ hy))
    simp only [List.map_cons, readGo, e]
    rw [show (⟨x.f0, ⟨x.f1.f0, x.f1.f1, x.f1.f2, x.f1.f3, x.f1.f4⟩, x.f2⟩ : S36) = x from rfl, ih, List.append_assoc]
    rfl
theorem ln_len2 (x : S36) (h : x.f0.size ≤ 60 ∧ x.f2.size ≤ 60) : (lnText x).length ≤ 300 := by
  have h0 := text_len x.f1.f0 x.f1.f1 x.f1.f2 x.f1.f3 x.f1.f4
  have h1 : x.f0.data.toList.length = x.f0.size := by rw [Array.length_toList]; rfl
  have h2 : x.f2.data.toList.length = x.f2.size := by rw [Array.length_toList]; rfl
  unfold lnText lineText
  simp only [List.length_append]
  split <;> split <;> simp only [List.length_append, List.length_nil, List.length_cons] <;> omega
theorem show_text2 : ∀ (l : List S36), (∀ x ∈ l, x.f0.size ≤ 60 ∧ x.f2.size ≤ 60) → asmShow l = some (textOf l) ∧ (textOf l).length ≤ 301 * l.length
  | [], _ => ⟨rfl, by simp [textOf]⟩
  | x :: l, h => by
    have hx := h x (List.mem_cons_self)
    have e : asmLineF x = some ⟨(lnText x).toArray⟩ := by
      unfold asmLineF
      exact line_text x.f0 x.f2 _ _ _ _ _ (by omega) (by omega)
    obtain ⟨i1, i2⟩ := show_text2 l (fun y hy => h y (List.mem_cons_of_mem _ hy))
    have h1 := ln_len2 x hx
    refine ⟨?_, ?_⟩
    · rw [asmShow, e, Option.bind_some, i1, Option.bind_some]
      simp [textOf]
    · simp only [textOf, List.flatMap_cons, List.length_append, List.length_cons, List.length_nil] at *
      omega
theorem show_any (l : List S36) (h : ∀ x ∈ l, x.f0.size ≤ 60 ∧ x.f2.size ≤ 60) (hl : l.length ≤ 100) : ∃ s, asm_Show.f l = some s ∧ s.size ≤ 1000000 := by
  obtain ⟨h1, h2⟩ := show_text2 l h
  have hz : (⟨(textOf l).toArray⟩ : ByteArray).size = (textOf l).length := by show (textOf l).toArray.size = _; simp
  refine ⟨⟨(textOf l).toArray⟩, ?_, by omega⟩
  unfold asm_Show.f
  rw [h1, Option.bind_some, if_pos (by omega)]
theorem show_read (l : List S36) (h : ∀ x ∈ l, shownOk x) (hl : l.length ≤ 100) : ∃ s, asm_Show.f l = some s ∧ s.size ≤ 1000000 ∧ asmRead s = (l, 0, 0) := by
  have h1 := textOf_len l h
  have hz : (⟨(textOf l).toArray⟩ : ByteArray).size = (textOf l).length := by show (textOf l).toArray.size = _; simp
  refine ⟨⟨(textOf l).toArray⟩, ?_, by omega, ?_⟩
  · unfold asm_Show.f
    rw [show_textOf l h, Option.bind_some, if_pos (by omega)]
  · unfold asmRead linesB
    simp only [List.toList_toArray]
    rw [textOf_count l h, if_neg (by omega), hz, lines_text l _ h (Nat.le_refl _), readGo_text l [] h, List.nil_append]
end Go.Proofs.YtlhkojnocconfaaDoor.Q
