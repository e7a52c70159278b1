/- image: Take inverts Put, Put inverts Take, and one changed byte is found. -/
import Derived.Test.YtbjfchkfhbpclaaQx0
import Derived.Test.YtbjfchkfhbpclaaHimgPut
import Derived.Test.YtbjfchkfhbpclaaHimgSum
import Derived.Test.YtbjfchkfhbpclaaHimgTake
import Derived.Test.YtbjfchkfhbpclaaHimgTk
--@needs XHimgTake
--@needs XHimgPut
--@needs XHimgSum
namespace Go.Proofs.Ytbjfchkfhbpclaa.Q
open Go.RowKit Go.Proofs.YtbjfchkfhbpclaaW.PrintWords Go.Proofs.YtbjfchkfhbpclaaW.PrintLast Go.Proofs.YtbjfchkfhbpclaaW.PrintMore
attribute [local go_sem] max2_int min2_int max_two min_two max_three min_three max_four min_four   -- for this text's walks alone
set_option linter.unusedVariables false
set_option linter.unusedSimpArgs false

theorem num4_cons (a b c d : Int) (r : List Int) : num4 (a :: b :: c :: d :: r) = a * 16777216 + b * 65536 + c * 256 + d := rfl
theorem num4_fourB {n : Int} (h0 : 0 ≤ n) (h1 : n < 4294967296) (r : List Int) : num4 (fourB n ++ r) = n := by
  show num4 (n / 16777216 % 256 :: n / 65536 % 256 :: n / 256 % 256 :: n % 256 :: r) = n
  rw [num4_cons]
  omega
theorem fourB_num4 {l : List Int} (hb : ∀ x ∈ l, 0 ≤ x ∧ x < 256) (h4 : 4 ≤ l.length) : fourB (num4 l) = l.take 4 := by
  match l, hb, h4 with
  | a :: b :: c :: d :: r, hb, _ =>
    have ha := hb a (by simp)
    have hb' := hb b (by simp)
    have hc := hb c (by simp)
    have hd := hb d (by simp)
    rw [num4_cons]
    show [_, _, _, _] = [a, b, c, d]
    congr 1
    · omega
    · congr 1
      · omega
      · congr 1
        · omega
        · congr 1
          omega
theorem putsB_append (a b : List Int) : putsB (a ++ b) = putsB a ++ putsB b := by simp [putsB]
theorem putsB_nums {l : List Int} (hb : ∀ x ∈ l, 0 ≤ x ∧ x < 256) : ∀ n : Nat, 4 * n ≤ l.length → putsB (nums l n) = l.take (4 * n) := by
  intro n
  induction n with
  | zero => intro _; rfl
  | succ n ih =>
    intro h
    rw [nums_succ, putsB_append, ih (by omega), show 4 * (n + 1) = 4 * n + 4 by omega, List.take_add]
    congr 1
    have e : putsB [num4 (l.drop (4 * n))] = fourB (num4 (l.drop (4 * n))) := by simp [putsB]
    rw [e, fourB_num4 (fun x hx => hb x (List.mem_of_mem_drop hx)) (by rw [List.length_drop]; omega)]
theorem nums_front (l : List Int) (n : Nat) : nums l (n + 1) = num4 l :: nums (l.drop 4) n := by
  unfold nums
  rw [List.range_succ_eq_map, List.map_cons, List.map_map, Nat.mul_zero, List.drop_zero]
  congr 1
  apply List.map_congr_left
  intro i _
  show num4 (l.drop (4 * (i + 1))) = num4 ((l.drop 4).drop (4 * i))
  rw [List.drop_drop]
  congr 2
  omega
theorem fourB_len (n : Int) : (fourB n).length = 4 := rfl
theorem nums_putsB : ∀ (c r : List Int), (∀ x ∈ c, 0 ≤ x ∧ x < 4294967296) → nums (putsB c ++ r) c.length = c
  | [], r, _ => rfl
  | a :: c, r, h => by
    have ha := h a (by simp)
    have e : putsB (a :: c) ++ r = fourB a ++ (putsB c ++ r) := by simp [putsB]
    rw [List.length_cons, nums_front, e, num4_fourB ha.1 ha.2]
    congr 1
    have e2 : (fourB a ++ (putsB c ++ r)).drop 4 = putsB c ++ r := rfl
    rw [e2]
    exact nums_putsB c r (fun x hx => h x (List.mem_cons_of_mem _ hx))
def markB : List Int := [67, 77, 76, 49]
theorem mark_str : (strOfNums markB).toList = ([67, 77, 76, 49] : List UInt8) := by rw [ByteArray.toList_eq]; rfl
theorem str_inj {a b : List Int} (ha : ∀ x ∈ a, 0 ≤ x ∧ x < 256) (hb : ∀ x ∈ b, 0 ≤ x ∧ x < 256) (h : (strOfNums a).toList = (strOfNums b).toList) : a = b := by
  rw [ByteArray.toList_eq, ByteArray.toList_eq] at h
  have h2 : a.map (fun n => UInt8.ofNat n.toNat) = b.map (fun n => UInt8.ofNat n.toNat) := by simpa [strOfNums] using h
  clear h
  induction a generalizing b with
  | nil =>
    cases b with
    | nil => rfl
    | cons y b => simp at h2
  | cons x a ih =>
    cases b with
    | nil => simp at h2
    | cons y b =>
      rw [List.map_cons, List.map_cons] at h2
      injection h2 with h3 h4
      have hx := ha x (by simp)
      have hy := hb y (by simp)
      have h5 := congrArg UInt8.toNat h3
      rw [UInt8.toNat_ofNat', UInt8.toNat_ofNat'] at h5
      congr 1
      · omega
      · exact ih (fun z hz => ha z (List.mem_cons_of_mem _ hz)) (fun z hz => hb z (List.mem_cons_of_mem _ hz)) h4
theorem imgBytes_eq (c : List Int) (e : Int) : imgBytes c e = 67 :: 77 :: 76 :: 49 :: (fourB c.length ++ (fourB e ++ (putsB c ++ fourB (sumB 1 (imgHead c e))))) := by
  simp [imgBytes, imgHead, putsB]
theorem imgBytes_len (c : List Int) (e : Int) : (imgBytes c e).length = 16 + 4 * c.length := by
  unfold imgBytes
  rw [List.length_append, imgHead_len, putsB_len]
  simp
  omega
theorem imgBytes_byte {c : List Int} {e : Int} : ∀ x ∈ imgBytes c e, 0 ≤ x ∧ x < 256 := by
  intro x hx
  unfold imgBytes at hx
  rcases List.mem_append.1 hx with h | h
  · exact imgHead_byte x h
  · exact putsB_byte x h
theorem imgTake_put {c : List Int} {e : Int} (hr : imgRight c e = true) (hc : ∀ x ∈ c, 0 ≤ x ∧ x < 4294967296) : imgTake (imgBytes c e) = (c, e, 0) := by
  have h := of_decide_eq_true hr
  have hl := imgBytes_len c e
  have d4 : (imgBytes c e).drop 4 = fourB c.length ++ (fourB e ++ (putsB c ++ fourB (sumB 1 (imgHead c e)))) := by rw [imgBytes_eq]; rfl
  have d8 : (imgBytes c e).drop 8 = fourB e ++ (putsB c ++ fourB (sumB 1 (imgHead c e))) := by rw [imgBytes_eq]; rfl
  have d12 : (imgBytes c e).drop 12 = putsB c ++ fourB (sumB 1 (imgHead c e)) := by rw [imgBytes_eq]; rfl
  have t4 : (imgBytes c e).take 4 = markB := by rw [imgBytes_eq]; rfl
  have hs := sumB_range 1 (by omega) (imgHead c e)
  have hcut : (imgBytes c e).length - 4 = (imgHead c e).length := by rw [hl, imgHead_len]; omega
  have hp : putsB [sumB 1 (imgHead c e)] = fourB (sumB 1 (imgHead c e)) := by simp [putsB]
  have tl : (imgBytes c e).take ((imgBytes c e).length - 4) = imgHead c e := by rw [hcut]; unfold imgBytes; exact List.take_left'  rfl
  have dl : (imgBytes c e).drop ((imgBytes c e).length - 4) = fourB (sumB 1 (imgHead c e)) ++ [] := by rw [hcut, List.append_nil, ← hp]; unfold imgBytes; exact List.drop_left' rfl
  have n4 : num4 ((imgBytes c e).drop 4) = (c.length : Int) := by rw [d4, num4_fourB (by omega) (by omega)]
  have n8 : num4 ((imgBytes c e).drop 8) = e := by rw [d8, num4_fourB (by omega) (by omega)]
  unfold imgTake
  rw [if_neg (by omega), t4, if_neg (fun h => h mark_str), n4, if_neg (by omega), if_neg (fun h => h (by omega)), dl, tl, num4_fourB hs.1 hs.2, if_neg (fun h => h rfl), n8, d12, Int.toNat_natCast, nums_putsB c _ hc, if_pos hr]
/-- what is taken, as it was put -/
theorem imgTake_some {l c : List Int} {e : Int} (hb : ∀ x ∈ l, 0 ≤ x ∧ x < 256) (h : imgTake l = (c, e, 0)) : imgRight c e = true ∧ imgBytes c e = l ∧ ∀ x ∈ c, 0 ≤ x ∧ x < 4294967296 := by
  unfold imgTake at h
  by_cases h1 : (l.length : Int) < 16
  · rw [if_pos h1] at h; simp at h
  rw [if_neg h1] at h
  by_cases h2 : (strOfNums (l.take 4)).toList = ([67, 77, 76, 49] : List UInt8)
  case neg => rw [if_pos h2] at h; simp at h
  rw [if_neg (fun h => h h2)] at h
  by_cases h3 : 16384 < num4 (l.drop 4)
  · rw [if_pos h3] at h; simp at h
  rw [if_neg h3] at h
  by_cases h4 : (l.length : Int) = 16 + 4 * num4 (l.drop 4)
  case neg => rw [if_pos h4] at h; simp at h
  rw [if_neg (fun h => h h4)] at h
  by_cases h5 : num4 (l.drop (l.length - 4)) = sumB 1 (l.take (l.length - 4))
  case neg => rw [if_pos h5] at h; simp at h
  rw [if_neg (fun h => h h5)] at h
  by_cases h6 : imgRight (nums (l.drop 12) (num4 (l.drop 4)).toNat) (num4 (l.drop 8)) = true
  case neg => rw [if_neg h6] at h; simp at h
  rw [if_pos h6] at h
  have hb' : ∀ n, ∀ x ∈ l.drop n, 0 ≤ x ∧ x < 256 := fun n x hx => hb x (List.mem_of_mem_drop hx)
  have hn := num4_range (hb' 4)
  obtain ⟨n, hn'⟩ := Int.eq_ofNat_of_zero_le hn.1
  rw [hn'] at h h4 h6
  rw [Int.toNat_natCast] at h h6
  simp only [Prod.mk.injEq] at h
  obtain ⟨rfl, rfl, _⟩ := h
  refine ⟨h6, ?_, ?_⟩
  · have hm : l.take 4 = markB := str_inj (fun x hx => hb x (List.mem_of_mem_take hx)) (by decide) (by rw [h2, mark_str])
    have f4 : fourB (n : Int) = (l.drop 4).take 4 := by rw [← hn']; exact fourB_num4 (hb' 4) (by rw [List.length_drop]; omega)
    have f8 : fourB (num4 (l.drop 8)) = (l.drop 8).take 4 := fourB_num4 (hb' 8) (by rw [List.length_drop]; omega)
    have fc : putsB (nums (l.drop 12) n) = (l.drop 12).take (4 * n) := putsB_nums (hb' 12) n (by rw [List.length_drop]; omega)
    have hh : imgHead (nums (l.drop 12) n) (num4 (l.drop 8)) = l.take (l.length - 4) := by
      have e1 : imgHead (nums (l.drop 12) n) (num4 (l.drop 8)) = markB ++ (fourB (n : Int) ++ (fourB (num4 (l.drop 8)) ++ putsB (nums (l.drop 12) n))) := by
        simp [imgHead, putsB, markB, nums_len]
      rw [e1, f4, f8, fc, ← hm, show l.length - 4 = 4 + (4 + (4 + 4 * n)) by omega, List.take_add, List.take_add, List.take_add, List.drop_drop, List.drop_drop]
    unfold imgBytes
    rw [hh, ← h5]
    have e2 : putsB [num4 (l.drop (l.length - 4))] = fourB (num4 (l.drop (l.length - 4))) := by simp [putsB]
    rw [e2, fourB_num4 (hb' _) (by rw [List.length_drop]; omega), List.take_of_length_le (l := l.drop (l.length - 4)) (by rw [List.length_drop]; omega), List.take_append_drop]
  · intro x hx
    unfold nums at hx
    obtain ⟨i, _, rfl⟩ := List.mem_map.1 hx
    exact num4_range (fun y hy => hb' 12 y (List.mem_of_mem_drop hy))
theorem imgTake_none {l : List Int} (h : (imgTake l).2.2 ≠ 0) : (imgTake l).1 = [] ∧ (imgTake l).2.1 = 0 := by
  unfold imgTake at h ⊢
  repeat' split at h
  all_goals first | exact absurd rfl h | (simp only [*, if_true, if_false, not_true, not_false_iff]; simp_all)
theorem sumB_inj : ∀ (l : List Int) (s t : Int), 0 ≤ s ∧ s < 4294967296 → 0 ≤ t ∧ t < 4294967296 → sumB s l = sumB t l → s = t
  | [], s, t, _, _, h => h
  | a :: l, s, t, hs, ht, h => by
    have e := sumB_inj l ((31 * s % 4294967296 + a) % 4294967296) ((31 * t % 4294967296 + a) % 4294967296) (by omega) (by omega) h
    omega
theorem sumB_set : ∀ (l : List Int) (s : Int) (i : Nat) (x : Int), (hi : i < l.length) → 0 ≤ s ∧ s < 4294967296 → 0 ≤ x ∧ x < 256 → (∀ y ∈ l, 0 ≤ y ∧ y < 256) → sumB s (l.set i x) = sumB s l → x = l[i]
  | a :: l, s, 0, x, hi, hs, hx, hl, h => by
    have ha := hl a (by simp)
    have e := sumB_inj l ((31 * s % 4294967296 + x) % 4294967296) ((31 * s % 4294967296 + a) % 4294967296) (by omega) (by omega) h
    show x = a
    omega
  | a :: l, s, i + 1, x, hi, hs, hx, hl, h => by
    have ha := hl a (by simp)
    exact sumB_set l ((31 * s % 4294967296 + a) % 4294967296) i x (by simpa using hi) (by omega) hx (fun y hy => hl y (List.mem_cons_of_mem _ hy)) h
theorem imgBytes_last (c : List Int) (e : Int) : imgBytes c e = imgHead c e ++ fourB (sumB 1 (imgHead c e)) := by unfold imgBytes; simp [putsB]
/-- one changed byte is found -/
theorem imgTake_set {c : List Int} {e : Int} (i : Nat) (x : Int) (hi : i < (imgBytes c e).length) (hx : 0 ≤ x ∧ x < 256) (hne : ¬ (imgBytes c e)[i] = x) : (imgTake ((imgBytes c e).set i x)).2.2 ≠ 0 := by
  intro h0
  obtain ⟨c', e', h⟩ : ∃ c' e', imgTake ((imgBytes c e).set i x) = (c', e', 0) := ⟨(imgTake ((imgBytes c e).set i x)).1, (imgTake ((imgBytes c e).set i x)).2.1, by rw [← h0]⟩
  have hb : ∀ y ∈ (imgBytes c e).set i x, 0 ≤ y ∧ y < 256 := by
    intro y hy
    rcases List.mem_or_eq_of_mem_set hy with h | h
    · exact imgBytes_byte y h
    · rw [h]; exact hx
  obtain ⟨_, heq, _⟩ := imgTake_some hb h
  have hlen : c'.length = c.length := by
    have := congrArg List.length heq
    rw [imgBytes_len, List.length_set, imgBytes_len] at this
    omega
  have hH : (imgHead c' e').length = (imgHead c e).length := by rw [imgHead_len, imgHead_len, hlen]
  rw [imgBytes_last, imgBytes_last c e] at heq
  by_cases hlt : i < (imgHead c e).length
  · rw [List.set_append_left _ _ hlt] at heq
    obtain ⟨e1, e2⟩ := List.append_inj heq (by rw [hH, List.length_set])
    have hs1 := sumB_range 1 (by omega) (imgHead c' e')
    have hs2 := sumB_range 1 (by omega) (imgHead c e)
    have e3 : sumB 1 (imgHead c' e') = sumB 1 (imgHead c e) := by
      have h9 : num4 (fourB (sumB 1 (imgHead c' e')) ++ []) = num4 (fourB (sumB 1 (imgHead c e)) ++ []) := by rw [e2]
      rwa [num4_fourB hs1.1 hs1.2, num4_fourB hs2.1 hs2.2] at h9
    rw [e1] at e3
    have e4 := sumB_set (imgHead c e) 1 i x hlt (by omega) hx imgHead_byte e3
    apply hne
    rw [e4]
    have : imgBytes c e = imgHead c e ++ fourB (sumB 1 (imgHead c e)) := imgBytes_last c e
    simp only [this]
    rw [List.getElem_append_left hlt]
  · have hge : (imgHead c e).length ≤ i := by omega
    rw [List.set_append_right _ _ hge] at heq
    obtain ⟨e1, e2⟩ := List.append_inj heq hH
    rw [e1] at e2
    apply hne
    have : imgBytes c e = imgHead c e ++ fourB (sumB 1 (imgHead c e)) := imgBytes_last c e
    have hi2 : i - (imgHead c e).length < (fourB (sumB 1 (imgHead c e))).length := by rw [this, List.length_append] at hi; omega
    have e5 : (imgBytes c e)[i] = (fourB (sumB 1 (imgHead c e)))[i - (imgHead c e).length] := by
      simp only [this]
      rw [List.getElem_append_right hge]
    rw [e5]
    have e6 : ((fourB (sumB 1 (imgHead c e))).set (i - (imgHead c e).length) x)[i - (imgHead c e).length]'(by rw [List.length_set]; exact hi2) = x := by rw [List.getElem_set_self]
    rw [← e6]
    congr 1
end Go.Proofs.Ytbjfchkfhbpclaa.Q
