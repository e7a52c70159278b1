/- image: the reference's Take and Same, of any bytes. -/
import Derived.Test.YtbjfchkfhbpclaaQx0
import Derived.Test.YtbjfchkfhbpclaaQx11
import Derived.Test.YtbjfchkfhbpclaaQx13
import Derived.Test.YtbjfchkfhbpclaaQx2
import Derived.Test.YtbjfchkfhbpclaaEvW
import Derived.Test.YtbjfchkfhbpclaaHimgPut
import Derived.Test.YtbjfchkfhbpclaaHimgSum
import Derived.Test.YtbjfchkfhbpclaaHimgTake
import Derived.Test.YtbjfchkfhbpclaaHimgTk
import Derived.Test.YtbjfchkfhbpclaaHref44Put
--@needs XHimgTake
--@needs XHref44Put
--@needs XEvW
namespace Go.Proofs.Ytbjfchkfhbpclaa.Q
open Go.RowKit Go.Proofs.YtbjfchkfhbpclaaW.PrintWords Go.Proofs.YtbjfchkfhbpclaaW.PrintLast Go.Proofs.YtbjfchkfhbpclaaW.PrintMore
attribute [local go_sem] max2_int min2_int max_two min_two max_three min_three max_four min_four   -- for this text's walks alone
set_option linter.unusedVariables false
set_option linter.unusedSimpArgs false

theorem iw64 {n : Int} (h0 : -9223372036854775808 ≤ n) (h1 : n ≤ 9223372036854775807) : wrap64 n = n := by unfold wrap64; omega
theorem img_same : ∀ (l : List Int), l.length ≤ 9223372036854775807 → Ev (fun k => camletref41_Same.f k l l) true := by
  intro l hl
  have go : ∀ (d i : Nat), i + d = l.length → Ev (fun k => camletref41_Same.l0 k l l (l.length : Int) (i : Int)) true := by
    intro d
    induction d with
    | zero =>
      intro i hi
      refine Ev.step (f := fun _ => some true) (fun k => ?_) (Ev.now _)
      rw [camletref41_Same.l0]; rw [if_neg (by omega)]
    | succ d ih =>
      intro i hi
      refine Ev.step (f := fun k => camletref41_Same.l0 k l l (l.length : Int) ((i + 1 : Nat) : Int)) (fun k => ?_) (ih (i + 1) (by omega))
      rw [camletref41_Same.l0]
      rw [if_pos (by omega), if_pos (by omega), if_pos (by omega), if_pos (by omega), if_pos rfl, iw64 (by omega) (by omega)]
      rfl
  unfold camletref41_Same.f
  exact Ev.pos rfl (go l.length 0 (by omega))
theorem img_same44 (l : List Int) (a : Int) (hl : l.length ≤ 9223372036854775807) : Ev (fun k => camletref44_Same.f k l a l a) true := by
  unfold camletref44_Same.f
  exact Ev.pos rfl (Ev.bind (img_same l hl) (Ev.now _))
theorem rd_drop (l : List Int) (a i : Nat) : rd (l.drop a) (i : Int) = rd l ((a + i : Nat) : Int) := by
  unfold rd
  rw [Int.toNat_natCast, Int.toNat_natCast, List.getD_eq_getElem?_getD, List.getD_eq_getElem?_getD, List.getElem?_drop]
theorem img_number {l : List Int} (hb : ∀ x ∈ l, 0 ≤ x ∧ x < 256) (hl : l.length ≤ 1000000) (a : Nat) (ha : a + 4 ≤ l.length) : Ev (fun k => camletref44_number.f k l (a : Int)) (num4 (l.drop a)) := by
  have b0 := rd_byte hb (a + 0)
  have b1 := rd_byte hb (a + 1)
  have b2 := rd_byte hb (a + 2)
  have b3 := rd_byte hb (a + 3)
  have e : num4 (l.drop a) = rd l ((a + 0 : Nat) : Int) * 16777216 + rd l ((a + 1 : Nat) : Int) * 65536 + rd l ((a + 2 : Nat) : Int) * 256 + rd l ((a + 3 : Nat) : Int) := by
    rw [← rd_drop, ← rd_drop, ← rd_drop, ← rd_drop]; rfl
  rw [e]
  have st : ∀ (j : Nat) (n r : Int), j < 4 → Ev (fun k => camletref44_number.l0 k l (a : Int) ((256 * n % 4294967296 + rd l ((a + j : Nat) : Int) % 4294967296) % 4294967296) ((j + 1 : Nat) : Int)) r → Ev (fun k => camletref44_number.l0 k l (a : Int) n (j : Int)) r := by
    intro j n r hj h
    refine Ev.step (f := fun k => camletref44_number.l0 k l (a : Int) ((256 * n % 4294967296 + rd l ((a + j : Nat) : Int) % 4294967296) % 4294967296) ((j + 1 : Nat) : Int)) (fun k => ?_) h
    have e1 : wrap64 ((a : Int) + (j : Int)) = ((a + j : Nat) : Int) := by rw [iw64 (by omega) (by omega)]; omega
    have e2 : wrap64 ((j : Int) + 1) = ((j + 1 : Nat) : Int) := by rw [iw64 (by omega) (by omega)]; omega
    rw [camletref44_number.l0]
    rw [e1, e2, if_pos (by omega), if_pos (by omega), if_pos (by omega)]
  have fin : ∀ n r : Int, n = r → Ev (fun k => camletref44_number.l0 k l (a : Int) n ((4 : Nat) : Int)) r := by
    intro n r h
    subst h
    refine Ev.step (f := fun _ => some n) (fun k => ?_) (Ev.now _)
    rw [camletref44_number.l0]
    rw [if_neg (by decide)]
  unfold camletref44_number.f
  refine st 0 0 _ (by decide) (st 1 _ _ (by decide) (st 2 _ _ (by decide) (st 3 _ _ (by decide) (fin _ _ ?_))))
  generalize rd l ((a + 0 : Nat) : Int) = r0 at *
  generalize rd l ((a + 1 : Nat) : Int) = r1 at *
  generalize rd l ((a + 2 : Nat) : Int) = r2 at *
  generalize rd l ((a + 3 : Nat) : Int) = r3 at *
  clear st fin e
  omega
theorem img_take_l0 {l : List Int} (hb : ∀ x ∈ l, 0 ≤ x ∧ x < 256) (hl : l.length ≤ 1000000) (n : Nat) (hn : 12 + 4 * n ≤ l.length) (e : Int) : ∀ (d i : Nat), i + d = n →
    Ev (fun k => camletref44_Take.l0 k l (n : Int) (i : Int) (nums (l.drop 12) i) e) (if imgRight (nums (l.drop 12) n) e = true then (nums (l.drop 12) n, e, 0) else ([], 0, 3)) := by
  intro d
  induction d with
  | zero =>
    intro i hi
    obtain rfl : i = n := by omega
    refine Ev.step (f := fun _ => some (if imgRight (nums (l.drop 12) i) e = true then (nums (l.drop 12) i, e, 0) else ([], 0, 3))) (fun k => ?_) (Ev.now _)
    rw [camletref44_Take.l0]
    rw [if_neg (by omega), ref44_Right_eq]
    simp only [Option.bind_some]
    by_cases h : imgRight (nums (l.drop 12) i) e = true
    · rw [if_pos h, if_pos h]
    · rw [if_neg h, if_neg h]
  | succ d ih =>
    intro i hi
    have h := ih (i + 1) (by omega)
    rw [nums_succ] at h
    have hnum := img_number hb hl (12 + 4 * i) (by omega)
    rw [← List.drop_drop] at hnum
    have e1 : wrap64 (12 + wrap64 (4 * (i : Int))) = ((12 + 4 * i : Nat) : Int) := by
      rw [iw64 (n := 4 * (i : Int)) (by omega) (by omega), iw64 (by omega) (by omega)]; omega
    have e2 : wrap64 ((i : Int) + 1) = ((i + 1 : Nat) : Int) := by rw [iw64 (by omega) (by omega)]; omega
    refine Ev.step (f := fun k => (camletref44_number.f k l ((12 + 4 * i : Nat) : Int)).bind fun t => camletref44_Take.l0 k l (n : Int) ((i + 1 : Nat) : Int) (nums (l.drop 12) i ++ [t]) e) (fun k => ?_) (Ev.bind hnum h)
    rw [camletref44_Take.l0]
    rw [e1, e2, if_pos (by omega)]
    congr 1
    funext t
    rw [if_pos (by rw [nums_len]; omega)]
theorem img_take_ref {l : List Int} (hb : ∀ x ∈ l, 0 ≤ x ∧ x < 256) (hl : l.length ≤ 1000000) : Ev (fun k => camletref44_Take.f k l) (imgTake l) := by
  unfold camletref44_Take.f imgTake
  by_cases h1 : (l.length : Int) < 16
  · rw [if_pos h1]
    refine Ev.pos h1 ?_
    refine Ev.step (f := fun _ => some ([], 0, 3)) (fun k => ?_) (Ev.now _)
    rw [camletref44_Take.j0]
    rw [if_pos rfl]
  rw [if_neg h1]
  refine Ev.neg h1 (Ev.pos (by omega) ?_)
  by_cases h2 : (strOfNums (l.take 4)).toList = ([67, 77, 76, 49] : List UInt8)
  case neg =>
    rw [if_pos h2]
    refine Ev.step (f := fun _ => some ([], 0, 3)) (fun k => ?_) (Ev.now _)
    rw [camletref44_Take.j0]
    rw [if_pos (bne_iff_ne.mpr h2)]
  rw [if_neg (fun h => h h2)]
  have hb' : ∀ n, ∀ x ∈ l.drop n, 0 ≤ x ∧ x < 256 := fun n x hx => hb x (List.mem_of_mem_drop hx)
  have hn := num4_range (hb' 4)
  have he := num4_range (hb' 8)
  have n4 := img_number hb hl 4 (by omega)
  have n8 := img_number hb hl 8 (by omega)
  have nl := img_number hb hl (l.length - 4) (by omega)
  obtain ⟨n, hn'⟩ := Int.eq_ofNat_of_zero_le hn.1
  rw [hn'] at n4 hn ⊢
  generalize num4 (l.drop 8) = ee at *
  have hsum := ref44_Sum_eq (l := l.take (l.length - 4)) (by rw [List.length_take]; omega) (fun x hx => hb x (List.mem_of_mem_take hx))
  refine Ev.step (f := fun k => (camletref44_number.f k l 4).bind fun t241 => (if t241 > 16384 then (some (([] : List Int), 0, 4)) else (if (l.length : Int) = (wrap64 (16 + (wrap64 (4 * (wrap64 (t241)))))) then ((camletref44_number.f k l (wrap64 ((l.length : Int) - 4))).bind fun t242 => (if 0 ≤ (wrap64 ((l.length : Int) - 4)) then (if (wrap64 ((l.length : Int) - 4)) ≤ (l.length : Int) then ((camletref44_Sum.f k (l.take ((wrap64 ((l.length : Int) - 4)) : Int).toNat)).bind fun t244 => (if t242 = t244 then ((camletref44_number.f k l 8).bind fun t245 => (camletref44_Take.l0 k l (wrap64 (t241)) 0 ([] : List Int) (wrap64 (t245)))) else (some (([] : List Int), 0, 23)))) else (none)) else (none))) else (some (([] : List Int), 0, 3))))) (fun k => ?_) ?_
  · rw [camletref44_Take.j0]
    rw [if_neg (by rw [Bool.not_eq_true]; exact bne_eq_false_iff_eq.mpr h2)]
  refine Ev.bind n4 ?_
  by_cases h3 : 16384 < (n : Int)
  · rw [if_pos h3]; exact Ev.pos h3 (Ev.now _)
  rw [if_neg h3]
  refine Ev.neg h3 ?_
  have w1 : wrap64 (16 + wrap64 (4 * wrap64 (n : Int))) = 16 + 4 * (n : Int) := by rw [iw64 (n := (n : Int)) (by omega) (by omega), iw64 (n := 4 * (n : Int)) (by omega) (by omega), iw64 (by omega) (by omega)]
  rw [w1]
  by_cases h4 : (l.length : Int) = 16 + 4 * (n : Int)
  case neg => rw [if_pos h4]; exact Ev.neg h4 (Ev.now _)
  rw [if_neg (fun h => h h4)]
  refine Ev.pos h4 ?_
  have w2 : wrap64 ((l.length : Int) - 4) = ((l.length - 4 : Nat) : Int) := by rw [iw64 (by omega) (by omega)]; omega
  rw [w2, Int.toNat_natCast]
  refine Ev.bind nl (Ev.pos (by omega) (Ev.pos (by omega) (Ev.bind hsum ?_)))
  by_cases h5 : num4 (l.drop (l.length - 4)) = sumB 1 (l.take (l.length - 4))
  case neg => rw [if_pos h5]; exact Ev.neg h5 (Ev.now _)
  rw [if_neg (fun h => h h5)]
  refine Ev.pos h5 (Ev.bind n8 ?_)
  rw [iw64 (n := (n : Int)) (by omega) (by omega), iw64 (n := ee) (by omega) (by omega), Int.toNat_natCast]
  exact img_take_l0 hb hl n (by omega) ee n 0 (by omega)
end Go.Proofs.Ytbjfchkfhbpclaa.Q
