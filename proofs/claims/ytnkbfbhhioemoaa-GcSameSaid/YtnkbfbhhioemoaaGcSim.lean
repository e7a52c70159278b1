
/- gc: what was copied is as what was there: it is reached in the same order. -/
import Derived.Test.YtnkbfbhhioemoaaQx0
import Derived.Test.YtnkbfbhhioemoaaGcBlk
import Derived.Test.YtnkbfbhhioemoaaGcModel
import Derived.Test.YtnkbfbhhioemoaaGcMove
import Derived.Test.YtnkbfbhhioemoaaGcRefE
import Derived.Test.YtnkbfbhhioemoaaHeapPlain
import Derived.Test.YtnkbfbhhioemoaaHgcChange
import Derived.Test.YtnkbfbhhioemoaaHgcCollect
--@needs XGcRefE
--@needs XGcMove
--@needs XHgcCollect
namespace Go.Proofs.Ytnkbfbhhioemoaa.Q
open Go.RowKit Go.Proofs.YtnkbfbhhioemoaaW.PrintWords Go.Proofs.YtnkbfbhhioemoaaW.PrintLast Go.Proofs.YtnkbfbhhioemoaaW.PrintMore
attribute [local go_sem] max2_int min2_int max_two min_two max_three min_three max_four min_four   -- for this text's walks alone
set_option linter.unusedVariables false
set_option linter.unusedSimpArgs false

theorem rd_splice_out {O X : List Int} {p : Nat} {i : Int} (h0 : 0 ≤ i) (hp : p + X.length ≤ O.length) (h : i < p ∨ (p : Int) + X.length ≤ i) : rd (splice O p X) i = rd O i := by
  unfold rd splice
  rw [List.getD_eq_getElem?_getD, List.getD_eq_getElem?_getD]
  congr 1
  rcases h with h | h
  · rw [List.getElem?_append_left (by simp; omega), List.getElem?_take_of_lt (by omega)]
  · rw [List.getElem?_append_right (by simp; omega), List.getElem?_append_right (by simp; omega), List.getElem?_drop]
    congr 1
    simp
    omega
theorem rd_splice_in {O X : List Int} {p : Nat} {j : Int} (hp : p + X.length ≤ O.length) (h0 : 0 ≤ j) (h : j < X.length) : rd (splice O p X) (p + j) = rd X j := by
  unfold rd splice
  rw [List.getD_eq_getElem?_getD, List.getD_eq_getElem?_getD]
  congr 1
  rw [List.getElem?_append_right (by simp; omega), List.getElem?_append_left (by simp; omega)]
  congr 1
  simp
  omega
section
variable {m : List Int} {F T : Int} {blk chg : Int → Int} (hF : 0 ≤ F) (hT : T ≤ m.length)
include hF hT
theorem gLay_out : ∀ {l : List Int} {t : Int} {O : List Int} {i : Int}, GInv F T blk l → 0 ≤ t → t + gWords blk l ≤ O.length → 0 ≤ i → (i < t ∨ t + gWords blk l ≤ i) → rd (gLay m blk chg t l O) i = rd O i
  | [], t, O, i, _, _, _, _, _ => rfl
  | a :: r, t, O, i, h, h0, h1, hi0, hi => by
    have hc := gCells_len (m := m) (chg := chg) h hF hT (a := a) (by simp)
    have hi2 : GInv F T blk r := ⟨fun b hb => h.mem b (by simp [hb]), (List.pairwise_cons.1 h.apart).2⟩
    have hn := gWords_nonneg hi2.nonneg
    have ha := h.mem a (by simp)
    simp only [gWords] at h1 hi
    have hl : (splice O t.toNat (gCells m blk chg a)).length = O.length := length_splice _ _ _ (by omega)
    rw [gLay, gLay_out hi2 (by omega) (by rw [hl]; omega) hi0 (by omega), rd_splice_out hi0 (by omega) (by omega)]
theorem gLay_at {b : Int} {post : List Int} : ∀ {pre : List Int} {t : Int} {O : List Int} {j : Int}, GInv F T blk (pre ++ b :: post) → 0 ≤ t → t + gWords blk (pre ++ b :: post) ≤ O.length → 0 ≤ j → j < blk b → rd (gLay m blk chg t (pre ++ b :: post) O) (t + gWords blk pre + j) = rd (gCells m blk chg b) j
  | [], t, O, j, h, h0, h1, hj0, hj => by
    have hc := gCells_len (m := m) (chg := chg) h hF hT (a := b) (by simp)
    have hi2 : GInv F T blk post := ⟨fun c hb => h.mem c (by simp [hb]), (List.pairwise_cons.1 h.apart).2⟩
    have hn := gWords_nonneg hi2.nonneg
    have ha := h.mem b (by simp)
    simp only [List.nil_append, gWords] at h1
    have hl : (splice O t.toNat (gCells m blk chg b)).length = O.length := length_splice _ _ _ (by omega)
    simp only [List.nil_append, gWords, gLay]
    rw [gLay_out hF hT hi2 (by omega) (by rw [hl]; omega) (by omega) (.inl (by omega)), show t + 0 + j = (t.toNat : Int) + j by omega, rd_splice_in (by omega) hj0 (by omega)]
  | a :: r, t, O, j, h, h0, h1, hj0, hj => by
    have hc := gCells_len (m := m) (chg := chg) h hF hT (a := a) (by simp)
    have hi2 : GInv F T blk (r ++ b :: post) := ⟨fun c hb => h.mem c (by rw [List.cons_append]; exact List.mem_cons_of_mem _ hb), (List.pairwise_cons.1 h.apart).2⟩
    have hn := gWords_nonneg hi2.nonneg
    have ha := h.mem a (by simp)
    rw [List.cons_append, gWords] at h1
    have hl : (splice O t.toNat (gCells m blk chg a)).length = O.length := length_splice _ _ _ (by omega)
    rw [List.cons_append, gLay, gWords, show t + (blk a + gWords blk r) + j = (t + blk a) + gWords blk r + j by omega]
    exact gLay_at hi2 (by omega) (by rw [hl]; omega) hj0 hj
end
theorem gMoved_pos {blk : Int → Int} {t b : Int} {pre post : List Int} (hn : (pre ++ b :: post).Nodup) : gMoved blk t (pre ++ b :: post) b = some (t + gWords blk pre) := by
  refine gMoved_mid ?_
  intro h
  rw [List.nodup_append] at hn
  exact hn.2.2 b h b (by simp) rfl
/-- what is known when all is copied -/
structure GCop (m : List Int) (F T t : Int) (l : List Int) : Prop where
  vals : ∀ x ∈ m, 0 ≤ x ∧ x < 4294967296
  len : m.length ≤ 1000000
  hF : 0 ≤ F
  hFT : F ≤ T
  hT : T ≤ m.length
  t0 : 0 ≤ t
  t1 : t + gWords (gBlk m T) l ≤ m.length
  inv : GInv F T (gBlk m T) l
  /-- each word of what is reached is odd, or leads to what is reached -/
  kids : ∀ b ∈ l, ∀ x ∈ gKids m (gBlk m T) b, x % 2 = 1 ∨ (gLeads F T x = true ∧ x / 4 ∈ l)
abbrev gPos (m : List Int) (T t : Int) (l : List Int) (b : Int) : Int := (gMoved (gBlk m T) t l b).getD 0
abbrev gChg (m : List Int) (F T t : Int) (l : List Int) : Int → Int := gChange F T (gMoved (gBlk m T) t l)
abbrev gNew (m : List Int) (F T t : Int) (l : List Int) : List Int := gLay m (gBlk m T) (gChg m F T t l) t l m
abbrev gEnd (m : List Int) (T t : Int) (l : List Int) : Int := t + gWords (gBlk m T) l
theorem GCop.chg_odd {m : List Int} {F T t : Int} {l : List Int} (_ : GCop m F T t l) {x : Int} (h : x % 2 = 1) : gChg m F T t l x = x := by
  unfold gChg gChange
  rw [if_neg]
  unfold gLeads
  simp; omega
theorem GCop.chg_leads {m : List Int} {F T t : Int} {l : List Int} (_ : GCop m F T t l) {x : Int} (h : gLeads F T x = true) : gChg m F T t l x = 4 * gPos m T t l (x / 4) := by
  unfold gChg gChange
  rw [if_pos h]
section
variable {m : List Int} {F T t : Int} {l : List Int} (H : GCop m F T t l)
include H
theorem GCop.split {b : Int} (hb : b ∈ l) : ∃ pre post, l = pre ++ b :: post ∧ gMoved (gBlk m T) t l b = some (t + gWords (gBlk m T) pre) ∧ 0 ≤ gWords (gBlk m T) pre ∧ gWords (gBlk m T) pre + gBlk m T b ≤ gWords (gBlk m T) l := by
  obtain ⟨pre, post, e⟩ := List.append_of_mem hb
  have hn := H.inv.nodup
  have h1 := H.inv.nonneg
  have hi := H.inv
  subst e
  have n0 := gWords_nonneg (blk := gBlk m T) (l := pre) (fun c hc => h1 c (by simp [hc]))
  have n1 := gWords_nonneg (blk := gBlk m T) (l := post) (fun c hc => h1 c (by simp [hc]))
  have e2 := gWords_append (gBlk m T) pre (b :: post)
  simp only [gWords] at e2
  exact ⟨pre, post, rfl, gMoved_pos hn, n0, by omega⟩
theorem GCop.new_len : (gNew m F T t l).length = m.length := gLay_len H.hF H.hT H.inv H.t0 H.t1
theorem GCop.new_at {b j : Int} (hb : b ∈ l) (h0 : 0 ≤ j) (h1 : j < gBlk m T b) : rd (gNew m F T t l) (gPos m T t l b + j) = rd (gCells m (gBlk m T) (gChg m F T t l) b) j := by
  obtain ⟨pre, post, e, hp, _⟩ := H.split hb
  have hi := H.inv
  have ht := H.t1
  unfold gPos gNew
  rw [hp]
  generalize gChg m F T t l = chg
  show rd (gLay m (gBlk m T) chg t l m) (t + gWords (gBlk m T) pre + j) = _
  rw [e] at hi ht ⊢
  exact gLay_at H.hF H.hT hi H.t0 ht h0 h1
theorem GCop.pos_span {b : Int} (hb : b ∈ l) : t ≤ gPos m T t l b ∧ gPos m T t l b + gBlk m T b ≤ gEnd m T t l := by
  obtain ⟨pre, post, e, hp, h0, h1⟩ := H.split hb
  unfold gPos gEnd
  rw [hp]
  show t ≤ t + _ ∧ t + _ + _ ≤ _
  omega
/-- the head of what was copied, and the words behind it -/
theorem GCop.new_head {b : Int} (hb : b ∈ l) : rd (gNew m F T t l) (gPos m T t l b) = rd m b := by
  have hm := H.inv.mem b hb
  have := H.new_at hb (j := 0) (by omega) (by omega)
  rw [Int.add_zero] at this
  rw [this]
  rfl
theorem GCop.new_kid {b : Int} (hb : b ∈ l) (j : Nat) (hj : (j : Int) + 1 < gBlk m T b) : rd (gNew m F T t l) (gPos m T t l b + ((j : Int) + 1)) = gChg m F T t l (rd m (b + ((j : Int) + 1))) ∧ rd m (b + ((j : Int) + 1)) ∈ gKids m (gBlk m T) b := by
  have hm := H.inv.mem b hb
  have hk := gKids_len (m := m) H.inv H.hF H.hT hb
  have hjl : j < (gKids m (gBlk m T) b).length := by omega
  have hF := H.hF
  have hT := H.hT
  have hg := gKids_at (m := m) (blk := gBlk m T) (a := b) (j := j) (by omega) (by omega) hjl
  refine ⟨?_, by rw [← hg]; exact List.getElem_mem _⟩
  rw [H.new_at hb (by omega) hj, ← hg]
  unfold gCells rd
  rw [List.getD_eq_getElem?_getD, show ((j : Int) + 1).toNat = j + 1 by omega, List.getElem?_cons_succ, List.getElem?_map, List.getElem?_eq_getElem hjl]
  rfl
theorem GCop.pos_inj {b c : Int} (hb : b ∈ l) (hc : c ∈ l) (h : gPos m T t l b = gPos m T t l c) : b = c := by
  obtain ⟨p1, q1, e1, hp1, _⟩ := H.split hb
  obtain ⟨p2, q2, e2, hp2, _⟩ := H.split hc
  unfold gPos at h
  rw [hp1, hp2] at h
  have hw : gWords (gBlk m T) p1 = gWords (gBlk m T) p2 := by
    have h : t + _ = t + _ := h
    omega
  have hpos := fun x hx => (H.inv.mem x hx).2.1
  -- the shorter one ahead is a beginning of the other
  have key : ∀ (a1 a2 b1 b2 : List Int) (x y : Int), (∀ z ∈ a1 ++ x :: b1, 2 ≤ gBlk m T z) → a1 ++ x :: b1 = a2 ++ y :: b2 → gWords (gBlk m T) a1 = gWords (gBlk m T) a2 → x = y := by
    intro a1
    induction a1 with
    | nil =>
      intro a2 b1 b2 x y hz he hg
      cases a2 with
      | nil => simp at he; exact he.1
      | cons c r =>
        have h1 := hz x (by simp)
        simp at he
        have h2 := gWords_nonneg (blk := gBlk m T) (l := r) (fun z hz2 => by have := hz z (by simp [he.2, hz2]); omega)
        simp only [gWords] at hg
        rw [← he.1] at hg
        omega
    | cons c r ih =>
      intro a2 b1 b2 x y hz he hg
      cases a2 with
      | nil =>
        have h1 := hz c (by simp)
        have h2 := gWords_nonneg (blk := gBlk m T) (l := r) (fun z hz2 => by have := hz z (by simp [hz2]); omega)
        simp only [gWords] at hg
        omega
      | cons d s =>
        simp only [List.cons_append, List.cons.injEq] at he
        simp only [gWords] at hg
        rw [← he.1] at hg
        exact ih s b1 b2 x y (fun z hz2 => hz z (by rw [List.cons_append]; exact List.mem_cons_of_mem _ hz2)) he.2 (by omega)
  exact key p1 p2 q1 q2 b c (fun z hz => hpos z (e1 ▸ hz)) (e1.symm.trans e2) hw
theorem GCop.order {lk post : List Int} {b c : Int} (e : l = lk ++ b :: post) (hc : c ∈ lk) : gPos m T t l c + gBlk m T c ≤ gPos m T t l b := by
  have hn := H.inv.nodup
  have hnn := H.inv.nonneg
  obtain ⟨p, q, rfl⟩ := List.append_of_mem hc
  have hp1 : gMoved (gBlk m T) t l b = some (t + gWords (gBlk m T) (p ++ c :: q)) := by
    rw [e] at hn ⊢
    exact gMoved_pos hn
  have hp2 : gMoved (gBlk m T) t l c = some (t + gWords (gBlk m T) p) := by
    rw [e, List.append_assoc, List.cons_append] at hn ⊢
    exact gMoved_pos hn
  have n1 := gWords_nonneg (blk := gBlk m T) (l := q) (fun z hz => hnn z (by rw [e]; simp [hz]))
  unfold gPos
  rw [hp1, hp2]
  show t + _ + _ ≤ t + _
  rw [gWords_append, gWords]
  omega
end
end Go.Proofs.Ytnkbfbhhioemoaa.Q
