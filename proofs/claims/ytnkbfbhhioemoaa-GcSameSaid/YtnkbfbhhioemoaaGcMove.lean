/- gc: where blocks are moved to, and what is laid there, as plain lists. -/
import Derived.Test.YtnkbfbhhioemoaaQx0
import Derived.Test.YtnkbfbhhioemoaaGcModel
--@needs XGcModel
import Derived.Laws.CopyOwn
namespace Go.Proofs.Ytnkbfbhhioemoaa.Q
open Go.RowKit Go.Proofs.YtnkbfbhhioemoaaW.PrintWords Go.Proofs.YtnkbfbhhioemoaaW.PrintLast Go.Proofs.YtnkbfbhhioemoaaW.PrintMore
attribute [local go_sem] max2_int min2_int max_two min_two max_three min_three max_four min_four   -- for this text's walks alone
set_option linter.unusedVariables false
set_option linter.unusedSimpArgs false

/-- where a block is moved to, the first of them to a place -/
def gMoved (blk : Int → Int) : Int → List Int → Int → Option Int
  | _, [], _ => none
  | t, a :: r, k => if k = a then some t else gMoved blk (t + blk a) r k
def gCells (m : List Int) (blk : Int → Int) (chg : Int → Int) (a : Int) : List Int := rd m a :: (gKids m blk a).map chg
def gLay (m : List Int) (blk : Int → Int) (chg : Int → Int) : Int → List Int → List Int → List Int
  | _, [], O => O
  | t, a :: r, O => gLay m blk chg (t + blk a) r (splice O t.toNat (gCells m blk chg a))
theorem gMoved_append (blk : Int → Int) (a k : Int) : ∀ (l : List Int) (t : Int), gMoved blk t (l ++ [a]) k = match gMoved blk t l k with | some v => some v | none => if k = a then some (t + gWords blk l) else none
  | [], t => by simp [gMoved, gWords]
  | b :: r, t => by
    rw [List.cons_append, gMoved, gMoved]
    by_cases h : k = b
    · rw [if_pos h, if_pos h]
    · rw [if_neg h, if_neg h, gMoved_append blk a k r (t + blk b), gWords, Int.add_assoc]
theorem gMoved_none {blk : Int → Int} {k : Int} : ∀ {l : List Int} {t : Int}, k ∉ l → gMoved blk t l k = none
  | [], t, _ => rfl
  | b :: r, t, h => by
    rw [gMoved, if_neg (fun e => h (by simp [e])), gMoved_none (fun e => h (by simp [e]))]
theorem gMoved_some {blk : Int → Int} {k v : Int} : ∀ {l : List Int} {t : Int}, gMoved blk t l k = some v → ∃ pre post, l = pre ++ k :: post ∧ v = t + gWords blk pre
  | [], t, h => by simp [gMoved] at h
  | b :: r, t, h => by
    rw [gMoved] at h
    by_cases e : k = b
    · rw [if_pos e] at h
      injection h with h
      exact ⟨[], r, by simp [e], by simp [gWords, h]⟩
    · rw [if_neg e] at h
      obtain ⟨pre, post, rfl, rfl⟩ := gMoved_some h
      exact ⟨b :: pre, post, rfl, by simp only [gWords]; omega⟩
theorem gMoved_mid {blk : Int → Int} {k : Int} {post : List Int} : ∀ {pre : List Int} {t : Int}, k ∉ pre → gMoved blk t (pre ++ k :: post) k = some (t + gWords blk pre)
  | [], t, _ => by simp [gMoved, gWords]
  | b :: r, t, h => by
    rw [List.cons_append, gMoved, if_neg (fun e => h (by simp [e])), gMoved_mid (fun e => h (by simp [e])), gWords]
    congr 1; omega
theorem gLay_append (m : List Int) (blk : Int → Int) (chg : Int → Int) (a : Int) : ∀ (l : List Int) (t : Int) (O : List Int), gLay m blk chg t (l ++ [a]) O = splice (gLay m blk chg t l O) (t + gWords blk l).toNat (gCells m blk chg a)
  | [], t, O => by simp [gLay, gWords]
  | b :: r, t, O => by
    rw [List.cons_append, gLay, gLay, gLay_append m blk chg a r, gWords, Int.add_assoc]
theorem gWords_nonneg {blk : Int → Int} : ∀ {l : List Int}, (∀ a, a ∈ l → 0 ≤ blk a) → 0 ≤ gWords blk l
  | [], _ => by simp [gWords]
  | a :: r, h => by
    have h1 := h a (by simp)
    have h2 := gWords_nonneg (l := r) (fun b hb => h b (by simp [hb]))
    simp only [gWords]; omega
theorem GInv.nodup {F T : Int} {blk : Int → Int} {l : List Int} (h : GInv F T blk l) : l.Nodup := by
  have hm := h.mem
  have ha := h.apart
  rw [List.Nodup]
  refine List.Pairwise.imp_of_mem ?_ ha
  intro a b h1 h2 h3 e
  have := hm a h1
  subst e
  omega
theorem GInv.nonneg {F T : Int} {blk : Int → Int} {l : List Int} (h : GInv F T blk l) : ∀ a, a ∈ l → 0 ≤ blk a := fun a ha => by have := h.mem a ha; omega
theorem gKids_len {m : List Int} {F T : Int} {blk : Int → Int} {l : List Int} (h : GInv F T blk l) (hF : 0 ≤ F) (hT : T ≤ m.length) {a : Int} (ha : a ∈ l) : ((gKids m blk a).length : Int) = blk a - 1 := by
  have := h.mem a ha
  unfold gKids
  simp
  omega
theorem gCells_len {m : List Int} {F T : Int} {blk : Int → Int} {chg : Int → Int} {l : List Int} (h : GInv F T blk l) (hF : 0 ≤ F) (hT : T ≤ m.length) {a : Int} (ha : a ∈ l) : ((gCells m blk chg a).length : Int) = blk a := by
  have := gKids_len h hF hT ha
  simp only [gCells, List.length_cons, List.length_map]
  omega
theorem gLay_len {m : List Int} {F T : Int} {blk : Int → Int} {chg : Int → Int} (hF : 0 ≤ F) (hT : T ≤ m.length) : ∀ {l : List Int} {t : Int} {O : List Int}, GInv F T blk l → 0 ≤ t → t + gWords blk l ≤ O.length → (gLay m blk chg t l O).length = O.length
  | [], t, O, _, _, _ => rfl
  | a :: r, t, O, h, h0, h1 => by
    have hc := gCells_len (m := m) (chg := chg) h hF hT (a := a) (by simp)
    have hi : GInv F T blk r := ⟨fun b hb => h.mem b (by simp [hb]), (List.pairwise_cons.1 h.apart).2⟩
    have hn := gWords_nonneg hi.nonneg
    have ha := h.mem a (by simp)
    simp only [gWords] at h1
    have hl : (splice O t.toNat (gCells m blk chg a)).length = O.length := length_splice _ _ _ (by omega)
    rw [gLay, gLay_len hF hT hi (by omega) (by rw [hl]; omega), hl]
theorem splice_set {α : Type} (O X : List α) (off j : Nat) (v : α) (hj : j < X.length) (hO : off ≤ O.length) : (splice O off X).set (off + j) v = splice O off (X.set j v) := by
  unfold splice
  rw [List.set_append_right _ _ (by simp; omega), List.length_take, Nat.min_eq_left hO, Nat.add_sub_cancel_left, List.set_append_left _ _ hj, List.length_set]
theorem splice_map {α β : Type} (f : α → β) (O X : List α) (off : Nat) : (splice O off X).map f = splice (O.map f) off (X.map f) := by
  simp [splice]
theorem splice_whole {α : Type} (O X : List α) (h : O.length = X.length) : splice O 0 X = X := by
  unfold splice
  rw [List.drop_eq_nil_of_le (by omega)]
  simp
def gRoomN (len F T there : Int) : Int := if len - there < T - F then len - there else T - F
/-- a block's cells, j of its words changed -/
def gPart (m : List Int) (blk : Int → Int) (chg : Int → Int) (a : Int) (j : Nat) : List Int := rd m a :: (((gKids m blk a).take j).map chg ++ (gKids m blk a).drop j)
theorem gPart_len (m : List Int) (blk chg : Int → Int) (a : Int) (j : Nat) : (gPart m blk chg a j).length = (gKids m blk a).length + 1 := by
  simp only [gPart, List.length_cons, List.length_append, List.length_map, List.length_take, List.length_drop]
  omega
theorem gPart_zero {m : List Int} {blk chg : Int → Int} {a : Int} (h0 : 0 ≤ a) (h1 : a < m.length) (h2 : 1 ≤ blk a) : (m.take (a + blk a).toNat).drop a.toNat = gPart m blk chg a 0 := by
  have hl : a.toNat < (m.take (a + blk a).toNat).length := by simp; omega
  rw [List.drop_eq_getElem_cons hl]
  unfold gPart gKids
  simp only [List.take_zero, List.map_nil, List.nil_append, List.drop_zero]
  rw [show (a + 1).toNat = a.toNat + 1 by omega]
  congr 1
  unfold rd
  rw [List.getElem_take, List.getD_eq_getElem?_getD, List.getElem?_eq_getElem (by omega)]
  rfl
theorem gPart_full (m : List Int) (blk chg : Int → Int) (a : Int) : gPart m blk chg a (gKids m blk a).length = gCells m blk chg a := by
  unfold gPart gCells
  rw [List.take_length, List.drop_length, List.append_nil]
theorem gPart_set {m : List Int} {blk chg : Int → Int} {a : Int} {j : Nat} (hj : j < (gKids m blk a).length) : (gPart m blk chg a j).set (j + 1) (chg ((gKids m blk a)[j])) = gPart m blk chg a (j + 1) := by
  unfold gPart
  rw [List.set_cons_succ]
  congr 1
  rw [List.set_append_right _ _ (by simp; omega)]
  simp only [List.length_map, List.length_take]
  rw [show j - min j (gKids m blk a).length = 0 by omega, List.drop_eq_getElem_cons hj, List.set_cons_zero, List.take_succ_eq_append_getElem hj, List.map_append, List.append_assoc]
  rfl
theorem gKids_at {m : List Int} {blk : Int → Int} {a : Int} {j : Nat} (h0 : 0 ≤ a) (h1 : a + blk a ≤ m.length) (hj : j < (gKids m blk a).length) : (gKids m blk a)[j] = rd m (a + (j + 1)) := by
  have hj2 := hj
  unfold gKids at hj
  simp at hj
  unfold gKids rd
  rw [List.getElem_drop, List.getElem_take, List.getD_eq_getElem?_getD, List.getElem?_eq_getElem (by omega)]
  simp only [Option.getD_some]
  congr 1
  omega
end Go.Proofs.Ytnkbfbhhioemoaa.Q
