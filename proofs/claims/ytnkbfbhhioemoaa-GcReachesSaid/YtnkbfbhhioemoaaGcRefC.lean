/- gc: the reference's Collect is the collector's. -/
import Derived.Test.YtnkbfbhhioemoaaQx0
import Derived.Test.YtnkbfbhhioemoaaQx5
import Derived.Test.YtnkbfbhhioemoaaQx6
import Derived.Test.YtnkbfbhhioemoaaGcBlk
import Derived.Test.YtnkbfbhhioemoaaGcModel
import Derived.Test.YtnkbfbhhioemoaaGcMove
import Derived.Test.YtnkbfbhhioemoaaGcRef
import Derived.Test.YtnkbfbhhioemoaaHeapPlain
import Derived.Test.YtnkbfbhhioemoaaHgcChange
--@needs XGcRef
--@needs XHgcCollect
namespace Go.Proofs.Ytnkbfbhhioemoaa.Q
open Go.RowKit Go.Proofs.YtnkbfbhhioemoaaW.PrintWords Go.Proofs.YtnkbfbhhioemoaaW.PrintLast Go.Proofs.YtnkbfbhhioemoaaW.PrintMore
attribute [local go_sem] max2_int min2_int max_two min_two max_three min_three max_four min_four   -- for this text's walks alone
set_option linter.unusedVariables false
set_option linter.unusedSimpArgs false

def gFresh (blk : Int → Int) : Int → List Int → List Int
  | _, [] => []
  | t, a :: r => t :: gFresh blk (t + blk a) r
theorem gFresh_len (blk : Int → Int) : ∀ (l : List Int) (t : Int), (gFresh blk t l).length = l.length
  | [], _ => rfl
  | a :: r, t => by simp [gFresh, gFresh_len blk r]
theorem gFresh_append (blk : Int → Int) (a : Int) : ∀ (l : List Int) (t : Int), gFresh blk t (l ++ [a]) = gFresh blk t l ++ [t + gWords blk l]
  | [], t => by simp [gFresh, gWords]
  | b :: r, t => by
    rw [List.cons_append, gFresh, gFresh, gFresh_append blk a r, gWords, Int.add_assoc]; rfl
theorem gFresh_get (blk : Int → Int) : ∀ (l : List Int) (t : Int) (i : Nat), i < l.length → (gFresh blk t l).getD i 0 = t + gWords blk (l.take i)
  | [], _, i, h => by simp at h
  | b :: r, t, 0, _ => by simp [gFresh, gWords]
  | b :: r, t, i + 1, h => by
    have := gFresh_get blk r (t + blk b) i (by simpa using h)
    simp only [gFresh, List.getD_cons_succ, List.take_succ_cons, gWords]
    rw [this]; omega
theorem gSeen_moved (blk : Int → Int) {a : Int} : ∀ {l : List Int} {t : Int} {i : Nat}, a ∈ l → ∃ j : Nat, gSeen l a i = ((i + j : Nat) : Int) ∧ j < l.length ∧ gMoved blk t l a = some (t + gWords blk (l.take j))
  | [], _, _, h => by simp at h
  | b :: r, t, i, h => by
    rw [gSeen, gMoved]
    by_cases e : b = a
    · rw [if_pos e, if_pos e.symm]
      exact ⟨0, by simp, by simp, by simp [gWords]⟩
    · rw [if_neg e, if_neg (fun h => e h.symm)]
      obtain ⟨j, h1, h2, h3⟩ := gSeen_moved blk (l := r) (t := t + blk b) (i := i + 1) (by rcases List.mem_cons.1 h with h | h; exact absurd h.symm e; exact h)
      refine ⟨j + 1, ?_, by simp; omega, ?_⟩
      · rw [show ((i : Int) + 1) = ((i + 1 : Nat) : Int) by omega, h1]; congr 1; omega
      · rw [h3, List.take_succ_cons, gWords, Int.add_assoc]
theorem splice_one {α : Type} (O : List α) (p : Nat) (v : α) (h : p < O.length) : O.set p v = splice O p [v] := by
  unfold splice
  rw [List.set_eq_take_append_cons_drop, if_pos h]
  rfl
theorem splice_snoc {α : Type} (O X : List α) (p : Nat) (v : α) (h : p + X.length < O.length) : (splice O p X).set (p + X.length) v = splice O p (X ++ [v]) := by
  unfold splice
  rw [List.set_append_right _ _ (by simp; omega), List.length_take, Nat.min_eq_left (by omega), Nat.add_sub_cancel_left, List.set_append_right _ _ (Nat.le_refl _), Nat.sub_self, List.drop_eq_getElem_cons h, List.set_cons_zero, List.length_append, List.append_assoc]
  rfl
set_option maxHeartbeats 1000000 in
theorem ref_l2 {m l roots O fr K : List Int} {F T at_ a B : Int} {chg : Int → Int} {i p : Nat} {r : List Int × List Int × Int × Int} (hlen : m.length ≤ 1000000) (hil : i < l.length) (hll : l.length ≤ 1000000) (hfl : fr.length = l.length) (hrd : rd l i = a) (hrf : rd fr i = (p : Int)) (hO : O.length = m.length) (ha0 : 0 ≤ a) (haB : a + B ≤ m.length) (hpB : (p : Int) + B ≤ m.length) (hK : (K.length : Int) = B - 1)
    (hkr : ∀ (j : Nat) (h : j < K.length), K[j] = rd m (a + ((j : Int) + 1))) (hmv : ∀ x ∈ K, Ev (fun k => camletref42_moved.f k x F T l fr) (chg x))
    (h : Ev (fun k => camletref42_Collect.l1 k m F T roots l fr at_ (splice O p (rd m a :: K.map chg)) ((i + 1 : Nat) : Int)) r) (d : Nat) : ∀ j : Nat, j + d = K.length →
    Ev (fun k => camletref42_Collect.l2 k m F T roots l fr at_ (splice O p (rd m a :: (K.take j).map chg)) (i : Int) B ((j : Int) + 1)) r := by
  induction d with
  | zero =>
    intro j hd
    refine Ev.step (fun k => by rw [camletref42_Collect.l2, if_neg (by omega), wr64 (n := (i : Int) + 1) (by omega)]) ?_
    have hjk : K.take j = K := List.take_of_length_le (by omega)
    rw [hjk]
    exact h
  | succ d ih =>
    intro j hd
    have hjl : j < K.length := by omega
    have hw1 : wrap64 (a + ((j : Int) + 1)) = a + ((j : Int) + 1) := wr64 (by omega)
    have hw2 : wrap64 ((p : Int) + ((j : Int) + 1)) = ((p + (j + 1) : Nat) : Int) := (wr64 (by omega)).trans (by omega)
    have hk := hkr j hjl
    have hkm : rd m (a + ((j : Int) + 1)) ∈ K := by rw [← hk]; exact List.getElem_mem _
    have hXl0 : (rd m a :: (K.take j).map chg).length = j + 1 := by
      rw [List.length_cons, List.length_map, List.length_take, Nat.min_eq_left (Nat.le_of_lt hjl)]
    have e4 : (rd m a :: (K.take j).map chg) ++ [chg (rd m (a + ((j : Int) + 1)))] = rd m a :: (K.take (j + 1)).map chg := by
      rw [List.take_succ_eq_append_getElem hjl, List.map_append, hk]; rfl
    have hq := ih (j + 1) (by omega)
    rw [← e4] at hq
    have hmk := hmv _ hkm
    clear ih e4 hk hkm hmv hkr
    generalize rd m a :: (K.take j).map chg = X at hXl0 hq ⊢
    generalize chg (rd m (a + ((j : Int) + 1))) = c at hq hmk ⊢
    have hsl : (splice O p X).length = m.length := by
      rw [length_splice _ _ _ (by clear hq hmk h hw1 hw2 hrd hrf; rw [hXl0, hO]; clear hXl0 hO hfl; omega), hO]
    have q1 : (j : Int) + 1 < B := by clear hq hmk h hw1 hw2 hrd hrf hXl0 hO hsl hfl; omega
    have q2 : (0 : Int) ≤ (i : Int) := Int.natCast_nonneg i
    have q3 : (i : Int) < (fr.length : Int) := by rw [hfl]; clear hq hmk h hw1 hw2 hrd hrf hXl0 hO hsl hfl; omega
    have q4 : (i : Int) < (l.length : Int) := by clear hq hmk h hw1 hw2 hrd hrf hXl0 hO hsl hfl; omega
    have q5 : (0 : Int) ≤ a + ((j : Int) + 1) := by clear hq hmk h hw1 hw2 hrd hrf hXl0 hO hsl hfl; omega
    have q6 : a + ((j : Int) + 1) < (m.length : Int) := by clear hq hmk h hw1 hw2 hrd hrf hXl0 hO hsl hfl; omega
    refine Ev.step (fun k => by rw [camletref42_Collect.l2, if_pos q1, if_pos q2, if_pos q3, if_pos q4, hrd, hrf, hw1, if_pos q5, if_pos q6, hw2]) ?_
    refine Ev.bind hmk ?_
    have q7 : (0 : Int) ≤ ((p + (j + 1) : Nat) : Int) := Int.natCast_nonneg _
    have q8 : ((p + (j + 1) : Nat) : Int) < ((splice O p X).length : Int) := by rw [hsl]; clear hq hmk h hw1 hw2 hrd hrf hXl0 hO hsl hfl; omega
    refine Ev.pos q7 (Ev.pos q8 ?_)
    have e3 := splice_snoc O X p c (by rw [hXl0, hO]; clear hq hmk h hw1 hw2 hrd hrf hXl0 hO hsl hfl; omega)
    rw [hXl0] at e3
    rw [Int.toNat_natCast, e3, wr64 (n := (j : Int) + 1 + 1) (by omega)]
    exact hq
section
variable {m : List Int} {F T : Int} (hv : ∀ x ∈ m, 0 ≤ x ∧ x < 4294967296) (hlen : m.length ≤ 1000000) (hF : 0 ≤ F) (hFT : F ≤ T) (hT : T ≤ m.length)
include hv hlen hF hFT hT
/-- a word that leads to what is reached, or nowhere -/
theorem ref_moved {l : List Int} {t x : Int} (hi : GInv F T (gBlk m T) l) (h0 : 0 ≤ t) (h1 : t + gWords (gBlk m T) l ≤ m.length) (hx0 : 0 ≤ x) (hx1 : x < 4294967296) (hx : gLeads F T x = true → x / 4 ∈ l) :
    Ev (fun k => camletref42_moved.f k x F T l (gFresh (gBlk m T) t l)) (gChange F T (gMoved (gBlk m T) t l) x) := by
  have hll := hi.len hFT
  have _ := hv
  unfold camletref42_moved.f gChange
  refine Ev.val (ref_leads_eq hF hFT (by omega) hx0 hx1) ?_
  cases hl : gLeads F T x with
  | false => exact Ev.neg (by decide) (by rw [if_neg (by decide)]; exact Ev.now _)
  | true =>
    refine Ev.pos rfl ?_
    rw [if_pos rfl, wr64 (n := x) (by omega), Int.tdiv_eq_ediv_of_nonneg hx0, wr64 (n := x / 4) (by omega)]
    refine Ev.bind (ref_seen l _ (by omega)) ?_
    obtain ⟨j, h2, h3, h4⟩ := gSeen_moved (gBlk m T) (t := t) (i := 0) (hx hl)
    have h2' : gSeen l (x / 4) 0 = (j : Int) := by simpa using h2
    rw [h2', h4]
    have n0 := gWords_nonneg (blk := gBlk m T) (l := l.take j) (fun b hb => hi.nonneg b (List.mem_of_mem_take hb))
    have n1 := gWords_nonneg (blk := gBlk m T) (l := l.drop j) (fun b hb => hi.nonneg b (List.mem_of_mem_drop hb))
    have e2 := gWords_append (gBlk m T) (l.take j) (l.drop j)
    rw [List.take_append_drop] at e2
    have hr : rd (gFresh (gBlk m T) t l) (j : Int) = t + gWords (gBlk m T) (l.take j) := by
      unfold rd; rw [Int.toNat_natCast]; exact gFresh_get _ _ _ _ h3
    rw [hr]
    refine Ev.pos (by omega) (Ev.pos (by rw [gFresh_len]; omega) ?_)
    rw [wr64 (by omega)]
    have : 4 * (t + gWords (gBlk m T) (l.take j)) % 4294967296 = 4 * (t + gWords (gBlk m T) (l.take j)) := by omega
    rw [this]
    exact Ev.now _
theorem ref_l3 {l roots out : List Int} {t at_ : Int} (hi : GInv F T (gBlk m T) l) (h0 : 0 ≤ t) (h1 : t + gWords (gBlk m T) l ≤ m.length) (hrl : roots.length ≤ 1000000) (hrv : ∀ x ∈ roots, 0 ≤ x ∧ x < 4294967296) (hcl : ∀ x ∈ roots, gLeads F T x = true → x / 4 ∈ l) (d : Nat) : ∀ i : Nat, i + d = roots.length →
    Ev (fun k => camletref42_Collect.l3 k F T roots l (gFresh (gBlk m T) t l) at_ out ((roots.take i).map (gChange F T (gMoved (gBlk m T) t l))) (i : Int)) (out, roots.map (gChange F T (gMoved (gBlk m T) t l)), at_, 0) := by
  induction d with
  | zero =>
    intro i hd
    rw [List.take_of_length_le (by omega)]
    exact Ev.some 1 (fun k => by rw [camletref42_Collect.l3, if_neg (by omega)])
  | succ d ih =>
    intro i hd
    have hil : i < roots.length := by omega
    have hrm : rd roots i ∈ roots := by
      have h := rd_cons_drop hil
      exact List.mem_of_mem_drop (h ▸ List.mem_cons_self)
    have hrd : rd roots i = roots[i] := by
      unfold rd
      rw [List.getD_eq_getElem?_getD, Int.toNat_natCast, List.getElem?_eq_getElem hil]; rfl
    refine Ev.step (fun k => by rw [camletref42_Collect.l3, if_pos (by omega), if_pos (by omega)]) ?_
    refine Ev.bind (ref_moved hv hlen hF hFT hT hi h0 h1 (hrv _ hrm).1 (hrv _ hrm).2 (hcl _ hrm)) ?_
    refine Ev.pos (by simp; omega) ?_
    rw [wr64 (n := (i : Int) + 1) (by omega)]
    have e : ((roots.take i).map (gChange F T (gMoved (gBlk m T) t l))) ++ [gChange F T (gMoved (gBlk m T) t l) (rd roots i)] = (roots.take (i + 1)).map (gChange F T (gMoved (gBlk m T) t l)) := by
      rw [List.take_succ_eq_append_getElem hil, List.map_append, hrd]; rfl
    rw [e]
    exact ih (i + 1) (by omega)
set_option maxHeartbeats 2000000 in
theorem ref_l1c {l roots : List Int} {t : Int} (hi : GInv F T (gBlk m T) l) (h0 : 0 ≤ t) (h1 : t + gWords (gBlk m T) l ≤ m.length) (hrl : roots.length ≤ 1000000) (hrv : ∀ x ∈ roots, 0 ≤ x ∧ x < 4294967296) (hcr : ∀ x ∈ roots, gLeads F T x = true → x / 4 ∈ l)
    (hcl : ∀ a ∈ l, ∀ x ∈ gKids m (gBlk m T) a, gLeads F T x = true → x / 4 ∈ l) (d : Nat) : ∀ i : Nat, i + d = l.length →
    Ev (fun k => camletref42_Collect.l1 k m F T roots l (gFresh (gBlk m T) t l) (t + gWords (gBlk m T) l) (gLay m (gBlk m T) (gChange F T (gMoved (gBlk m T) t l)) t (l.take i) m) (i : Int)) (gLay m (gBlk m T) (gChange F T (gMoved (gBlk m T) t l)) t l m, roots.map (gChange F T (gMoved (gBlk m T) t l)), t + gWords (gBlk m T) l, 0) := by
  have hll := hi.len hFT
  induction d with
  | zero =>
    intro i hd
    rw [List.take_of_length_le (by omega)]
    refine Ev.step (fun k => by rw [camletref42_Collect.l1, if_neg (by omega)]) ?_
    have := ref_l3 hv hlen hF hFT hT (out := gLay m (gBlk m T) (gChange F T (gMoved (gBlk m T) t l)) t l m) (at_ := t + gWords (gBlk m T) l) hi h0 h1 hrl hrv hcr roots.length 0 (by omega)
    simpa using this
  | succ d ih =>
    intro i hd
    have hil : i < l.length := by omega
    have hmm := hi.mem l[i] (List.getElem_mem hil)
    have hrd : rd l i = l[i] := by
      unfold rd
      rw [List.getD_eq_getElem?_getD, Int.toNat_natCast, List.getElem?_eq_getElem hil]; rfl
    have n0 := gWords_nonneg (blk := gBlk m T) (l := l.take i) (fun b hb => hi.nonneg b (List.mem_of_mem_take hb))
    have n1 := gWords_nonneg (blk := gBlk m T) (l := l.drop (i + 1)) (fun b hb => hi.nonneg b (List.mem_of_mem_drop hb))
    have e2 := gWords_append (gBlk m T) (l.take (i + 1)) (l.drop (i + 1))
    have e1 : gWords (gBlk m T) (l.take (i + 1)) = gWords (gBlk m T) (l.take i) + gBlk m T l[i] := by
      rw [List.take_succ_eq_append_getElem hil, gWords_append]; simp [gWords]
    rw [List.take_append_drop] at e2
    obtain ⟨p, hp⟩ : ∃ p : Nat, t + gWords (gBlk m T) (l.take i) = p := ⟨(t + gWords (gBlk m T) (l.take i)).toNat, by omega⟩
    have hrf : rd (gFresh (gBlk m T) t l) i = (p : Int) := by
      unfold rd; rw [Int.toNat_natCast, gFresh_get _ _ _ _ hil, hp]
    have hi2 : GInv F T (gBlk m T) (l.take i) := ⟨fun b hb => hi.mem b (List.mem_of_mem_take hb), hi.apart.sublist (List.take_sublist _ _)⟩
    obtain ⟨O, hO⟩ : ∃ O, gLay m (gBlk m T) (gChange F T (gMoved (gBlk m T) t l)) t (l.take i) m = O := ⟨_, rfl⟩
    have hOl : O.length = m.length := by rw [← hO]; exact gLay_len (F := F) (T := T) hF hT hi2 h0 (by omega)
    have hlay : gLay m (gBlk m T) (gChange F T (gMoved (gBlk m T) t l)) t (l.take (i + 1)) m = splice O p (gCells m (gBlk m T) (gChange F T (gMoved (gBlk m T) t l)) l[i]) := by
      rw [List.take_succ_eq_append_getElem hil, gLay_append, hO, hp, Int.toNat_natCast]
    have ih2 := ih (i + 1) (by omega)
    rw [hlay] at ih2
    rw [hO]
    refine Ev.step (fun k => by rw [camletref42_Collect.l1, if_pos (by omega), if_pos (by omega), hrd, hrf]) ?_
    refine Ev.bind (ref_Block hv hlen hF hFT hT (a := l[i]) (by omega) (by omega)) ?_
    refine Ev.pos (by rw [gFresh_len]; omega) (Ev.pos (by omega) (Ev.pos (by omega) (Ev.pos (by omega) (Ev.pos (by omega) ?_))))
    rw [Int.toNat_natCast, splice_one O p _ (by omega)]
    have hkl := gKids_len (m := m) hi hF hT (List.getElem_mem hil)
    have hal := List.getElem_mem hil
    have hl2 := ref_l2 (roots := roots) (at_ := t + gWords (gBlk m T) l) (F := F) (T := T) (O := O) (fr := gFresh (gBlk m T) t l) (K := gKids m (gBlk m T) l[i]) (chg := gChange F T (gMoved (gBlk m T) t l)) (B := gBlk m T l[i]) hlen hil (by omega) (gFresh_len _ _ _) hrd hrf hOl (by omega) (by omega) (by omega) hkl
      (fun j hj => gKids_at (by omega) (by omega) hj)
      (fun x hx => ref_moved hv hlen hF hFT hT hi h0 h1 (hv x (List.mem_of_mem_take (List.mem_of_mem_drop hx))).1 (hv x (List.mem_of_mem_take (List.mem_of_mem_drop hx))).2 (hcl _ hal _ hx)) ih2 (gKids m (gBlk m T) l[i]).length 0 (by omega)
    simpa using hl2
end
end Go.Proofs.Ytnkbfbhhioemoaa.Q
