/- gc: what the collector does, as plain lists. -/
import Derived.Test.YtnkbfbhhioemoaaQx0
namespace Go.Proofs.Ytnkbfbhhioemoaa.Q
open Go.RowKit Go.Proofs.YtnkbfbhhioemoaaW.PrintWords Go.Proofs.YtnkbfbhhioemoaaW.PrintLast Go.Proofs.YtnkbfbhhioemoaaW.PrintMore
attribute [local go_sem] max2_int min2_int max_two min_two max_three min_three max_four min_four   -- for this text's walks alone
set_option linter.unusedVariables false
set_option linter.unusedSimpArgs false

/-- a word leads into the half -/
def gLeads (F T w : Int) : Bool := decide (w % 2 = 0) && (decide (4 * F ≤ w) && decide (w < 4 * T))
/-- the blocks' words together -/
def gWords (blk : Int → Int) : List Int → Int
  | [] => 0
  | a :: r => blk a + gWords blk r
/-- the block that has a word -/
def gHit (blk : Int → Int) (l : List Int) (i : Int) : Option Int := l.find? (fun b => decide (b ≤ i) && decide (i < b + blk b))
/-- has a block of n words at a place a word in common with others? -/
def gOver (blk : Int → Int) (l : List Int) (a : Int) : Bool := l.any (fun b => decide (b < a + blk a) && decide (a < b + blk b))
def gMeet (F T : Int) (blk : Int → Int) (l : List Int) (w : Int) : Option (List Int) :=
  if gLeads F T w = false then some l else if w % 4 ≠ 0 then none else if w / 4 ∈ l then some l else if blk (w / 4) = 0 then none else if gOver blk l (w / 4) = true then none else some (l ++ [w / 4])
def gFold (F T : Int) (blk : Int → Int) : List Int → List Int → Option (List Int)
  | l, [] => some l
  | l, w :: r => (gMeet F T blk l w).bind fun l' => gFold F T blk l' r
/-- the words of a block but the first -/
def gKids (m : List Int) (blk : Int → Int) (a : Int) : List Int := (m.take (a + blk a).toNat).drop (a + 1).toNat
def gLoop (m : List Int) (F T : Int) (blk : Int → Int) : Nat → Nat → List Int → Option (Option (List Int))
  | 0, _, _ => none
  | k + 1, i, l => if h : i < l.length then (match gFold F T blk l (gKids m blk l[i]) with | none => some none | some l' => gLoop m F T blk k (i + 1) l') else some (some l)
/-- a block at a place: none, or in the half's end -/
def BlkOk (F T : Int) (blk : Int → Int) : Prop := ∀ a, F ≤ a → a < T → blk a = 0 ∨ (2 ≤ blk a ∧ a + blk a ≤ T)
/-- the blocks that are met: in the half, apart -/
structure GInv (F T : Int) (blk : Int → Int) (l : List Int) : Prop where
  mem : ∀ a, a ∈ l → F ≤ a ∧ 2 ≤ blk a ∧ a + blk a ≤ T
  apart : l.Pairwise (fun a b => a + blk a ≤ b ∨ b + blk b ≤ a)
theorem gWords_append (blk : Int → Int) (l r : List Int) : gWords blk (l ++ r) = gWords blk l + gWords blk r := by
  induction l with
  | nil => simp [gWords]
  | cons a l ih => simp only [List.cons_append, gWords, ih]; omega
theorem GInv.nil (F T : Int) (blk : Int → Int) : GInv F T blk [] := ⟨fun _ h => by simp at h, .nil⟩
theorem gOver_false {blk : Int → Int} {l : List Int} {a : Int} (h : gOver blk l a = false) : ∀ b ∈ l, a + blk a ≤ b ∨ b + blk b ≤ a := by
  intro b hb
  unfold gOver at h
  rw [List.any_eq_false] at h
  have := h b hb
  simp only [Bool.and_eq_true, decide_eq_true_eq] at this
  omega
theorem gLeads_true {F T w : Int} (h : gLeads F T w = true) : w % 2 = 0 ∧ 4 * F ≤ w ∧ w < 4 * T := by
  unfold gLeads at h
  simpa using h
theorem gMeet_inv {F T : Int} {blk : Int → Int} (hb : BlkOk F T blk) {l l' : List Int} {w : Int} (hi : GInv F T blk l) (h : gMeet F T blk l w = some l') : GInv F T blk l' := by
  unfold gMeet at h
  split at h
  · injection h with h; subst h; exact hi
  rename_i hl
  have hl2 := gLeads_true (by simpa using hl)
  split at h
  · cases h
  rename_i h4
  split at h
  · injection h with h; subst h; exact hi
  split at h
  · cases h
  rename_i h0
  split at h
  · cases h
  rename_i ho
  injection h with h
  subst h
  have ho2 := gOver_false (by simpa using ho)
  have hk := hb (w / 4) (by omega) (by omega)
  refine ⟨?_, ?_⟩
  · intro a ha
    rcases List.mem_append.1 ha with ha | ha
    · exact hi.mem a ha
    · obtain rfl := List.mem_singleton.1 ha
      exact ⟨by omega, by omega, by omega⟩
  · rw [List.pairwise_append]
    refine ⟨hi.apart, by simp, ?_⟩
    intro a ha b hb'
    obtain rfl := List.mem_singleton.1 hb'
    exact (ho2 a ha).symm
theorem gFold_inv {F T : Int} {blk : Int → Int} (hb : BlkOk F T blk) : ∀ (r l l' : List Int), GInv F T blk l → gFold F T blk l r = some l' → GInv F T blk l'
  | [], l, l', hi, h => by
    rw [gFold] at h
    injection h with h; subst h; exact hi
  | w :: r, l, l', hi, h => by
    rw [gFold] at h
    obtain ⟨l1, h1, h2⟩ := Option.bind_eq_some_iff.1 h
    exact gFold_inv hb r l1 l' (gMeet_inv hb hi h1) h2
/-- blocks that are apart in [F, T) have at most T - F words -/
theorem words_le (blk : Int → Int) : ∀ (n : Nat) (F T : Int) (l : List Int), l.length ≤ n → F ≤ T → (∀ a, a ∈ l → F ≤ a ∧ 0 ≤ blk a ∧ a + blk a ≤ T) → l.Pairwise (fun a b => a + blk a ≤ b ∨ b + blk b ≤ a) → gWords blk l ≤ T - F := by
  intro n
  induction n with
  | zero =>
    intro F T l hn hFT hm hp
    obtain rfl := List.length_eq_zero_iff.1 (Nat.le_zero.1 hn)
    simp [gWords]; omega
  | succ n ih =>
    intro F T l hn hFT hm hp
    cases l with
    | nil => simp [gWords]; omega
    | cons a r =>
      rw [List.pairwise_cons] at hp
      have ha := hm a (by simp)
      have hr : r.length ≤ n := by simpa using hn
      have key : gWords blk (r.filter (fun b => decide (b + blk b ≤ a))) + gWords blk (r.filter (fun b => !decide (b + blk b ≤ a))) = gWords blk r := by
        have : ∀ q : List Int, gWords blk (q.filter (fun b => decide (b + blk b ≤ a))) + gWords blk (q.filter (fun b => !decide (b + blk b ≤ a))) = gWords blk q := by
          intro q
          induction q with
          | nil => simp [gWords]
          | cons b q ih =>
            by_cases hb : b + blk b ≤ a
            · simp only [List.filter_cons, hb, decide_true, if_true, Bool.not_true, gWords, Bool.false_eq_true, if_false]; omega
            · simp only [List.filter_cons, hb, decide_false, if_true, Bool.not_false, gWords, Bool.false_eq_true, if_false]; omega
        exact this r
      have l1 := List.length_filter_le (fun b => decide (b + blk b ≤ a)) r
      have l2 := List.length_filter_le (fun b => !decide (b + blk b ≤ a)) r
      have e1 := ih F a (r.filter (fun b => decide (b + blk b ≤ a))) (by omega) ha.1 (fun b hb => by
        have hb2 := List.mem_filter.1 hb
        have := hm b (by simp [hb2.1])
        have h3 : b + blk b ≤ a := by simpa using hb2.2
        exact ⟨this.1, this.2.1, h3⟩) (hp.2.sublist List.filter_sublist)
      have e2 := ih (a + blk a) T (r.filter (fun b => !decide (b + blk b ≤ a))) (by omega) ha.2.2 (fun b hb => by
        have hb2 := List.mem_filter.1 hb
        have := hm b (by simp [hb2.1])
        have h3 : ¬ b + blk b ≤ a := by simpa using hb2.2
        have h4 := hp.1 b hb2.1
        exact ⟨by omega, this.2.1, this.2.2⟩) (hp.2.sublist List.filter_sublist)
      simp only [gWords]
      omega
theorem GInv.words {F T : Int} {blk : Int → Int} {l : List Int} (h : GInv F T blk l) (hFT : F ≤ T) : gWords blk l ≤ T - F :=
  words_le blk l.length F T l (Nat.le_refl _) hFT (fun a ha => by have := h.mem a ha; omega) h.apart
theorem GInv.words_len {F T : Int} {blk : Int → Int} {l : List Int} (h : GInv F T blk l) : 2 * (l.length : Int) ≤ gWords blk l := by
  have hm := h.mem
  clear h
  induction l with
  | nil => simp [gWords]
  | cons a r ih =>
    have h1 := hm a (by simp)
    have h2 := ih (fun b hb => hm b (by simp [hb]))
    simp only [gWords, List.length_cons]
    omega
/-- all that is reached; none: a word leads to where no block may be -/
def gReach (m : List Int) (F T : Int) (blk : Int → Int) (roots : List Int) : Option (List Int) := (gFold F T blk [] roots).bind fun l => (gLoop m F T blk (m.length + 1) 0 l).getD none
theorem gMeet_len {F T : Int} {blk : Int → Int} {l l' : List Int} {w : Int} (h : gMeet F T blk l w = some l') : ∃ r, l' = l ++ r := by
  unfold gMeet at h
  repeat' split at h
  all_goals first | (injection h with h; subst h; first | exact ⟨_, rfl⟩ | exact ⟨[], by simp⟩) | cases h
theorem gFold_len {F T : Int} {blk : Int → Int} : ∀ (r l l' : List Int), gFold F T blk l r = some l' → ∃ q, l' = l ++ q
  | [], l, l', h => by
    rw [gFold] at h
    injection h with h; subst h; exact ⟨[], by simp⟩
  | w :: r, l, l', h => by
    rw [gFold] at h
    obtain ⟨l1, h1, h2⟩ := Option.bind_eq_some_iff.1 h
    obtain ⟨q1, rfl⟩ := gMeet_len h1
    obtain ⟨q2, rfl⟩ := gFold_len r _ l' h2
    exact ⟨q1 ++ q2, by simp⟩
theorem GInv.len {F T : Int} {blk : Int → Int} {l : List Int} (h : GInv F T blk l) (hFT : F ≤ T) : 2 * (l.length : Int) ≤ T - F := by
  have := h.words hFT
  have := h.words_len
  omega
theorem gLoop_ends {m : List Int} {F T : Int} {blk : Int → Int} (hb : BlkOk F T blk) (hFT : F ≤ T) : ∀ (k i : Nat) (l : List Int), GInv F T blk l → i ≤ l.length → T - F < k + i → ∃ r, gLoop m F T blk k i l = some r
  | 0, i, l, hi, hl, hk => by have := hi.len hFT; omega
  | k + 1, i, l, hi, hl, hk => by
    rw [gLoop]
    by_cases h : i < l.length
    · rw [dif_pos h]
      cases e : gFold F T blk l (gKids m blk l[i]) with
      | none => exact ⟨_, rfl⟩
      | some l' =>
        have hi' := gFold_inv hb _ _ _ hi e
        obtain ⟨q, rfl⟩ := gFold_len _ _ _ e
        exact gLoop_ends hb hFT k (i + 1) _ hi' (by simp; omega) (by omega)
    · rw [dif_neg h]; exact ⟨_, rfl⟩
theorem gLoop_inv {m : List Int} {F T : Int} {blk : Int → Int} (hb : BlkOk F T blk) : ∀ (k i : Nat) (l l' : List Int), GInv F T blk l → gLoop m F T blk k i l = some (some l') → GInv F T blk l'
  | 0, i, l, l', hi, h => by simp [gLoop] at h
  | k + 1, i, l, l', hi, h => by
    rw [gLoop] at h
    by_cases hl : i < l.length
    · rw [dif_pos hl] at h
      cases e : gFold F T blk l (gKids m blk l[i]) with
      | none => rw [e] at h; simp at h
      | some l1 =>
        rw [e] at h
        exact gLoop_inv hb k (i + 1) l1 l' (gFold_inv hb _ _ _ hi e) h
    · rw [dif_neg hl] at h
      injection h with h; injection h with h; subst h; exact hi
theorem gReach_inv {m : List Int} {F T : Int} {blk : Int → Int} (hb : BlkOk F T blk) (hFT : F ≤ T) (hF : 0 ≤ F) (hT : T ≤ m.length) {roots l : List Int} (h : gReach m F T blk roots = some l) : GInv F T blk l := by
  unfold gReach at h
  obtain ⟨l1, h1, h2⟩ := Option.bind_eq_some_iff.1 h
  have hi := gFold_inv hb _ _ _ (GInv.nil F T blk) h1
  obtain ⟨r, hr⟩ := gLoop_ends (m := m) hb hFT (m.length + 1) 0 l1 hi (by omega) (by omega)
  rw [hr] at h2
  have h2' : r = some l := h2
  subst h2'
  exact gLoop_inv hb _ _ _ _ hi hr
end Go.Proofs.Ytnkbfbhhioemoaa.Q
