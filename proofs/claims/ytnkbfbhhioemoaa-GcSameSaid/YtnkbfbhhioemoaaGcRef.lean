/- gc: the reference's Reached, Reach are the collector's. -/
import Derived.Test.YtnkbfbhhioemoaaQx0
import Derived.Test.YtnkbfbhhioemoaaQx3
import Derived.Test.YtnkbfbhhioemoaaQx4
import Derived.Test.YtnkbfbhhioemoaaQx5
import Derived.Test.YtnkbfbhhioemoaaGcBlk
import Derived.Test.YtnkbfbhhioemoaaGcBlkRef
import Derived.Test.YtnkbfbhhioemoaaGcModel
import Derived.Test.YtnkbfbhhioemoaaGcMove
import Derived.Test.YtnkbfbhhioemoaaHeapPlain
--@needs XGcBlkRef
--@needs XGcModel
--@needs XGcMove
namespace Go.Proofs.Ytnkbfbhhioemoaa.Q
open Go.RowKit Go.Proofs.YtnkbfbhhioemoaaW.PrintWords Go.Proofs.YtnkbfbhhioemoaaW.PrintLast Go.Proofs.YtnkbfbhhioemoaaW.PrintMore
attribute [local go_sem] max2_int min2_int max_two min_two max_three min_three max_four min_four   -- for this text's walks alone
set_option linter.unusedVariables false
set_option linter.unusedSimpArgs false

theorem Ev.some {α : Type} {g : Nat → Option α} {r : α} (n : Nat) (h : ∀ k, g (k + n) = some r) : Ev g r := ⟨n, fun k hk => by obtain ⟨j, rfl⟩ : ∃ j, k = j + n := ⟨k - n, by omega⟩; exact h j⟩
theorem Ev.ite {α : Type} {c : Prop} [Decidable c] {f g : Nat → Option α} {r : α} (h1 : c → Ev f r) (h2 : ¬ c → Ev g r) : Ev (fun k => if c then f k else g k) r := by
  by_cases h : c
  · exact Ev.congr (fun k => if_pos h) (h1 h)
  · exact Ev.congr (fun k => if_neg h) (h2 h)
theorem Ev.pos {α : Type} {c : Prop} [Decidable c] {f g : Nat → Option α} {r : α} (h : c) (k : Ev f r) : Ev (fun n => if c then f n else g n) r := Ev.congr (fun _ => if_pos h) k
theorem Ev.neg {α : Type} {c : Prop} [Decidable c] {f g : Nat → Option α} {r : α} (h : ¬ c) (k : Ev g r) : Ev (fun n => if c then f n else g n) r := Ev.congr (fun _ => if_neg h) k
theorem Ev.val {α β : Type} {a : α} {f : Nat → α → Option β} {r : β} {o : Option α} (h : o = Option.some a) (k : Ev (fun n => f n a) r) : Ev (fun n => o.bind (f n)) r := by subst h; exact k
/-- where a number stands first in a list, told from i on; -1: nowhere -/
def gSeen : List Int → Int → Int → Int
  | [], _, _ => -1
  | b :: r, a, i => if b = a then i else gSeen r a (i + 1)
theorem gSeen_some {a : Int} : ∀ {l : List Int} {i : Int}, 0 ≤ i → a ∈ l → i ≤ gSeen l a i ∧ gSeen l a i < i + l.length
  | [], _, _, h => by simp at h
  | b :: r, i, h0, h => by
    rw [gSeen]
    by_cases e : b = a
    · rw [if_pos e]; simp only [List.length_cons]; omega
    · rw [if_neg e]
      have := gSeen_some (l := r) (i := i + 1) (by omega) (by rcases List.mem_cons.1 h with h | h; exact absurd h.symm e; exact h)
      simp only [List.length_cons]; omega
theorem gSeen_none {a : Int} : ∀ {l : List Int} {i : Int}, a ∉ l → gSeen l a i = -1
  | [], _, _ => rfl
  | b :: r, i, h => by rw [gSeen, if_neg (fun e => h (by simp [e])), gSeen_none (fun e => h (by simp [e]))]
theorem ref_leads_eq {F T x : Int} (hF : 0 ≤ F) (hFT : F ≤ T) (hT : T ≤ 1000000) (hx0 : 0 ≤ x) (hx1 : x < 4294967296) : camletref42_leads.f x F T = some (gLeads F T x) := by
  unfold camletref42_leads.f gLeads
  rw [Int.tmod_eq_emod_of_nonneg hx0, wr64 (n := x) (by omega), wr64 (n := 4 * F) (by omega), wr64 (n := 4 * T) (by omega)]
  by_cases h1 : x % 2 = 0
  · by_cases h2 : 4 * F ≤ x
    · simp [h1, h2]
    · have : ¬ x ≥ 4 * F := by omega
      simp [h1, h2]
  · simp [h1]
theorem rd_cons_drop {l : List Int} {i : Nat} (h : i < l.length) : l.drop i = rd l i :: l.drop (i + 1) := by
  unfold rd
  rw [List.drop_eq_getElem_cons h, Int.toNat_natCast, List.getD_eq_getElem?_getD, List.getElem?_eq_getElem h]
  rfl
theorem ref_seen_l0 (l : List Int) (a : Int) (hl : l.length ≤ 1000000) (d : Nat) : ∀ i : Nat, i + d = l.length → Ev (fun k => camletref42_seen.l0 k l a (i : Int)) (gSeen (l.drop i) a i) := by
  induction d with
  | zero =>
    intro i hi
    rw [List.drop_eq_nil_of_le (by omega)]
    refine Ev.some 1 (fun k => ?_)
    rw [camletref42_seen.l0, if_neg (by omega)]
    rfl
  | succ d ih =>
    intro i hi
    rw [rd_cons_drop (by omega), gSeen]
    refine Ev.step (fun k => by rw [camletref42_seen.l0, if_pos (by omega), if_pos (by omega)]) ?_
    refine Ev.ite (fun h => ?_) (fun h => ?_)
    · rw [if_pos h]; exact Ev.now _
    · rw [if_neg h, wr64 (by omega)]
      exact ih (i + 1) (by omega)
theorem ref_seen (l : List Int) (a : Int) (hl : l.length ≤ 1000000) : Ev (fun k => camletref42_seen.f k l a) (gSeen l a 0) := by
  have := ref_seen_l0 l a hl l.length 0 (by omega)
  simpa [camletref42_seen.f] using this
section
variable {m : List Int} {F T : Int} (hv : ∀ x ∈ m, 0 ≤ x ∧ x < 4294967296) (hlen : m.length ≤ 1000000) (hF : 0 ≤ F) (hFT : F ≤ T) (hT : T ≤ m.length)
include hv hlen hF hFT hT
theorem ref_Block {a : Int} (h0 : F ≤ a) (h1 : a < T) : Ev (fun k => camletref42_Block.f k m a T) (gBlk m T a) := Ev.some 1 (fun k => ref_Block_eq hv hlen (by have := hFT; omega) h1 hT k)
theorem ref_common_l0 {l : List Int} {a : Int} (hl : l.length ≤ 1000000) (hm : ∀ b ∈ l, F ≤ b ∧ b < T) (h0 : F ≤ a) (h1 : a < T) (d : Nat) : ∀ i : Nat, i + d = l.length → Ev (fun k => camletref42_common.l0 k m l a T (gBlk m T a) (i : Int)) (gOver (gBlk m T) (l.drop i) a) := by
  have hb := gBlk_ok m F T a h0 h1
  induction d with
  | zero =>
    intro i hi
    rw [List.drop_eq_nil_of_le (by omega)]
    refine Ev.some 1 (fun k => ?_)
    rw [camletref42_common.l0, if_neg (by omega)]
    rfl
  | succ d ih =>
    intro i hi
    have ih2 := ih (i + 1) (by omega)
    have hri : rd l i ∈ l := by
      have h := rd_cons_drop (l := l) (i := i) (by omega)
      exact List.mem_of_mem_drop (h ▸ List.mem_cons_self)
    have hm2 := hm _ hri
    have hb2 := gBlk_ok m F T _ hm2.1 hm2.2
    rw [rd_cons_drop (by omega)]
    refine Ev.step (fun k => by rw [camletref42_common.l0, if_pos (by omega), if_pos (by omega)]) ?_
    refine Ev.bind (ref_Block hv hlen hF hFT hT hm2.1 hm2.2) ?_
    rw [wr64 (n := a + gBlk m T a) (by omega), wr64 (n := rd l i + gBlk m T (rd l i)) (by omega), wr64 (n := (i : Int) + 1) (by omega)]
    refine Ev.ite (fun h2 => Ev.ite (fun h3 => ?_) (fun h3 => ?_)) (fun h2 => ?_)
    · have e : gOver (gBlk m T) (rd l i :: l.drop (i + 1)) a = true := by unfold gOver; simp [h2, h3]
      rw [e]; exact Ev.now _
    · have e : gOver (gBlk m T) (rd l i :: l.drop (i + 1)) a = gOver (gBlk m T) (l.drop (i + 1)) a := by unfold gOver; simp [h3]
      rw [e]; exact ih2
    · have e : gOver (gBlk m T) (rd l i :: l.drop (i + 1)) a = gOver (gBlk m T) (l.drop (i + 1)) a := by unfold gOver; simp [h2]
      rw [e]; exact ih2
theorem ref_common {l : List Int} {a : Int} (hl : l.length ≤ 1000000) (hm : ∀ b ∈ l, F ≤ b ∧ b < T) (h0 : F ≤ a) (h1 : a < T) : Ev (fun k => camletref42_common.f k m l a T) (gOver (gBlk m T) l a) := by
  unfold camletref42_common.f
  refine Ev.bind (ref_Block hv hlen hF hFT hT h0 h1) ?_
  have := ref_common_l0 hv hlen hF hFT hT hl hm h0 h1 l.length 0 (by omega)
  simpa using this
/-- the words of one block (or the roots), met one by one -/
theorem ref_l1 {nx : List Int} (hnl : nx.length ≤ 1000000) (hnv : ∀ x ∈ nx, 0 ≤ x ∧ x < 4294967296) {i : Int} {r : List Int × Bool} (d : Nat) : ∀ (j : Nat) (l : List Int), j + d = nx.length → GInv F T (gBlk m T) l →
    (match gFold F T (gBlk m T) l (nx.drop j) with | none => r = ([], false) | some l' => Ev (fun k => camletref42_Reached.l0 k m F T l' nx (wrap64 (i + 1))) r) → Ev (fun k => camletref42_Reached.l1 k m F T l nx i (j : Int)) r := by
  induction d with
  | zero =>
    intro j l hj hi h
    rw [List.drop_eq_nil_of_le (by omega)] at h
    refine Ev.step (fun k => by rw [camletref42_Reached.l1, if_neg (by omega)]) ?_
    exact h
  | succ d ih =>
    intro j l hj hi h
    have hjl : j < nx.length := by omega
    have hxm : rd nx j ∈ nx := by
      have h := rd_cons_drop hjl
      exact List.mem_of_mem_drop (h ▸ List.mem_cons_self)
    have hx := hnv _ hxm
    rw [rd_cons_drop hjl, gFold] at h
    refine Ev.step (fun k => by rw [camletref42_Reached.l1, if_pos (by omega), if_pos (by omega)]) ?_
    refine Ev.val (ref_leads_eq hF hFT (by omega) hx.1 hx.2) ?_
    have hw1 : wrap64 ((j : Int) + 1) = ((j + 1 : Nat) : Int) := wr64 (by omega)
    have hx1 : wrap64 (rd nx j) = rd nx j := wr64 (by omega)
    have hx2 : Int.tdiv (rd nx j) 4 = rd nx j / 4 := Int.tdiv_eq_ediv_of_nonneg hx.1
    have hx3 : wrap64 (rd nx j / 4) = rd nx j / 4 := wr64 (by omega)
    rw [hw1, hx1, hx2, hx3, Int.tmod_eq_emod_of_nonneg hx.1]
    have hg : gMeet F T (gBlk m T) l (rd nx j) = if gLeads F T (rd nx j) = false then some l else if rd nx j % 4 ≠ 0 then none else if rd nx j / 4 ∈ l then some l else if gBlk m T (rd nx j / 4) = 0 then none else if gOver (gBlk m T) l (rd nx j / 4) = true then none else some (l ++ [rd nx j / 4]) := rfl
    cases hl : gLeads F T (rd nx j) with
    | false =>
      rw [hg, hl, if_pos rfl] at h
      refine Ev.neg (by decide) ?_
      exact ih (j + 1) l (by omega) hi h
    | true =>
      rw [hg, hl, if_neg (by decide)] at h
      have hle := gLeads_true hl
      have hl3 : ∀ b ∈ l, F ≤ b ∧ b < T := fun b hb => by have := hi.mem b hb; omega
      have hll : l.length ≤ 1000000 := by have := hi.len hFT; omega
      refine Ev.pos rfl ?_
      refine Ev.ite (fun h4 => ?_) (fun h4 => ?_)
      · rw [if_neg (by omega)] at h
        refine Ev.bind (ref_Block hv hlen hF hFT hT (a := rd nx j / 4) (by omega) (by omega)) ?_
        by_cases hin : rd nx j / 4 ∈ l
        · rw [if_pos hin] at h
          have hb0 := (hi.mem _ hin).2.1
          have e0 : (gBlk m T (rd nx j / 4) == 0) = false := beq_eq_false_iff_ne.mpr (by omega)
          refine Ev.step (fun k => by rw [e0, camletref42_Reached.j3, if_neg (by decide)]) ?_
          refine Ev.bind (ref_seen l _ hll) ?_
          have hs := (gSeen_some (l := l) (i := 0) (by omega) hin).1
          refine Ev.pos hs ?_
          rw [hw1]
          exact ih (j + 1) l (by omega) hi h
        · rw [if_neg hin] at h
          by_cases hb0 : gBlk m T (rd nx j / 4) = 0
          · rw [if_pos hb0] at h
            have e0 : (gBlk m T (rd nx j / 4) == 0) = true := beq_iff_eq.mpr hb0
            refine Ev.step (f := fun _ => some (([] : List Int), false)) (fun k => by rw [e0, camletref42_Reached.j3, if_pos rfl]) ?_
            rw [show r = ([], false) from h]
            exact Ev.now _
          · rw [if_neg hb0] at h
            have e0 : (gBlk m T (rd nx j / 4) == 0) = false := beq_eq_false_iff_ne.mpr hb0
            refine Ev.step (fun k => by rw [e0, camletref42_Reached.j3, if_neg (by decide)]) ?_
            refine Ev.bind (ref_seen l _ hll) ?_
            rw [gSeen_none hin]
            refine Ev.neg (by decide) ?_
            refine Ev.bind (ref_common hv hlen hF hFT hT hll hl3 (a := rd nx j / 4) (by omega) (by omega)) ?_
            cases ho : gOver (gBlk m T) l (rd nx j / 4) with
            | true =>
              rw [if_pos ho] at h
              refine Ev.pos rfl ?_
              rw [show r = ([], false) from h]
              exact Ev.now _
            | false =>
              rw [if_neg (by rw [ho]; decide)] at h
              refine Ev.neg (by decide) ?_
              refine Ev.pos (by omega) ?_
              rw [hw1]
              refine ih (j + 1) _ (by omega) (gMeet_inv (w := rd nx j) (gBlk_ok m F T) hi ?_) h
              rw [hg, hl, if_neg (by decide), if_neg (by omega), if_neg hin, if_neg hb0, if_neg (by rw [ho]; decide)]
      · rw [if_pos h4] at h
        refine Ev.step (f := fun _ => some (([] : List Int), false)) (fun k => by rw [camletref42_Reached.j3, if_pos rfl]) ?_
        rw [show r = ([], false) from h]
        exact Ev.now _
/-- what comes of a try -/
def gTold : Option (List Int) → List Int × Bool
  | none => ([], false)
  | some l => (l, true)
theorem ref_l0 (K : Nat) : ∀ (i : Nat) (l nx : List Int) (q : Option (List Int)), GInv F T (gBlk m T) l → gLoop m F T (gBlk m T) K i l = some q → Ev (fun k => camletref42_Reached.l0 k m F T l nx (i : Int)) (gTold q) := by
  induction K with
  | zero => intro i l nx q _ h; simp [gLoop] at h
  | succ K ih =>
    intro i l nx q hi h
    rw [gLoop] at h
    have hll := hi.len hFT
    by_cases hil : i < l.length
    · rw [dif_pos hil] at h
      have hrd : rd l i = l[i] := by
        unfold rd
        rw [List.getD_eq_getElem?_getD, Int.toNat_natCast, List.getElem?_eq_getElem hil]; rfl
      have hmm := hi.mem l[i] (List.getElem_mem hil)
      have hw1 : wrap64 ((i : Int) + 1) = ((i + 1 : Nat) : Int) := wr64 (by omega)
      refine Ev.step (fun k => by rw [camletref42_Reached.l0, if_pos (by omega), if_pos (by omega), if_pos (by omega), hrd]) ?_
      refine Ev.bind (ref_Block hv hlen hF hFT hT (a := l[i]) (by omega) (by omega)) ?_
      rw [wr64 (n := l[i] + 1) (by omega), wr64 (n := l[i] + gBlk m T l[i]) (by omega)]
      refine Ev.pos (by omega) (Ev.pos (by omega) (Ev.pos (by omega) ?_))
      refine Ev.step (f := fun k => camletref42_Reached.l1 k m F T l (gKids m (gBlk m T) l[i]) (i : Int) ((0 : Nat) : Int)) (fun k => by rw [camletref42_Reached.j1]; rfl) ?_
      refine ref_l1 hv hlen hF hFT hT (nx := gKids m (gBlk m T) l[i]) ?_ ?_ (gKids m (gBlk m T) l[i]).length 0 l (by omega) hi ?_
      · unfold gKids; simp; omega
      · intro x hx; exact hv x (List.mem_of_mem_take (List.mem_of_mem_drop hx))
      · rw [List.drop_zero]
        cases e : gFold F T (gBlk m T) l (gKids m (gBlk m T) l[i]) with
        | none => rw [e] at h; injection h with h; subst h; rfl
        | some l' =>
          rw [e] at h
          rw [hw1]
          exact ih (i + 1) l' _ q (gFold_inv (gBlk_ok m F T) _ _ _ hi e) h
    · rw [dif_neg hil] at h
      injection h with h
      subst h
      refine Ev.step (f := fun _ => some (l, true)) (fun k => by rw [camletref42_Reached.l0, if_neg (by omega)]) (Ev.now _)
theorem ref_Reached {roots : List Int} (hrl : roots.length ≤ 1000000) (hrv : ∀ x ∈ roots, 0 ≤ x ∧ x < 4294967296) : Ev (fun k => camletref42_Reached.f k m F T roots) (gTold (gReach m F T (gBlk m T) roots)) := by
  unfold camletref42_Reached.f
  refine Ev.step (fun k => by rw [camletref42_Reached.l0, if_pos (by simp), if_neg (by decide)]) ?_
  refine Ev.step (f := fun k => camletref42_Reached.l1 k m F T [] roots (-1) ((0 : Nat) : Int)) (fun k => by rw [camletref42_Reached.j1]; rfl) ?_
  refine ref_l1 hv hlen hF hFT hT hrl hrv roots.length 0 [] (by omega) (GInv.nil _ _ _) ?_
  rw [List.drop_zero]
  unfold gReach
  cases e : gFold F T (gBlk m T) [] roots with
  | none => rfl
  | some l1 =>
    have hi := gFold_inv (gBlk_ok m F T) _ _ _ (GInv.nil F T _) e
    obtain ⟨q, hq⟩ := gLoop_ends (m := m) (gBlk_ok m F T) hFT (m.length + 1) 0 l1 hi (by omega) (by omega)
    have := ref_l0 hv hlen hF hFT hT (m.length + 1) 0 l1 roots q hi hq
    show Ev _ (gTold ((gLoop m F T (gBlk m T) (m.length + 1) 0 l1).getD none))
    rw [hq]
    have e0 : wrap64 (-1 + 1) = ((0 : Nat) : Int) := (wr64 (by omega)).trans (by omega)
    rw [e0]
    exact this
theorem ref_words {l : List Int} (hi : GInv F T (gBlk m T) l) : Ev (fun k => camletref42_words.f k m l T) (gWords (gBlk m T) l) := by
  have hll := hi.len hFT
  have hw := hi.words hFT
  have h0 : ∀ (d i : Nat), i + d = l.length → Ev (fun k => camletref42_words.l0 k m l T (gWords (gBlk m T) (l.take i)) (i : Int)) (gWords (gBlk m T) l) := by
    intro d
    induction d with
    | zero =>
      intro i hd
      rw [List.take_of_length_le (by omega)]
      exact Ev.some 1 (fun k => by rw [camletref42_words.l0, if_neg (by omega)])
    | succ d ih =>
      intro i hd
      have hil : i < l.length := by omega
      have hrd : rd l i = l[i] := by
        unfold rd
        rw [List.getD_eq_getElem?_getD, Int.toNat_natCast, List.getElem?_eq_getElem hil]; rfl
      have hmm := hi.mem l[i] (List.getElem_mem hil)
      have e1 : gWords (gBlk m T) (l.take (i + 1)) = gWords (gBlk m T) (l.take i) + gBlk m T l[i] := by
        rw [List.take_succ_eq_append_getElem hil, gWords_append]; simp [gWords]
      have n0 := gWords_nonneg (blk := gBlk m T) (l := l.take i) (fun b hb => hi.nonneg b (List.mem_of_mem_take hb))
      have n1 := gWords_nonneg (blk := gBlk m T) (l := l.drop (i + 1)) (fun b hb => hi.nonneg b (List.mem_of_mem_drop hb))
      have e2 := gWords_append (gBlk m T) (l.take (i + 1)) (l.drop (i + 1))
      rw [List.take_append_drop] at e2
      refine Ev.step (fun k => by rw [camletref42_words.l0, if_pos (by omega), if_pos (by omega), hrd]) ?_
      refine Ev.bind (ref_Block hv hlen hF hFT hT (a := l[i]) (by omega) (by omega)) ?_
      rw [wr64 (n := gWords (gBlk m T) (l.take i) + gBlk m T l[i]) (by omega), wr64 (n := (i : Int) + 1) (by omega), ← e1]
      exact ih (i + 1) (by omega)
  have := h0 l.length 0 (by omega)
  simpa [camletref42_words.f, gWords] using this
end
end Go.Proofs.Ytnkbfbhhioemoaa.Q
