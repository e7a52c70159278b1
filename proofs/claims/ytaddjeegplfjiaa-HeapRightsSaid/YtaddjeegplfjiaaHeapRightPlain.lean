/- heap.Right and the reference's Right compute the same. -/
import Derived.Test.YtaddjeegplfjiaaQx0
import Derived.Test.YtaddjeegplfjiaaQx1
import Derived.Test.YtaddjeegplfjiaaQx11
import Derived.Test.YtaddjeegplfjiaaQx3
import Derived.Test.YtaddjeegplfjiaaEvW
import Derived.Test.YtaddjeegplfjiaaHeapPlain
import Derived.Test.YtaddjeegplfjiaaHeapRef
import Derived.Test.YtaddjeegplfjiaaHheapRight
import Derived.Test.YtaddjeegplfjiaaHheapRt
import Derived.Test.YtaddjeegplfjiaaHheapStands
import Derived.Test.YtaddjeegplfjiaaTakeM
--@needs XHheapRight
--@needs XHeapRef
--@needs XTakeM
--@needs XEvW
--@uses camlet/camletref41.Right
namespace Go.Proofs.Ytaddjeegplfjiaa.Q
open Go.RowKit Go.Proofs.YtaddjeegplfjiaaW.PrintWords Go.Proofs.YtaddjeegplfjiaaW.PrintLast Go.Proofs.YtaddjeegplfjiaaW.PrintMore
attribute [local go_sem] max2_int min2_int max_two min_two max_three min_three max_four min_four   -- for this text's walks alone
set_option linter.unusedVariables false
set_option linter.unusedSimpArgs false

theorem hr_rd_take {m : List Int} {b i : Int} (h0 : 0 ≤ i) (h1 : i < b) (hb : b ≤ m.length) : rd (m.take b.toNat) i = rd m i := by
  unfold rd
  rw [List.getD_eq_getElem?_getD, List.getD_eq_getElem?_getD, List.getElem?_take_of_lt (by omega)]
theorem hr_has (ps : List Int) (x : Int) (hl : ps.length ≤ 1000000) : Ev (fun k => camletref19_Has.f k ps x) (decide (x ∈ ps)) := by
  have go : ∀ (d i : Nat), i + d = ps.length → Ev (fun k => camletref19_Has.l0 k ps x (ps.length : Int) (i : Int)) (decide (x ∈ ps.drop i)) := by
    intro d
    induction d with
    | zero =>
      intro i hi
      rw [List.drop_eq_nil_of_le (by omega)]
      exact Ev.some 1 (fun k => by rw [camletref19_Has.l0, if_neg (by omega)]; simp)
    | succ d ih =>
      intro i hi
      have hlt : i < ps.length := by omega
      have he : rd ps (i : Int) = ps[i] := by
        unfold rd
        rw [Int.toNat_natCast, List.getD_eq_getElem?_getD, List.getElem?_eq_getElem hlt]
        rfl
      rw [List.drop_eq_getElem_cons hlt]
      refine Ev.step (fun k => by rw [camletref19_Has.l0, if_pos (by omega), if_pos (by omega), if_pos (by omega), he]) ?_
      refine Ev.ite (fun h => ?_) (fun h => ?_)
      · rw [decide_eq_true (by rw [h]; exact List.mem_cons_self)]
        exact Ev.now _
      · have e : decide (x ∈ ps[i] :: ps.drop (i + 1)) = decide (x ∈ ps.drop (i + 1)) := by
          congr 1
          simp only [List.mem_cons, eq_iff_iff]
          exact ⟨fun h2 => h2.resolve_left (fun e => h e.symm), .inr⟩
        rw [e, wr64 (by omega)]
        exact ih (i + 1) (by omega)
  have h := go ps.length 0 (by omega)
  rw [List.drop_zero] at h
  exact h
/-- the words of a block from one of its places on -/
def hrWords (m : List Int) (a s t : Int) : List Int := (m.drop (a + t).toNat).take (s + 1 - t).toNat
theorem hrWords_cons {m : List Int} {a s t : Int} (h0 : 0 ≤ a + t) (h1 : t ≤ s) (h2 : a + s < (m.length : Int)) : hrWords m a s t = rd m (a + t) :: hrWords m a s (t + 1) := by
  unfold hrWords
  have hlt : (a + t).toNat < m.length := by omega
  rw [List.drop_eq_getElem_cons hlt, show (s + 1 - t).toNat = (s + 1 - (t + 1)).toNat + 1 by omega, List.take_succ_cons, show (a + (t + 1)).toNat = (a + t).toNat + 1 by omega]
  congr 1
  unfold rd
  rw [List.getD_eq_getElem?_getD, List.getElem?_eq_getElem hlt]
  rfl
theorem hrWords_nil {m : List Int} {a s t : Int} (h1 : s < t) : hrWords m a s t = [] := by
  unfold hrWords
  rw [show (s + 1 - t).toNat = 0 by omega, List.take_zero]
section
variable {m ps : List Int} (hm : m.length ≤ 1000000 ∧ ∀ x ∈ m, 0 ≤ x ∧ x < 4294967296) (hpl : ps.length ≤ 1000000)
include hm hpl
theorem hr_l1 {r : Bool} {i : Nat} {a kind s : Int} (hi : i < ps.length) (ha : rd ps (i : Int) = a) (h0 : 0 ≤ a) (hs : a + s < (m.length : Int)) (hc : Ev (fun k => camletref41_Right.l0 k m ps (ps.length : Int) ((i + 1 : Nat) : Int)) r) : ∀ (d : Nat) (t : Int), s + 1 - t = d → 1 ≤ t → (t = 1 → kind ≠ 1) →
    Ev (fun k => camletref41_Right.l1 k m ps (i : Int) kind s t (ps.length : Int) (i : Int)) (if (hrWords m a s t).any (astray ps) = true then false else r) := by
  intro d
  induction d with
  | zero =>
    intro t hd h1 hk
    rw [hrWords_nil (by omega), if_neg (by simp)]
    refine Ev.step (fun k => by rw [camletref41_Right.l1, if_neg (by omega)]) ?_
    rw [wr64 (by omega)]
    exact hc
  | succ d ih =>
    intro t hd h1 hk
    have hx := hm.2 _ (rd_memT (l := m) (i := a + t) (by omega) (by omega))
    rw [hrWords_cons (by omega) (by omega) hs, List.any_cons]
    have hn := ih (t + 1) (by omega) (by omega) (fun h => by omega)
    have e0 : ∀ k, camletref41_Right.l1 (k + 1) m ps (i : Int) kind s t (ps.length : Int) (i : Int) = camletref41_Right.j3 k m ps (i : Int) kind s t (rd m (a + t)) (ps.length : Int) (i : Int) (Int.tmod (rd m (a + t)) 2 == 1) := by
      intro k
      rw [camletref41_Right.l1, if_pos (by omega), if_pos (by omega), if_pos (by omega), ha, wr64 (n := a + t) (by omega), if_pos (by omega), if_pos (by omega)]
      by_cases h : t = 1
      · rw [if_pos h, if_neg (hk h)]
      · rw [if_neg h]
    refine Ev.step e0 ?_
    obtain ⟨x, hxe⟩ : ∃ x, rd m (a + t) = x := ⟨_, rfl⟩
    rw [hxe] at hx ⊢
    have e2 : Int.tmod x 2 = x % 2 := Int.tmod_eq_emod_of_nonneg hx.1
    have e4 : Int.tmod x 4 = x % 4 := Int.tmod_eq_emod_of_nonneg hx.1
    have e5 : Int.tdiv x 4 = x / 4 := Int.tdiv_eq_ediv_of_nonneg hx.1
    rw [e2]
    by_cases hodd : x % 2 = 1
    · have ea : astray ps x = false := by unfold astray; rw [decide_eq_false (by omega)]; rfl
      rw [ea, Bool.false_or, hodd]
      refine Ev.step (fun k => by rw [camletref41_Right.j3, if_pos (by rfl)]) ?_
      rw [wr64 (n := t + 1) (by omega)]
      exact hn
    · have ho : (x % 2 == 1) = false := by simp; omega
      rw [ho]
      refine Ev.step (fun k => by rw [camletref41_Right.j3, if_neg (by decide), e4, wr64 (n := x) (by omega), e5, wr64 (n := x / 4) (by omega), wr64 (n := t + 1) (by omega)]) ?_
      refine Ev.ite (fun h4 => ?_) (fun h4 => ?_)
      · refine Ev.bind (hr_has ps (x / 4) hpl) ?_
        by_cases hin : x / 4 ∈ ps
        · have ea : astray ps x = false := by unfold astray; rw [decide_eq_true (show x % 2 = 0 by omega), decide_eq_true (show x % 4 = 0 ∧ x / 4 ∈ ps from ⟨h4, hin⟩)]; rfl
          rw [ea, Bool.false_or, decide_eq_true hin]
          exact Ev.pos rfl hn
        · have ea : astray ps x = true := by unfold astray; rw [decide_eq_true (show x % 2 = 0 by omega), decide_eq_false (fun h : x % 4 = 0 ∧ x / 4 ∈ ps => hin h.2)]; rfl
          rw [ea, Bool.true_or, if_pos rfl, decide_eq_false hin]
          exact Ev.neg (by decide) (Ev.now _)
      · have ea : astray ps x = true := by unfold astray; rw [decide_eq_true (show x % 2 = 0 by omega), decide_eq_false (fun h : x % 4 = 0 ∧ x / 4 ∈ ps => h4 h.1)]; rfl
        rw [ea, Bool.true_or, if_pos rfl]
        exact Ev.now _
theorem hr_l0 (hps : ∀ a ∈ ps, blkB m a = true) (d : Nat) : ∀ i : Nat, i + d = ps.length → Ev (fun k => camletref41_Right.l0 k m ps (ps.length : Int) (i : Int)) (!(((ps.drop i).flatMap (kidsOf m)).any (astray ps))) := by
  induction d with
  | zero =>
    intro i hi
    rw [List.drop_eq_nil_of_le (by omega)]
    exact Ev.some 1 (fun k => by rw [camletref41_Right.l0, if_neg (by omega)]; rfl)
  | succ d ih =>
    intro i hi
    have hlt : i < ps.length := by omega
    have he : rd ps (i : Int) = ps[i] := by
      unfold rd
      rw [Int.toNat_natCast, List.getD_eq_getElem?_getD, List.getElem?_eq_getElem hlt]
      rfl
    obtain ⟨a, ha⟩ : ∃ a, ps[i] = a := ⟨_, rfl⟩
    have hb := hps a (ha ▸ List.getElem_mem hlt)
    obtain ⟨b0, b1, b2, b3, b4⟩ := blkB_in' hb
    have hx := hm.2 _ (rd_memT (l := m) (i := a) b0 b1)
    have hz := splV_size hx.1 hx.2
    rw [List.drop_eq_getElem_cons hlt, ha, List.flatMap_cons, List.any_append]
    rw [ha] at he
    have hn := ih (i + 1) (by omega)
    refine Ev.step (fun k => by rw [camletref41_Right.l0, if_pos (by omega), if_pos (by omega), if_pos (by omega), he, if_pos (by omega), if_pos (by omega)]) ?_
    refine Ev.bind (Ev.some 1 (fun k => ref41_Split_eq k _ hx.1 hx.2)) ?_
    have hk : kidsOf m a = hrWords m a (splV (rd m a)).2.2.1 (if (splV (rd m a)).1 = 1 then 2 else 1) := by
      unfold kidsOf kidsFrom hrWords
      split
      · rw [show a + (splV (rd m a)).2.2.1 + 1 - (a + 2) = (splV (rd m a)).2.2.1 + 1 - 2 by omega]
      · rw [show a + (splV (rd m a)).2.2.1 + 1 - (a + 1) = (splV (rd m a)).2.2.1 + 1 - 1 by omega]
    have hr : (!((kidsOf m a).any (astray ps) || ((ps.drop (i + 1)).flatMap (kidsOf m)).any (astray ps))) = (if (kidsOf m a).any (astray ps) = true then false else !(((ps.drop (i + 1)).flatMap (kidsOf m)).any (astray ps))) := by
      cases (kidsOf m a).any (astray ps) <;> rfl
    rw [hr, hk]
    have hz1 := hz.2.2.2.2.2.2 b2
    by_cases h1 : (splV (rd m a)).1 = 1
    · rw [if_pos h1]
      have hw := hm.2 _ (rd_memT (l := m) (i := a + 1) (by omega) (by omega))
      refine Ev.step (g := fun k => camletref41_Right.l1 k m ps (i : Int) (splV (rd m a)).1 (splV (rd m a)).2.2.1 1 (ps.length : Int) (i : Int)) (fun k => by rw [camletref41_Right.l1, if_pos (by omega), if_pos (by omega), if_pos (by omega), he, wr64 (n := a + 1) (by omega), if_pos (by omega), if_pos (by omega), if_pos rfl, if_pos h1]) ?_
      refine Ev.step (fun k => by rw [camletref41_Right.j3, if_pos rfl, wr64 (n := (1 : Int) + 1) (by omega)]) ?_
      exact hr_l1 hm hpl hlt he b0 b3 hn ((splV (rd m a)).2.2.1 + 1 - 2).toNat 2 (by omega) (by omega) (fun h => by omega)
    · rw [if_neg h1]
      exact hr_l1 hm hpl hlt he b0 b3 hn ((splV (rd m a)).2.2.1 + 1 - 1).toNat 1 (by omega) (by omega) (fun _ => h1)
end
theorem hr_blk {m : List Int} {a b : Int} (hb : b ≤ m.length) (hb0 : 0 ≤ b) : blkB (m.take b.toNat) a = (blkB m a && (decide (a < b) && decide (a + (splV (rd m a)).2.2.1 < b))) := by
  have hl : ((m.take b.toNat).length : Int) = b := by rw [List.length_take]; omega
  unfold blkB
  rw [hl]
  by_cases h0 : 0 ≤ a
  · by_cases h1 : a < b
    · rw [hr_rd_take h0 h1 hb]
      by_cases h2 : a + (splV (rd m a)).2.2.1 < b
      · have h3 : (splV (rd m a)).1 = 1 → rd (m.take b.toNat) (a + 1) = rd m (a + 1) ∨ (splV (rd m a)).2.2.2 = false := by
          intro hk
          by_cases hok : splOk (rd m a)
          · left
            have e : splV (rd m a) = (rd m a % 16 / 2, rd m a / 16 % 1024, rd m a / 16384, true) := if_pos hok
            have := hok.2.2.2.2.2.2.1
            rw [e] at h2
            exact hr_rd_take (by omega) (by dsimp only at h2; omega) hb
          · right
            rw [show splV (rd m a) = (0, 0, 0, false) from if_neg hok]
        rw [decide_eq_true h0, decide_eq_true h1, decide_eq_true h2, decide_eq_true (show a < (m.length : Int) by omega), decide_eq_true (show a + (splV (rd m a)).2.2.1 < (m.length : Int) by omega)]
        by_cases hk : (splV (rd m a)).1 = 1
        · rcases h3 hk with h | h
          · rw [h]; simp
          · rw [h]; simp
        · rw [decide_eq_false hk]; simp
      · rw [decide_eq_false h2]; simp
    · rw [decide_eq_false h1]; simp
  · rw [decide_eq_false h0]; simp
theorem hr_kids {m : List Int} {a b : Int} (hb : b ≤ m.length) (hb0 : 0 ≤ b) (h : blkB (m.take b.toNat) a = true) : kidsOf (m.take b.toNat) a = kidsOf m a := by
  rw [hr_blk hb hb0] at h
  simp only [Bool.and_eq_true, decide_eq_true_eq] at h
  obtain ⟨h1, h2, h3⟩ := h
  have h0 := (blkB_in' h1).1
  unfold kidsOf kidsFrom
  rw [hr_rd_take h0 h2 hb, List.drop_take, List.take_take]
  congr 1
  split <;> omega
theorem hr_places {m : List Int} (hm : m.length ≤ 1000000 ∧ ∀ x ∈ m, 0 ≤ x ∧ x < 4294967296) {b : Int} (hb : b ≤ m.length) (hb0 : 0 ≤ b) : ∀ (n : Nat) (a : Int) (ps qs : List Int), 0 ≤ a → a ≤ b → b - a < n → (ps.length : Int) ≤ a → qs = ps.flatMap (kidsOf m) → (∀ x ∈ ps, blkB m x = true) →
    (∃ ps', rloop (m.take b.toNat) n a ps qs = some (ps', ps'.flatMap (kidsOf m)) ∧ (ps'.length : Int) ≤ b ∧ (∀ x ∈ ps', blkB m x = true) ∧ Ev (fun k => camletref41_Places.l0 k m b ps a) (ps', true)) ∨
    (rloop (m.take b.toNat) n a ps qs = none ∧ ∃ ps', Ev (fun k => camletref41_Places.l0 k m b ps a) (ps', false)) := by
  intro n
  have hl : ((m.take b.toNat).length : Int) = b := by rw [List.length_take]; omega
  induction n with
  | zero => intro a ps qs h0 h1 h2; omega
  | succ n ih =>
    intro a ps qs h0 h1 h2 hpl hq hps
    rw [rloop, hl]
    by_cases ha : a < b
    · rw [if_pos ha]
      have hx := hm.2 _ (rd_memT (l := m) (i := a) h0 (by omega))
      have hz := splV_size hx.1 hx.2
      have hpb := hr_blk (m := m) (a := a) hb hb0
      rw [decide_eq_true ha, Bool.true_and] at hpb
      have e1 : ∀ k, camletref41_Places.l0 (k + 1) m b ps a = (camletref41_block.f k m a).bind fun t => if t = true then (if 0 ≤ a then (if a < (m.length : Int) then ((camletref41_Split.f k (rd m a)).bind fun bt => (if ps.length < 17592186044416 then (camletref41_Places.l0 k m b (ps ++ [a]) (wrap64 ((wrap64 (a + 1)) + bt.2.2.1))) else (none))) else (none)) else (none)) else (some (([] : List Int), false)) := fun k => by
        rw [camletref41_Places.l0, if_pos ha]
      rcases hbl : blkB m a with _ | _
      · right
        rw [hbl, Bool.false_and] at hpb
        rw [if_neg (by rw [hpb]; decide)]
        refine ⟨rfl, [], Ev.step e1 (Ev.bind (Ev.some 1 (fun k => blkB_eq k m hm a)) ?_)⟩
        rw [hbl]
        exact Ev.neg (by decide) (Ev.now _)
      · rw [hbl, Bool.true_and] at hpb
        have hin := blkB_in' hbl
        have hz1 := hz.2.2.2.2.2.2 hin.2.2.1
        have e2 : ∀ {r : List Int × Bool}, Ev (fun k => camletref41_Places.l0 k m b (ps ++ [a]) (a + 1 + (splV (rd m a)).2.2.1)) r → Ev (fun k => camletref41_Places.l0 k m b ps a) r := by
          intro r h
          refine Ev.step e1 (Ev.bind (Ev.some 1 (fun k => blkB_eq k m hm a)) ?_)
          rw [hbl]
          refine Ev.pos rfl (Ev.pos h0 (Ev.pos (by omega) (Ev.bind (Ev.some 1 (fun k => ref41_Split_eq k _ hx.1 hx.2)) (Ev.pos (by omega) ?_))))
          rw [wr64 (n := a + 1) (by omega), wr64 (by omega)]
          exact h
        by_cases hlt : a + (splV (rd m a)).2.2.1 < b
        · rw [decide_eq_true hlt] at hpb
          rw [if_pos hpb, hr_rd_take h0 ha hb, hr_kids hb hb0 hpb]
          rcases ih (a + 1 + (splV (rd m a)).2.2.1) (ps ++ [a]) (qs ++ kidsOf m a) (by omega) (by omega) (by omega) (by rw [List.length_append, List.length_singleton]; omega) (by rw [hq]; simp) (fun x hx => by
            rcases List.mem_append.1 hx with hx | hx
            · exact hps x hx
            · rw [List.mem_singleton.1 hx]; exact hbl) with ⟨ps', g1, g2, g3, g4⟩ | ⟨g1, ps', g2⟩
          · exact .inl ⟨ps', g1, g2, g3, e2 g4⟩
          · exact .inr ⟨g1, ps', e2 g2⟩
        · right
          rw [decide_eq_false hlt] at hpb
          rw [if_neg (by rw [hpb]; decide)]
          refine ⟨rfl, ps ++ [a], e2 (Ev.some 1 (fun k => ?_))⟩
          rw [camletref41_Places.l0, if_neg (by omega), show (a + 1 + (splV (rd m a)).2.2.1 == b) = false by simp; omega]
    · rw [if_neg ha]
      left
      obtain rfl : a = b := by omega
      refine ⟨ps, by rw [hq], hpl, hps, Ev.some 1 (fun k => ?_)⟩
      rw [camletref41_Places.l0, if_neg ha]
      simp
theorem hRight_ref {m : List Int} (hm : m.length ≤ 1000000 ∧ ∀ x ∈ m, 0 ≤ x ∧ x < 4294967296) (a b : Int) : Ev (fun k => camletref41_Right.f k m a b) (rightB m a b) := by
  unfold rightB
  have hbad : Ev (fun k => camletref41_Right.j0 k m a b true) false := Ev.some 1 (fun k => by rw [camletref41_Right.j0, if_pos rfl])
  by_cases h0 : a < 0
  · rw [if_pos (.inl h0)]
    exact Ev.congr (fun k => by rw [camletref41_Right.f, if_pos h0]) hbad
  · by_cases h1 : a > b
    · rw [if_pos (.inr (.inl h1))]
      exact Ev.congr (fun k => by rw [camletref41_Right.f, if_neg h0, if_pos h1]) hbad
    · by_cases h2 : b > (m.length : Int)
      · rw [if_pos (.inr (.inr h2))]
        exact Ev.congr (fun k => by rw [camletref41_Right.f, if_neg h0, if_neg h1, decide_eq_true h2]) hbad
      · rw [if_neg (by omega)]
        refine Ev.congr (f := fun k => camletref41_Right.j0 k m a b false) (fun k => by rw [camletref41_Right.f, if_neg h0, if_neg h1, decide_eq_false h2]) ?_
        refine Ev.step (fun k => by rw [camletref41_Right.j0, if_neg (by decide)]) ?_
        rcases hr_places hm (b := b) (by omega) (by omega) ((b - a).toNat + 1) a [] [] (by omega) (by omega) (by omega) (by simp; omega) rfl (fun x hx => by simp at hx) with ⟨ps, g1, g2, g3, g4⟩ | ⟨g1, ps, g2⟩
        · rw [g1]
          refine Ev.bind g4 (Ev.pos rfl ?_)
          have h := hr_l0 hm (ps := ps) (by omega) g3 ps.length 0 (by omega)
          rw [List.drop_zero] at h
          exact h
        · rw [g1]
          exact Ev.bind g2 (Ev.neg (by simp) (Ev.now _))
end Go.Proofs.Ytaddjeegplfjiaa.Q
