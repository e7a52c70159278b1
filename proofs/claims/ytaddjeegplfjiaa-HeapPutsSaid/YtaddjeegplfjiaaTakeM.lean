/- The reference's taking of values out of memory, told by lists. -/
import Derived.Test.YtaddjeegplfjiaaQx0
import Derived.Test.YtaddjeegplfjiaaQx3
import Derived.Test.YtaddjeegplfjiaaHeapPlain
import Derived.Test.YtaddjeegplfjiaaHeapRef
--@needs XHeapRef
--@uses camlet/camletref41.block
--@uses camlet/camletref01.Unbox
namespace Go.Proofs.Ytaddjeegplfjiaa.Q
open Go.RowKit Go.Proofs.YtaddjeegplfjiaaW.PrintWords Go.Proofs.YtaddjeegplfjiaaW.PrintLast Go.Proofs.YtaddjeegplfjiaaW.PrintMore
attribute [local go_sem] max2_int min2_int max_two min_two max_three min_three max_four min_four   -- for this text's walks alone
set_option linter.unusedVariables false
set_option linter.unusedSimpArgs false

theorem rd_memT {l : List Int} {i : Int} (h0 : 0 ≤ i) (h1 : i < l.length) : rd l i ∈ l := by
  unfold rd
  rw [List.getD_eq_getElem?_getD, List.getElem?_eq_getElem (show i.toNat < l.length by omega)]
  exact List.getElem_mem _
/-- a block stands at a place -/
def blkB (m : List Int) (a : Int) : Bool := decide (0 ≤ a) && (decide (a < (m.length : Int)) && ((splV (rd m a)).2.2.2 && (decide (a + (splV (rd m a)).2.2.1 < (m.length : Int)) && (!decide ((splV (rd m a)).1 = 1) || (Int.tmod (rd m (a + 1)) 2 == 1)))))
def unb (w : Int) : Int := (camletref01_Unbox.f w).getD 0
theorem unb_eq (w : Int) : camletref01_Unbox.f w = some (unb w) := by
  have h : ∃ r, camletref01_Unbox.f w = some r := by
    unfold camletref01_Unbox.f camletref01_Wrap.f
    repeat' split
    all_goals exact ⟨_, rfl⟩
  obtain ⟨r, hr⟩ := h
  unfold unb
  rw [hr]; rfl
theorem splV_size {w : Int} (h0 : 0 ≤ w) (h1 : w < 4294967296) : 0 ≤ (splV w).1 ∧ (splV w).1 ≤ 2 ∧ 0 ≤ (splV w).2.1 ∧ (splV w).2.1 ≤ 1023 ∧ 0 ≤ (splV w).2.2.1 ∧ (splV w).2.2.1 ≤ 256 ∧ ((splV w).2.2.2 = true → 1 ≤ (splV w).2.2.1) := by
  unfold splV
  split
  · rename_i h
    obtain ⟨_, h2⟩ := h
    unfold headOk at h2
    have := hMost_le (w % 16 / 2)
    dsimp only
    refine ⟨h2.1, h2.2.1, h2.2.2.1, h2.2.2.2.1, by omega, by omega, fun _ => h2.2.2.2.2.2.1⟩
  · refine ⟨by decide, by decide, by decide, by decide, by decide, by decide, fun h => by cases h⟩
theorem blkB_eq (n : Nat) (m : List Int) (hm : m.length ≤ 1000000 ∧ ∀ x ∈ m, 0 ≤ x ∧ x < 4294967296) (a : Int) : camletref41_block.f (n + 1) m a = some (blkB m a) := by
  unfold camletref41_block.f blkB
  by_cases h0 : a < 0
  · rw [if_pos h0, decide_eq_false (by omega)]; rfl
  rw [if_neg h0, decide_eq_true (show 0 ≤ a by omega), Bool.true_and]
  by_cases h1 : a ≥ (m.length : Int)
  · rw [if_pos h1, decide_eq_false (by omega)]; rfl
  rw [if_neg h1, decide_eq_true (show a < (m.length : Int) by omega), Bool.true_and, if_pos (by omega), if_pos (by omega)]
  have hw := hm.2 _ (rd_memT (l := m) (i := a) (by omega) (by omega))
  rw [ref41_Split_eq n _ hw.1 hw.2, Option.bind_some]
  have hs := splV_size hw.1 hw.2
  cases h2 : (splV (rd m a)).2.2.2 with
  | false => rw [if_neg (by decide)]; rfl
  | true =>
    rw [if_pos rfl, Bool.true_and]
    have e1 : wrap64 (a + (splV (rd m a)).2.2.1) = a + (splV (rd m a)).2.2.1 := by unfold wrap64; omega
    rw [e1]
    by_cases h3 : a + (splV (rd m a)).2.2.1 < (m.length : Int)
    · rw [if_pos h3, decide_eq_true h3, Bool.true_and]
      by_cases h4 : (splV (rd m a)).1 = 1
      · have h5 := hs.2.2.2.2.2.2 h2
        have e2 : wrap64 (a + 1) = a + 1 := by unfold wrap64; omega
        rw [if_pos h4, decide_eq_true h4, e2, if_pos (by omega), if_pos (by omega)]
        rfl
      · rw [if_neg h4, decide_eq_false h4]; rfl
    · rw [if_neg h3, decide_eq_false h3]; rfl
/-- a cell's number -/
def cellV (cs : List Int) (a : Int) : Int × List Int := match cs.findIdx? (fun x => x == a) with | some i => ((i : Int), cs) | none => ((cs.length : Int), cs ++ [a])
theorem cellV_len (cs : List Int) (a : Int) : (cellV cs a).2.length ≤ cs.length + 1 := by
  unfold cellV
  split <;> simp
def zV : S34 := ⟨0, 0, []⟩
def kidsV (f : Int × List Int → Int → (S34 × Int) × (Int × List Int)) : Int × List Int → List Int → List S34 → (List S34 × Int) × (Int × List Int)
  | s, [], acc => ((acc, 0), s)
  | s, x :: r, acc => if (f s x).1.2 = 0 then kidsV f (f s x).2 r (acc ++ [(f s x).1.1]) else (([], (f s x).1.2), (f s x).2)
/-- where a block's kids begin -/
def kidsFrom (m : List Int) (a : Int) : Int := if (splV (rd m a)).1 = 1 then a + 2 else a + 1
def kidsOf (m : List Int) (a : Int) : List Int := (m.drop (kidsFrom m a).toNat).take (a + (splV (rd m a)).2.2.1 + 1 - kidsFrom m a).toNat
def topV (m : List Int) (a : Int) : Int × Int := if (splV (rd m a)).1 = 1 then (3, rd m (a + 1) / 2) else (2, (splV (rd m a)).2.1)
def takeV (m : List Int) : Nat → Int × List Int → Int → (S34 × Int) × (Int × List Int)
  | 0, s, _ => ((zV, 4), s)
  | n + 1, s, w =>
    if s.1 < 1 then ((zV, 4), s) else
    if w % 2 = 1 then ((⟨1, unb w, []⟩, 0), (s.1 - 1, s.2)) else
    if w % 4 ≠ 0 then ((zV, 22), (s.1 - 1, s.2)) else
    if blkB m (w / 4) = false then ((zV, 22), (s.1 - 1, s.2)) else
    if (splV (rd m (w / 4))).1 = 2 then ((⟨4, (cellV s.2 (w / 4)).1, []⟩, 0), (s.1 - 1, (cellV s.2 (w / 4)).2)) else
    if (kidsV (takeV m n) (s.1 - 1, s.2) (kidsOf m (w / 4)) []).1.2 = 0 then ((⟨(topV m (w / 4)).1, (topV m (w / 4)).2, (kidsV (takeV m n) (s.1 - 1, s.2) (kidsOf m (w / 4)) []).1.1⟩, 0), (kidsV (takeV m n) (s.1 - 1, s.2) (kidsOf m (w / 4)) []).2)
    else ((zV, (kidsV (takeV m n) (s.1 - 1, s.2) (kidsOf m (w / 4)) []).1.2), (kidsV (takeV m n) (s.1 - 1, s.2) (kidsOf m (w / 4)) []).2)
/-- what a state may come to -/
def stOk (s t : Int × List Int) : Prop := t.1 ≤ s.1 ∧ (t.2.length : Int) + t.1 ≤ s.2.length + s.1 ∧ (0 ≤ s.1 → 0 ≤ t.1)
theorem stOk.refl (s : Int × List Int) : stOk s s := ⟨Int.le_refl _, Int.le_refl _, id⟩
theorem stOk.trans {s t u : Int × List Int} (h : stOk s t) (k : stOk t u) : stOk s u := ⟨by have := h.1; have := k.1; omega, by have := h.2.1; have := k.2.1; omega, fun h0 => k.2.2 (h.2.2 h0)⟩
theorem kidsV_ok {f : Int × List Int → Int → (S34 × Int) × (Int × List Int)} (hf : ∀ s x, stOk s (f s x).2) : ∀ (l : List Int) (s : Int × List Int) (acc : List S34), stOk s (kidsV f s l acc).2
  | [], s, acc => stOk.refl s
  | x :: r, s, acc => by
    rw [kidsV]
    split
    · exact (hf s x).trans (kidsV_ok hf r _ _)
    · exact hf s x
theorem takeV_ok (m : List Int) : ∀ (n : Nat) (s : Int × List Int) (w : Int), stOk s (takeV m n s w).2
  | 0, s, w => stOk.refl s
  | n + 1, s, w => by
    have h1 : 1 ≤ s.1 → stOk s (s.1 - 1, s.2) := fun h => ⟨by show s.1 - 1 ≤ s.1; omega, by show (s.2.length : Int) + (s.1 - 1) ≤ _; omega, fun _ => by show 0 ≤ s.1 - 1; omega⟩
    rw [takeV]
    split
    · exact stOk.refl s
    · split
      · exact h1 (by omega)
      · split
        · exact h1 (by omega)
        · split
          · exact h1 (by omega)
          · split
            · have := cellV_len s.2 (w / 4)
              exact ⟨by show s.1 - 1 ≤ s.1; omega, by show ((cellV s.2 (w / 4)).2.length : Int) + (s.1 - 1) ≤ _; omega, fun _ => by show 0 ≤ s.1 - 1; omega⟩
            · have h2 := (h1 (by omega)).trans (kidsV_ok (takeV_ok m n) (kidsOf m (w / 4)) (s.1 - 1, s.2) [])
              split
              · exact h2
              · exact h2
end Go.Proofs.Ytaddjeegplfjiaa.Q
