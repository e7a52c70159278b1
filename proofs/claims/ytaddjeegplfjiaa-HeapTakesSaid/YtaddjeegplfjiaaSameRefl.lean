/- A value of so many parts is the same as itself, by the reference. Made out of XGcTake. -/
import Derived.Test.YtaddjeegplfjiaaQx0
import Derived.Test.YtaddjeegplfjiaaQx2
import Derived.Test.YtaddjeegplfjiaaEvW
import Derived.Test.YtaddjeegplfjiaaHeapPlain
import Derived.Test.YtaddjeegplfjiaaTakeM
--@needs XTakeM
--@needs XEvW
--@needs XHeapPlain
--@uses camlet/camletref17.Same
namespace Go.Proofs.Ytaddjeegplfjiaa.Q
open Go.RowKit Go.Proofs.YtaddjeegplfjiaaW.PrintWords Go.Proofs.YtaddjeegplfjiaaW.PrintLast Go.Proofs.YtaddjeegplfjiaaW.PrintMore
attribute [local go_sem] max2_int min2_int max_two min_two max_three min_three max_four min_four   -- for this text's walks alone
set_option linter.unusedVariables false
set_option linter.unusedSimpArgs false

def TB : Nat → S34 → Prop
  | 0, _ => False
  | n + 1, x => x.f2.length ≤ 1000000 ∧ ∀ y ∈ x.f2, TB n y
theorem TB.leaf (n : Nat) (a b : Int) : TB (n + 1) ⟨a, b, []⟩ := ⟨by simp, fun y hy => by simp at hy⟩
theorem kidsV_TB {f : Int × List Int → Int → (S34 × Int) × (Int × List Int)} {n : Nat} (hf : ∀ s x, TB n (f s x).1.1) : ∀ (l : List Int) (s : Int × List Int) (acc : List S34), (∀ y ∈ acc, TB n y) → (∀ y ∈ (kidsV f s l acc).1.1, TB n y) ∧ (kidsV f s l acc).1.1.length ≤ acc.length + l.length
  | [], s, acc, h => ⟨h, by simp [kidsV]⟩
  | x :: r, s, acc, h => by
    rw [kidsV]
    split
    · have := kidsV_TB hf r (f s x).2 (acc ++ [(f s x).1.1]) (fun y hy => (List.mem_append.1 hy).elim (h y) (fun hy => by obtain rfl := List.mem_singleton.1 hy; exact hf s x))
      refine ⟨this.1, ?_⟩
      have h2 := this.2
      simp only [List.length_append, List.length_cons, List.length_nil] at h2 ⊢
      omega
    · exact ⟨fun y hy => by simp at hy, by simp⟩
theorem takeV_TB (m : List Int) (hm : m.length ≤ 1000000) : ∀ (n : Nat) (s : Int × List Int) (w : Int), TB (n + 1) (takeV m n s w).1.1
  | 0, s, w => TB.leaf 0 0 0
  | n + 1, s, w => by
    rw [takeV]
    split
    · exact TB.leaf _ _ _
    · split
      · exact TB.leaf _ _ _
      · split
        · exact TB.leaf _ _ _
        · split
          · exact TB.leaf _ _ _
          · split
            · exact TB.leaf _ _ _
            · have hk := kidsV_TB (takeV_TB m hm n) (kidsOf m (w / 4)) (s.1 - 1, s.2) [] (by simp)
              have hl : (kidsOf m (w / 4)).length ≤ m.length := by unfold kidsOf; rw [List.length_take, List.length_drop]; omega
              split
              · refine ⟨?_, hk.1⟩
                have h2 : (kidsV (takeV m n) (s.1 - 1, s.2) (kidsOf m (w / 4)) []).1.1.length ≤ 0 + (kidsOf m (w / 4)).length := hk.2
                show (kidsV (takeV m n) (s.1 - 1, s.2) (kidsOf m (w / 4)) []).1.1.length ≤ 1000000
                omega
              · exact TB.leaf _ _ _
theorem same_refl : ∀ (n : Nat) (x : S34), TB n x → Ev (fun k => camletref17_Same.f k x.f0 x.f1 x.f2 x.f0 x.f1 x.f2) true
  | 0, x, h => h.elim
  | n + 1, x, h => by
    obtain ⟨hl, hk⟩ := h
    have go : ∀ (d i : Nat), i + d = x.f2.length → Ev (fun k => camletref17_Same.l0 k (i : Int) x.f0 x.f1 x.f2 x.f0 x.f1 x.f2) true := by
      intro d
      induction d with
      | zero =>
        intro i hi
        exact Ev.some 1 (fun k => by rw [camletref17_Same.l0, if_neg (by omega)])
      | succ d ih =>
        intro i hi
        have hlt : i < x.f2.length := by omega
        have hw : wrap64 ((i : Int) + 1) = ((i + 1 : Nat) : Int) := by unfold wrap64; omega
        have he : rd_T34 x.f2 (i : Int) = x.f2[i] := by
          unfold rd_T34
          rw [Int.toNat_natCast, List.getD_eq_getElem?_getD, List.getElem?_eq_getElem hlt]
          rfl
        have h1 := same_refl n x.f2[i] (hk _ (List.getElem_mem hlt))
        have h2 := ih (i + 1) (by omega)
        obtain ⟨m1, e1⟩ := h1
        obtain ⟨m2, e2⟩ := h2
        refine ⟨m1 + m2 + 1, fun k hk2 => ?_⟩
        obtain ⟨j, rfl⟩ : ∃ j, k = j + 1 := ⟨k - 1, by omega⟩
        have a1 : camletref17_Same.f j _ _ _ _ _ _ = _ := e1 j (by omega)
        have a2 : camletref17_Same.l0 j _ _ _ _ _ _ _ = _ := e2 j (by omega)
        show camletref17_Same.l0 (j + 1) _ _ _ _ _ _ _ = _
        rw [camletref17_Same.l0, if_pos (by omega), if_pos (by omega), if_pos (by omega), he, a1, Option.bind_some, if_pos rfl, hw, a2]
    obtain ⟨m1, e1⟩ := go x.f2.length 0 (by omega)
    refine ⟨m1 + 2, fun k hk2 => ?_⟩
    obtain ⟨j, rfl⟩ : ∃ j, k = j + 2 := ⟨k - 2, by omega⟩
    have a1 : camletref17_Same.l0 j _ _ _ _ _ _ _ = _ := e1 j (by omega)
    show camletref17_Same.f (j + 1 + 1) _ _ _ _ _ _ = _
    rw [camletref17_Same.f, if_pos rfl, if_pos rfl, show ((x.f2.length : Int) != (x.f2.length : Int)) = false by simp, camletref17_Same.j0, if_neg (by decide)]
    exact a1
/-! ### both memories -/
end Go.Proofs.Ytaddjeegplfjiaa.Q
