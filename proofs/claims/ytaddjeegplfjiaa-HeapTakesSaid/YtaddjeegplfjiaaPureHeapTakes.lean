/- Take agrees with the reference: the plain statement. -/
import Derived.Test.YtaddjeegplfjiaaHeapTakePlain
import Derived.Test.YtaddjeegplfjiaaSameRefl
import Derived.Test.YtaddjeegplfjiaaStHeapTakes
namespace Go.Proofs.Ytaddjeegplfjiaa.Q
open Go.RowKit Go.Proofs.YtaddjeegplfjiaaW.PrintWords Go.Proofs.YtaddjeegplfjiaaW.PrintLast Go.Proofs.YtaddjeegplfjiaaW.PrintMore
set_option linter.unusedVariables false
set_option linter.unusedSimpArgs false

theorem ht_u32 {H : Type} {x : Int} {y : DataW H} (h : Dint .u32 H x y) : 0 ≤ x ∧ x < 4294967296 := by
  have h2 : IntKind.u32.min ≤ x ∧ x ≤ IntKind.u32.max := by simpa [Lit.wf] using h.2
  rw [show IntKind.u32.min = 0 from rfl, show IntKind.u32.max = 4294967295 from rfl] at h2
  omega
theorem ht_u32s {H : Type} {l : List Int} {y : DataW H} (h : (Dsl (Dint .u32)) H l y) : ∀ x ∈ l, 0 ≤ x ∧ x < 4294967296 := by
  intro x hx
  obtain ⟨es, sp, _, hl, _, he⟩ := h
  obtain ⟨i, hi, rfl⟩ := List.getElem_of_mem hx
  exact ht_u32 (he i _ _ (List.getElem?_eq_getElem hi) (List.getElem?_eq_getElem (by omega)))
theorem HeapTakes.proved : HeapTakes.Pure := by
  intro x0 x1 x2 ⟨H, y0, y1, y2, h0, h1, h2⟩
  have hm := ht_u32s h0
  obtain ⟨hw0, hw1⟩ := ht_u32 h1
  by_cases hl : (x0.length : Int) > 500
  · refine ⟨1, ?_⟩
    unfold camletlaw41_HeapTakes.f
    rw [if_pos hl]
    simp [camletlaw41_knows.f]
  · have hmn : mn x2 400 ≤ 10000 := by unfold mn; split <;> omega
    obtain ⟨a, ha⟩ : ∃ a, mn x2 400 = a := ⟨_, rfl⟩
    rw [ha] at hmn
    obtain ⟨q, hq, hT⟩ : ∃ q, camletref41_Take.f 0 x0 x1 a = some q ∧ TB (a.toNat + 1) ⟨q.1, q.2.1, q.2.2.1⟩ := by
      unfold camletref41_Take.f
      rw [if_pos ⟨⟨by omega, hm⟩, ⟨hw0, hw1⟩, hmn⟩]
      exact ⟨_, rfl, takeV_TB x0 (by omega) _ _ _⟩
    obtain ⟨k, hk⟩ := Ev.out (same_refl _ _ hT)
    refine ⟨k, ?_⟩
    unfold camletlaw41_HeapTakes.f
    rw [if_neg hl, ha, hTake_eq k, show camletref41_Take.f k x0 x1 a = camletref41_Take.f 0 x0 x1 a from rfl, hq, Option.bind_some, Option.bind_some, if_pos rfl]
    have hk' : camletref17_Same.f k q.1 q.2.1 q.2.2.1 q.1 q.2.1 q.2.2.1 = some true := hk
    rw [hk']
    simp [camletlaw41_knows.f]
end Go.Proofs.Ytaddjeegplfjiaa.Q
