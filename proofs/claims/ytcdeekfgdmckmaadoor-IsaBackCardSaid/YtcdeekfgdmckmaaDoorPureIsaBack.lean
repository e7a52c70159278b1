/- An instruction is taken of its word and read of its text; a word of which one is taken is that one's. -/
import Derived.Test.YtcdeekfgdmckmaaDoorIsaTI
import Derived.Test.YtcdeekfgdmckmaaDoorIsaTR
import Derived.Test.YtcdeekfgdmckmaaDoorStIsaBack
namespace Go.Proofs.YtcdeekfgdmckmaaDoor.Q
open Go.RowKit Go.Proofs.YtcdeekfgdmckmaaDoorW.PrintWords Go.Proofs.YtcdeekfgdmckmaaDoorW.PrintLast Go.Proofs.YtcdeekfgdmckmaaDoorW.PrintMore
set_option linter.unusedVariables false
set_option linter.unusedSimpArgs false

theorem ib_knows : camletlaw39_knows.f = some true := by decide +kernel
theorem ib_take {x : Int} (h : 0 ≤ x ∧ x < 4294967296) : isa_Take.f x = some (0, 0, 0, 0, 0, false) ∨ ∃ k D A B N, isa_Take.f x = some (k, D, A, B, N, true) ∧ isaRight k D A B N = true ∧ isaPut k D A B N = x := by
  unfold isa_Take.f
  rw [if_pos h]
  split
  · exact .inl rfl
  · dsimp only
    split
    · rename_i hh
      exact .inr ⟨_, _, _, _, _, rfl, hh.1, hh.2⟩
    · exact .inl rfl
theorem ib_j0 {x : Int} (h : 0 ≤ x ∧ x < 4294967296) : Ev (fun k => camletlaw39_IsaBack.j0 k x false) true := by
  rcases ib_take h with ht | ⟨k, D, A, B, N, ht, hr, hp⟩
  · refine Ev.some 1 (fun n => ?_)
    rw [camletlaw39_IsaBack.j0, if_neg (by decide), ht]
    simp [ib_knows]
  · have e1 : isa_Put.f k D A B N = some (x, 0) := by unfold isa_Put.f; rw [if_pos hr, hp]
    have e2 : isa_Right.f k D A B N = some true := by unfold isa_Right.f; rw [hr]
    refine Ev.some 1 (fun n => ?_)
    rw [camletlaw39_IsaBack.j0, if_neg (by decide), ht]
    simp [ib_knows, e1, e2]
theorem ib_u32 {H : Type} {x : Int} {y : DataW H} (h : Dint .u32 H x y) : 0 ≤ x ∧ x < 4294967296 := by
  have h2 : IntKind.u32.min ≤ x ∧ x ≤ IntKind.u32.max := by simpa [Lit.wf] using h.2
  rw [show IntKind.u32.min = 0 from rfl, show IntKind.u32.max = 4294967295 from rfl] at h2
  omega
theorem ib_Read (s : ByteArray) : ∃ r, isa_Read.f s = some r := by
  unfold isa_Read.f
  cases isaReadF s with
  | none => exact ⟨_, rfl⟩
  | some r => obtain ⟨k, D, A, B, N⟩ := r; exact ⟨_, rfl⟩
theorem IsaBack.proved : IsaBack.Pure := by
  intro x0 x1 ⟨H, y0, y1, _, h1⟩
  refine Ev.rounds ?_
  have hx := ib_u32 h1
  unfold camletlaw39_IsaBack.f
  cases hr : isaRight x0.f0 x0.f1 x0.f2 x0.f3 x0.f4 with
  | true =>
    have e1 : isa_Put.f x0.f0 x0.f1 x0.f2 x0.f3 x0.f4 = some (isaPut x0.f0 x0.f1 x0.f2 x0.f3 x0.f4, 0) := by unfold isa_Put.f; rw [if_pos hr]
    have e2 : isa_Right.f x0.f0 x0.f1 x0.f2 x0.f3 x0.f4 = some true := by unfold isa_Right.f; rw [hr]
    have e3 : isa_Read.f ⟨(isaText x0.f0 x0.f1 x0.f2 x0.f3 x0.f4).toArray⟩ = some (x0.f0, x0.f1, x0.f2, x0.f3, x0.f4, true) := by
      unfold isa_Read.f
      rw [isaReadF_show hr (by unfold isaText; rw [if_pos hr])]
    refine Ev.val e1 (Ev.val (takePut _ _ _ _ _ hr) (Ev.val (show_text _ _ _ _ _) (Ev.val e3 (Ev.val e2 ?_))))
    refine Ev.neg (by simp) (Ev.pos rfl (Ev.neg (by simp) (Ev.pos rfl (Ev.neg (by simp) ?_))))
    exact ib_j0 hx
  | false =>
    have e1 : isa_Put.f x0.f0 x0.f1 x0.f2 x0.f3 x0.f4 = some (0, 26) := by unfold isa_Put.f; rw [if_neg (by rw [hr]; decide)]
    have e2 : isa_Right.f x0.f0 x0.f1 x0.f2 x0.f3 x0.f4 = some false := by unfold isa_Right.f; rw [hr]
    obtain ⟨t, ht⟩ : ∃ t, isa_Take.f 0 = some t := by
      rcases ib_take (x := 0) (by omega) with h | ⟨_, _, _, _, _, h, _⟩
      · exact ⟨_, h⟩
      · exact ⟨_, h⟩
    obtain ⟨r, hrd⟩ := ib_Read ⟨(isaText x0.f0 x0.f1 x0.f2 x0.f3 x0.f4).toArray⟩
    refine Ev.val e1 (Ev.val ht (Ev.val (show_text _ _ _ _ _) (Ev.val hrd (Ev.val e2 ?_))))
    refine Ev.neg (by decide) (Ev.neg (by decide) ?_)
    exact ib_j0 hx
end Go.Proofs.YtcdeekfgdmckmaaDoor.Q
