/- Instructions that are right and unlike have unlike words and unlike texts. -/
import Derived.Test.YtcdeekfgdmckmaaDoorStIsaApart
import Derived.Test.YtcdeekfgdmckmaaDoorIsaInj
namespace Go.Proofs.YtcdeekfgdmckmaaDoor.Q
open Go.RowKit Go.Proofs.YtcdeekfgdmckmaaDoorW.PrintWords Go.Proofs.YtcdeekfgdmckmaaDoorW.PrintLast Go.Proofs.YtcdeekfgdmckmaaDoorW.PrintMore
set_option linter.unusedVariables false
set_option linter.unusedSimpArgs false

theorem isa_knows3 : camletlaw39_knows.f = some true := by kernel_rfl
theorem apart_eq (k D A B N k' D' A' B' N' : Int) : (k == k' && (D == D' && (A == A' && (B == B' && (N == N'))))) = decide (k = k' ∧ D = D' ∧ A = A' ∧ B = B' ∧ N = N') := by
  rw [Bool.eq_iff_iff]
  simp only [Bool.and_eq_true, beq_iff_eq, decide_eq_true_eq]
theorem list_beq {a b : List UInt8} : ((⟨a.toArray⟩ : ByteArray).toList == (⟨b.toArray⟩ : ByteArray).toList) = decide (a = b) := by
  rw [ByteArray.toList_eq, ByteArray.toList_eq, Bool.eq_iff_iff]
  simp
theorem IsaApart.proved : IsaApart.Pure := by
  intro x0 x1 _
  refine ⟨5, ?_⟩
  obtain ⟨k, D, A, B, N⟩ := x0
  obtain ⟨k', D', A', B', N'⟩ := x1
  dsimp only
  have hj : ∀ b, b = true → camletlaw39_IsaApart.j0 5 b k D A B N k' D' A' B' N' = some true := by
    rintro _ rfl
    show (if true = true then ((camletlaw39_knows.f).bind fun t177 => (some t177)) else (none : Option Bool)) = some true
    rw [if_pos rfl, isa_knows3]
    rfl
  have r1 : isa_Right.f k D A B N = some (isaRight k D A B N) := rfl
  have r2 : isa_Right.f k' D' A' B' N' = some (isaRight k' D' A' B' N') := rfl
  unfold camletlaw39_IsaApart.f
  rw [r1, r2]
  simp only [Option.bind_some]
  by_cases h : isaRight k D A B N = true
  · rw [if_pos h]
    by_cases h' : isaRight k' D' A' B' N' = true
    · have p1 : isa_Put.f k D A B N = some (isaPut k D A B N, 0) := if_pos h
      have p2 : isa_Put.f k' D' A' B' N' = some (isaPut k' D' A' B' N', 0) := if_pos h'
      have s1 : isa_Show.f k D A B N = some ⟨(isaShow k D A B N).toArray⟩ := if_pos h
      have s2 : isa_Show.f k' D' A' B' N' = some ⟨(isaShow k' D' A' B' N').toArray⟩ := if_pos h'
      have e1 : decide (k = k' ∧ D = D' ∧ A = A' ∧ B = B' ∧ N = N') = (isaPut k D A B N == isaPut k' D' A' B' N') := by
        rw [Bool.eq_iff_iff]
        simp only [decide_eq_true_eq, beq_iff_eq]
        exact ⟨by rintro ⟨rfl, rfl, rfl, rfl, rfl⟩; rfl, put_inj h h'⟩
      have e2 : decide (k = k' ∧ D = D' ∧ A = A' ∧ B = B' ∧ N = N') = decide (isaShow k D A B N = isaShow k' D' A' B' N') := by
        rw [decide_eq_decide]
        exact ⟨by rintro ⟨rfl, rfl, rfl, rfl, rfl⟩; rfl, show_inj h h'⟩
      rw [h', camletlaw39_IsaApart.j0]
      rw [if_neg (by decide), p1, p2]
      simp only [Option.bind_some]
      rw [apart_eq, e1, beq_self_eq_true, if_pos rfl, ← e1, s1, s2]
      simp only [Option.bind_some]
      rw [list_beq, e2, beq_self_eq_true, if_pos rfl, isa_knows3]
      rfl
    · exact hj _ (by simpa using h')
  · rw [if_neg h]
    exact hj _ rfl
end Go.Proofs.YtcdeekfgdmckmaaDoor.Q
