/- Several texts in one: The reference's text of an instruction is isa.Show's. The reference's reading of a text is isa.Read's. -/
import Derived.Test.YtcdeekfgdmckmaaDoorQx0
import Derived.Test.YtcdeekfgdmckmaaDoorQx3
import Derived.Test.YtcdeekfgdmckmaaDoorQx5
import Derived.Test.YtcdeekfgdmckmaaDoorQx7
import Derived.Test.YtcdeekfgdmckmaaDoorEvW
import Derived.Test.YtcdeekfgdmckmaaDoorHisaForms
import Derived.Test.YtcdeekfgdmckmaaDoorHisaOf
import Derived.Test.YtcdeekfgdmckmaaDoorHisaRd
import Derived.Test.YtcdeekfgdmckmaaDoorHisaRight
import Derived.Test.YtcdeekfgdmckmaaDoorHisaShow
import Derived.Test.YtcdeekfgdmckmaaDoorHisaThings
import Derived.Test.YtcdeekfgdmckmaaDoorIsaRd
import Derived.Test.YtcdeekfgdmckmaaDoorIsaReadP
import Derived.Test.YtcdeekfgdmckmaaDoorIsaRef
import Derived.Test.YtcdeekfgdmckmaaDoorReadPlain
import Derived.Test.YtcdeekfgdmckmaaDoorShowPlain
import Derived.Lib.ItoaLen
import Derived.Test.YtcdeekfgdmckmaaDoorQx8
import Derived.Test.YtcdeekfgdmckmaaDoorQx9
import Derived.Test.YtcdeekfgdmckmaaDoorHnumRead
--@needs XIsaReadP
--@needs XIsaRef
--@needs XShowPlain
--@needs XEvW
--@needs XHisaRead
namespace Go.Proofs.YtcdeekfgdmckmaaDoor.Q
open Go.RowKit Go.Proofs.YtcdeekfgdmckmaaDoorW.PrintWords Go.Proofs.YtcdeekfgdmckmaaDoorW.PrintLast Go.Proofs.YtcdeekfgdmckmaaDoorW.PrintMore
attribute [local go_sem] max2_int min2_int max_two min_two max_three min_three max_four min_four   -- for this text's walks alone
set_option linter.unusedVariables false
set_option linter.unusedSimpArgs false

/-- what an instruction has, by letters -/
def refHas (k N : Int) : ByteArray := (camletref39_Has.f 10 k 0 0 0 N).getD ⟨#[]⟩
theorem has_j3 (m : Nat) (N : Int) (b : Bool) : ∃ r, camletref39_Has.j3 (m + 1) N b = some r ∧ r.size ≤ 3 := by
  rw [camletref39_Has.j3]
  repeat' split
  all_goals exact ⟨_, rfl, by decide⟩
theorem has_j2 (m : Nat) (a : Int) (b : Bool) (k D A B N : Int) : ∃ r, camletref39_Has.j2 (m + 2) a b k D A B N = some r ∧ r.size ≤ 3 := by
  rw [camletref39_Has.j2]
  repeat' split
  all_goals first | exact ⟨_, rfl, by decide⟩ | exact has_j3 _ _ _
theorem has_j1 (m : Nat) (a : Int) (b : Bool) (k D A B N : Int) : ∃ r, camletref39_Has.j1 (m + 3) a b k D A B N = some r ∧ r.size ≤ 3 := by
  rw [camletref39_Has.j1]
  repeat' split
  all_goals first | exact ⟨_, rfl, by decide⟩ | exact has_j2 _ _ _ _ _ _ _ _
theorem has_j0 (m : Nat) (a : Int) (b : Bool) (k D A B N : Int) : ∃ r, camletref39_Has.j0 (m + 4) a b k D A B N = some r ∧ r.size ≤ 3 := by
  rw [camletref39_Has.j0]
  repeat' split
  all_goals first | exact ⟨_, rfl, by decide⟩ | exact has_j1 _ _ _ _ _ _ _ _
theorem has_f (k D A B N : Int) : ∃ r, camletref39_Has.f 10 k D A B N = some r ∧ r.size ≤ 3 := by
  unfold camletref39_Has.f
  repeat' split
  all_goals exact has_j0 6 _ _ _ _ _ _ _
def fieldVal (D A B N : Int) (c : UInt8) : Int := if c = 68 then D else if c = 65 then A else if c = 66 then B else N
theorem has_things {k D A B N : Int} (hr : isaRight k D A B N = true) : (refHas k N).data.toList.map (fieldVal D A B N) = isaThings k D A B N := by
  obtain ⟨kk, rfl, hk⟩ := right_kind hr
  by_cases h24 : kk = 24
  · subst h24
    have hN : N = 1 ∨ N = 2 ∨ N = 3 ∨ N = 4 := by
      obtain ⟨_, h1, h2, _⟩ := right_parts hr
      have hlh : (isaOf ((24 : Nat) : Int) N).2.2 = (1, 4) := by unfold isaOf; split <;> rfl
      rw [hlh] at h1 h2
      dsimp only at h1 h2
      omega
    rcases hN with rfl | rfl | rfl | rfl <;> rfl
  · have h : kk = 0 ∨ kk = 1 ∨ kk = 2 ∨ kk = 3 ∨ kk = 4 ∨ kk = 5 ∨ kk = 6 ∨ kk = 7 ∨ kk = 8 ∨ kk = 9 ∨ kk = 10 ∨ kk = 11 ∨ kk = 12 ∨ kk = 13 ∨ kk = 14 ∨ kk = 15 ∨ kk = 16 ∨ kk = 17 ∨ kk = 18 ∨ kk = 19 ∨ kk = 20 ∨ kk = 21 ∨ kk = 22 ∨ kk = 23 := by omega
    rcases h with rfl | rfl | rfl | rfl | rfl | rfl | rfl | rfl | rfl | rfl | rfl | rfl | rfl | rfl | rfl | rfl | rfl | rfl | rfl | rfl | rfl | rfl | rfl | rfl <;> rfl
theorem refHas_size (k N : Int) : (refHas k N).size ≤ 3 := by
  obtain ⟨b, hb, hs⟩ := has_f k 0 0 0 N
  unfold refHas
  rw [hb]; exact hs
end Go.Proofs.YtcdeekfgdmckmaaDoor.Q

--@needs XIsaTextRef
--@needs XIsaReadP
--@needs XHisaRead
--@needs XEvW
namespace Go.Proofs.YtcdeekfgdmckmaaDoor.Q
open Go.RowKit Go.Proofs.YtcdeekfgdmckmaaDoorW.PrintWords Go.Proofs.YtcdeekfgdmckmaaDoorW.PrintLast Go.Proofs.YtcdeekfgdmckmaaDoorW.PrintMore
attribute [local go_sem] max2_int min2_int max_two min_two max_three min_three max_four min_four   -- for this text's walks alone
set_option linter.unusedVariables false
set_option linter.unusedSimpArgs false

theorem dec_len : ∀ (n u : Nat), 1 ≤ n → u < 10 ^ n → (Lib.decDigits u).length ≤ n
  | 0, u, h, _ => by omega
  | n + 1, u, _, h => by
    by_cases h10 : u < 10
    · rw [Lib.decDigits_one h10]; simp
    · rw [decDigits_step u h10, List.length_append]
      have hn : 1 ≤ n := by
        cases n with
        | zero => simp at h; omega
        | succ _ => omega
      have := dec_len n (u / 10) hn (by rw [Nat.pow_succ] at h; omega)
      simp; omega
theorem itoa_len8 {x : Int} (h : -1048576 ≤ x ∧ x ≤ 1048576) : (Lib.itoa x).length ≤ 8 := by
  rcases itoa_form x with ⟨u, rfl, e⟩ | ⟨u, _, rfl, e⟩
  · rw [e]
    have := dec_len 7 u (by omega) (by have : (10 : Nat) ^ 7 = 10000000 := rfl; omega)
    omega
  · rw [e, List.length_cons]
    have := dec_len 7 u (by omega) (by have : (10 : Nat) ^ 7 = 10000000 := rfl; omega)
    omega
theorem things_len {k D A B N : Int} (hr : isaRight k D A B N = true) : (isaThings k D A B N).length ≤ 3 := by
  rw [← has_things hr, List.length_map, data_len]
  exact refHas_size k N
theorem words_len8 : ∀ (l : List Int), (∀ x ∈ l, -1048576 ≤ x ∧ x ≤ 1048575) → (showWords l).length ≤ 9 * l.length
  | [], _ => by simp [showWords]
  | x :: l, h => by
    have h1 := itoa_len8 (x := x) (by have := h x (by simp); omega)
    have h2 := words_len8 l (fun y hy => h y (by simp [hy]))
    simp only [showWords, List.flatMap_cons, List.length_append, List.length_cons] at *
    omega
theorem show_len {k D A B N : Int} (hr : isaRight k D A B N = true) : (isaShow k D A B N).length ≤ 60 := by
  unfold isaShow
  have h1 := words_len8 _ (things_span hr).1
  have h2 := things_len hr
  have h3 := (of_span k N).2.2
  rw [List.length_append, data_len]
  omega
/-- what is shown is read -/
theorem isaReadF_show {s : ByteArray} {k D A B N : Int} (hr : isaRight k D A B N = true) (hs : isaShow k D A B N = s.data.toList) : isaReadF s = some (k, D, A, B, N) := by
  unfold isaReadF
  have hl := show_len hr
  rw [hs, data_len] at hl
  have ha : s.data.toList.all (fun c => decide (c.toNat < 128)) = true := by
    rw [List.all_eq_true]
    intro c hc
    have := text_ascii k D A B N c (by unfold isaText; rw [if_pos hr, hs]; exact hc)
    simpa using this
  rw [if_neg (by omega), if_pos ha, ← hs]
  exact isaReadGo_show hr
/-! ### the reference's words -/
/-! ### the reference's numbers -/
/-! ### the reference's loops -/
end Go.Proofs.YtcdeekfgdmckmaaDoor.Q
