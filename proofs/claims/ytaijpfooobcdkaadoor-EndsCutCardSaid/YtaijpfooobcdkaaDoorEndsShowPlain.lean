
/- Both texts of an end are one; the examples come out. -/
import Derived.Test.YtaijpfooobcdkaaDoorQx0
import Derived.Test.YtaijpfooobcdkaaDoorQx3
import Derived.Test.YtaijpfooobcdkaaDoorQx4
import Derived.Test.YtaijpfooobcdkaaDoorQx5
import Derived.Test.YtaijpfooobcdkaaDoorEndsPlain
import Derived.Test.YtaijpfooobcdkaaDoorEndsW
import Derived.Test.YtaijpfooobcdkaaDoorHendsShow
import Derived.Test.YtaijpfooobcdkaaDoorReads
import Derived.Test.YtaijpfooobcdkaaDoorShowPlain
import Derived.Test.YtaijpfooobcdkaaDoorRd
namespace Go.Proofs.YtaijpfooobcdkaaDoor.Q
open Go.RowKit Go.Proofs.YtaijpfooobcdkaaDoorW.PrintWords Go.Proofs.YtaijpfooobcdkaaDoorW.PrintLast Go.Proofs.YtaijpfooobcdkaaDoorW.PrintMore
attribute [local go_sem] max2_int min2_int max_two min_two max_three min_three max_four min_four   -- for this text's walks alone
set_option linter.unusedVariables false
set_option linter.unusedSimpArgs false

theorem w31_i64 {x : Int} (h : W31 x = x) : I64 x := by unfold W31 at h; exact ⟨by omega, by omega⟩
theorem right_facts {a n : Int} {l : List Int} {s : Int} (h : eRight a n l s = true) : 1 ≤ a ∧ a ≤ 6 ∧ (∀ x ∈ l, I64 x) := by
  unfold eRight at h
  have := of_decide_eq_true h
  exact ⟨this.1, this.2.1, fun x hx => w31_i64 (this.2.2.2.2.2 x hx)⟩
def eShow (a n : Int) (l : List Int) (s : Int) : ByteArray := if eRight a n l s = true then ⟨(endHead a n ++ endTail l).toArray⟩ else ⟨#[]⟩
theorem show_ev (a n : Int) (l : List Int) (s : Int) (hl : l.length ≤ 300) (hn : I64 n) : Ev (fun k => ends_Show.f k a n l s) (eShow a n l s) := by
  unfold ends_Show.f eShow
  refine Ev.bind (right_ev a n l s (show l.length ≤ _ by omega)) ?_
  cases h : eRight a n l s with
  | false => simpa using Ev.now _
  | true =>
    obtain ⟨h1, h2, h3⟩ := right_facts h
    simp only [if_true]
    rw [if_pos ⟨by omega, h1, h2, hn, h3⟩]
    exact Ev.now _
theorem knows_ev : Ev (fun k => camletlaw02_knows.f k) true := by
  unfold camletlaw02_knows.f
  simp only [Option.bind_some]
  have b2 : (7 : Int) = 7 := rfl
  have r1 : eRight 2 2 [7, 8] 0 = true := by decide +kernel
  refine Ev.bind (show_ev 2 2 [7, 8] 0 (by decide) ⟨by decide, by decide⟩) ?_
  have e : (eShow 2 2 [7, 8] 0).toList = ([114, 97, 105, 115, 101, 32, 50, 58, 32, 55, 32, 56] : List UInt8) := by
    unfold eShow
    rw [if_pos r1]
    have i2 : Lib.itoa 2 = [50] := by simp [Lib.itoa, Lib.decDigits]
    have i7 : Lib.itoa 7 = [55] := by simp [Lib.itoa, Lib.decDigits]
    have i8 : Lib.itoa 8 = [56] := by simp [Lib.itoa, Lib.decDigits]
    rw [show endHead 2 2 ++ endTail [7, 8] = [114, 97, 105, 115, 101, 32, 50, 58, 32, 55, 32, 56] by simp [endHead, endTail, endWord, i2, i7, i8]]
    decide +kernel
  refine Ev.ifp e ?_
  refine Ev.bind (right_ev 2 2 [7, 8] 0 (by decide)) ?_
  rw [r1]
  refine Ev.ifp rfl ?_
  refine Ev.bind (agree_ev 3 0 [7] 0 2 2 [7, 8] 0 (by decide) (by decide)) ?_
  rw [show eAgree 3 0 [7] 0 2 2 [7, 8] 0 = true by decide +kernel]
  refine Ev.ifp rfl ?_
  refine Ev.bind (agree_ev 1 0 [7, 8] 0 2 2 [7, 8] 0 (by decide) (by decide)) ?_
  rw [show eAgree 1 0 [7, 8] 0 2 2 [7, 8] 0 = false by decide +kernel]
  exact Ev.now _
end Go.Proofs.YtaijpfooobcdkaaDoor.Q
