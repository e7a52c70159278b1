/- num.Show: the decimal numeral, by the shelf's contract on strconv.Itoa. -/
import Derived.Test.YtaijpfooobcdkaaDoorQx0
import Derived.Test.YtaijpfooobcdkaaDoorLaid
--@needs XLaid
import Derived.Test.YtaijpfooobcdkaaDoorShelf
import Derived.Lib.ItoaLen
namespace Go.Proofs.YtaijpfooobcdkaaDoor.Q
open Go.RowKit Go.Proofs.YtaijpfooobcdkaaDoorW.PrintWords Go.Proofs.YtaijpfooobcdkaaDoorW.PrintLast Go.Proofs.YtaijpfooobcdkaaDoorW.PrintMore
attribute [local go_sem] max2_int min2_int max_two min_two max_three min_three max_four min_four   -- for this text's walks alone
set_option linter.unusedVariables false
set_option linter.unusedSimpArgs false

theorem below_grow_ (w : World) (k : Nat) (os : Array Obj) : Below w.heap.size w (Go.Sort.grow (w.drewN k) os) := by
  refine ⟨rfl, rfl, rfl, ?_, ?_⟩
  · show w.heap.size ≤ (w.heap ++ os).size
    simp
  · intro j hj
    show (w.heap ++ os)[j]? = w.heap[j]?
    rw [Array.getElem?_append_left hj]
def num_Show.f (a0 : Int) : Option (ByteArray) := if -9223372036854775808 ≤ a0 ∧ a0 ≤ 9223372036854775807 then some ⟨(Lib.itoa a0).toArray⟩ else none
set_option maxHeartbeats 2000000 in
set_option maxRecDepth 100000 in
theorem num_Show.calls (a0 : Int) (r : ByteArray) (w : World) (hG : Laid w) (h : num_Show.f a0 = some r) :
    Calls Tryd.prog 22 #[.int .i64 a0] w fun e w' => e = .returned (.string r) ∧ Below w.heap.size w w' := by
  unfold num_Show.f at h
  by_cases hb : -9223372036854775808 ≤ a0 ∧ a0 ≤ 9223372036854775807
  · rw [if_pos hb] at h
    obtain rfl := Option.some.inj h
    have HT := Lib.hid hG.tab
    clear hG
    obtain ⟨h0, h1⟩ := hb
    go_enter Tryd.func22, Tryd.ntmps22
    go_wp2_with (go_at_call 24; refine (Tryd.strconv_Itoa a0 h0 h1 _ HT.out).mono ?_; rintro e w' ⟨rfl, k, os, rfl⟩)
    go_ret
    exact ⟨rfl, below_grow_ _ _ _⟩
  · rw [if_neg hb] at h
    cases h
end Go.Proofs.YtaijpfooobcdkaaDoor.Q
