/- gc: room, and the change of a word. By wip/gen/gc_collect.py. -/
import Derived.Test.YtnkbfbhhioemoaaQx0
import Derived.Test.YtnkbfbhhioemoaaAw
import Derived.Test.YtnkbfbhhioemoaaAwFrame
import Derived.Test.YtnkbfbhhioemoaaAwMap
import Derived.Test.YtnkbfbhhioemoaaAwSl
import Derived.Test.YtnkbfbhhioemoaaHgcReachW
--@needs XAw
--@needs XAwMap
--@needs XAwSl
--@needs XAwFrame
--@needs XHgcReachW
--@uses (camlet/gc.half).leads
--@uses (camlet/gc.half).block
import Derived.LoopTactic
import Derived.Lib.Hide
import Derived.Deep.QuietTactic
import Derived.BigQuiet
import Derived.IntWalk
import Derived.Outline
namespace Go.Proofs.Ytnkbfbhhioemoaa.Q
open Go.RowKit Go.Proofs.YtnkbfbhhioemoaaW.PrintWords Go.Proofs.YtnkbfbhhioemoaaW.PrintLast Go.Proofs.YtnkbfbhhioemoaaW.PrintMore
attribute [local go_sem] max2_int min2_int max_two min_two max_three min_three max_four min_four   -- for this text's walks alone
set_option linter.unusedVariables false
set_option linter.unusedSimpArgs false


/-- how many words may be laid from a number on -/
def gRoom (len F T there : Int) : Int := if len - there < T - F then len - there else T - F
def gRoomOk (len F T there : Int) : Bool := decide (gRoom len F T there = 0) || (decide (T ≤ there) || decide (there + gRoom len F T there ≤ F))
set_option maxHeartbeats 4000000 in
set_option maxRecDepth 100000 in
theorem gc_room.calls {W : World} {gc : Nat} {A0 : Option Addr} {n c0 : Nat} {F T there : Int} (hn : n ≤ 1000000) (hF : 0 ≤ F) (hFT : F ≤ T) (hT : T ≤ n)
    (k0 : W.cell? ⟨gc, 0, none⟩ = some (.slice A0 n c0)) (k1 : W.cell? ⟨gc, 1, none⟩ = some (.int .i64 F)) (k2 : W.cell? ⟨gc, 2, none⟩ = some (.int .i64 T)) :
    Calls Try.prog 21 #[.pointer (some ⟨gc, 0, none⟩), .int .i64 there] W fun e W' => e = .returned (.tuple #[.int .i64 (if there < 0 ∨ (n : Int) < there then 0 else gRoom n F T there), .bool (if there < 0 ∨ (n : Int) < there then false else gRoomOk n F T there)]) ∧ Drawn0 W W' := by
  by_cases h1 : there < 0
  · rw [if_pos (.inl h1), if_pos (.inl h1)]
    have c1 := decide_eq_true h1
    go_enter Try.func21, Try.ntmps21
    go_wp2
    go_ret2
    exact ⟨rfl, Drawn0.refl _⟩
  have c1 := decide_eq_false h1
  by_cases h2 : (n : Int) < there
  · rw [if_pos (.inr h2), if_pos (.inr h2)]
    have c2 := decide_eq_true h2
    go_enter Try.func21, Try.ntmps21
    go_wp2
    go_ret2
    exact ⟨rfl, Drawn0.refl _⟩
  have c2 := decide_eq_false h2
  rw [if_neg (by omega), if_neg (by omega)]
  unfold gRoomOk
  have s1 : IntKind.i64.wrap (T - F) = T - F := IntWalk.i64_in _ (by omega)
  have s2 : IntKind.i64.wrap ((n : Int) - there) = (n : Int) - there := IntWalk.i64_in _ (by omega)
  obtain ⟨r, hrr⟩ : ∃ r, gRoom n F T there = r := ⟨_, rfl⟩
  rw [hrr]
  have hr : (if (n : Int) - there < T - F then (n : Int) - there else T - F) = r := hrr
  have hrb : 0 ≤ r ∧ r ≤ 1000000 := by rw [← hrr]; unfold gRoom; split <;> omega
  have s3 : IntKind.i64.wrap (there + r) = there + r := IntWalk.i64_in _ (by omega)
  clear hrr
  by_cases h3 : r = 0
  · subst h3
    have d3 : decide ((0 : Int) = 0) = true := rfl
    rw [d3]
    go_enter Try.func21, Try.ntmps21
    go_wp2
    go_quiet (fail)
    go_wp2
    go_quiet (fail)
    go_wp2
    go_ret2
    exact ⟨rfl, by repeat (first | exact Drawn0.refl _ | apply Drawn0.step)⟩
  have c3 := beq_eq_false_iff_ne.mpr h3
  have d3 : decide (r = 0) = false := decide_eq_false h3
  rw [d3]
  by_cases h4 : T ≤ there
  · have c4 := decide_eq_true h4
    rw [c4]
    go_enter Try.func21, Try.ntmps21
    go_wp2
    go_quiet (fail)
    go_wp2
    go_quiet (fail)
    go_wp2
    go_ret2
    exact ⟨rfl, by repeat (first | exact Drawn0.refl _ | apply Drawn0.step)⟩
  have c4 := decide_eq_false h4
  rw [c4]
  obtain ⟨b, hb⟩ : ∃ b, decide (there + r ≤ F) = b := ⟨_, rfl⟩
  rw [hb]
  go_enter Try.func21, Try.ntmps21
  go_wp2
  go_quiet (fail)
  go_wp2
  go_quiet (fail)
  go_wp2
  go_ret2
  exact ⟨rfl, by repeat (first | exact Drawn0.refl _ | apply Drawn0.step)⟩
end Go.Proofs.Ytnkbfbhhioemoaa.Q
