
/- What a reading of an argument says of the values that the printed functions are told over: one lemma a kind. -/
import Derived.Test.YtcdeekfgdmckmaaDoorQx0
import Derived.ChangeArms
import Derived.DataReads
import Derived.Deep.Slices
import Derived.WideShapes
import Derived.OpenShut
namespace Go.Proofs.YtcdeekfgdmckmaaDoor.Q
open Go.RowKit Go.Proofs.YtcdeekfgdmckmaaDoorW.PrintWords Go.Proofs.YtcdeekfgdmckmaaDoorW.PrintLast Go.Proofs.YtcdeekfgdmckmaaDoorW.PrintMore
attribute [local go_sem] max2_int min2_int max_two min_two max_three min_three max_four min_four   -- for this text's walks alone
set_option linter.unusedVariables false
set_option linter.unusedSimpArgs false

def RdAt (t : Nat) {α : Type} (d : Kd α) (D : (H : Type) → α → DataW H → Prop) (fuel : Nat) : Prop :=
  ∀ (H : Type) (enc : TypeId × Value → H) (W : World) (sp : Nat → Bool) (cs : List Value) (y : DataW H × List MemPlace),
    DataW.trod enc Tryd.prog W 0 sp true fuel t cs = some y → ∃ x : α, d.K W x cs ∧ D H x y.1
def Dint (k : IntKind) (H : Type) (n : Int) (y : DataW H) : Prop := y = .lit (.int k n) ∧ (Lit.int k n).wf = true
theorem rd_int {t : Nat} {k : IntKind} (ht : Tryd.prog.underlying t = some (.int k)) (fuel : Nat) : RdAt t (Kd.int k) (Dint k) fuel := by
  intro H enc W sp cs y h
  obtain ⟨n, rfl, rfl, hw⟩ := DataW.trod_int ht h
  exact ⟨n, rfl, rfl, hw⟩
theorem cut_at (cs : List Value) (k s m : Nat) (h : k + s = m) : cs.drop k = (cs.drop k).take s ++ cs.drop m := by
  subst h
  rw [← List.drop_drop, List.take_append_drop]
theorem cut_end (cs : List Value) (k s : Nat) (h : cs.length = k + s) : cs.drop k = (cs.drop k).take s := by
  rw [List.take_of_length_le]
  simp [h]
section
open Go.WideShapes
variable {H : Type} {enc : TypeId × Value → H} {W : World} {sp : Nat → Bool} {base : Nat} {v : Value} {y : DataW H} {p : List MemPlace}
set_option maxRecDepth 100000 in
theorem arg_int {t : Nat} {k : IntKind} (ht : Tryd.prog.underlying t = some (.int k)) (hv : Value.okWide Tryd.prog W .any base t v) (h : DataW.Trod enc Tryd.prog W 0 sp true t v y p) : ∃ a, v = .int k a ∧ Dint k H a y := by
  obtain ⟨n, rfl⟩ := okWide_int ht hv
  obtain ⟨fuel, hf⟩ := h
  obtain ⟨x, hK, hD⟩ := rd_int ht fuel H enc W sp _ _ hf
  have e : [Value.int k n] = [Value.int k x] := hK
  obtain rfl : n = x := by injection e with e _; injection e
  exact ⟨_, rfl, hD⟩
set_option maxRecDepth 100000 in
set_option maxRecDepth 100000 in
set_option maxRecDepth 100000 in
set_option maxRecDepth 100000 in
theorem arg_struct {t : Nat} {fs : Array Field} {α : Type} {d : Kd α} {D : (H : Type) → α → DataW H → Prop} (ht : Tryd.prog.underlying t = some (.struct fs)) (hr : ∀ fuel, RdAt t d D fuel) (hv : Value.okWide Tryd.prog W .any base t v) (h : DataW.Trod enc Tryd.prog W 0 sp true t v y p) :
    ∃ cs x, v = .agg cs ∧ d.K W x cs.toList ∧ D H x y := by
  obtain ⟨cs, rfl, _⟩ := okWide_struct ht hv
  obtain ⟨fuel, hf⟩ := h
  obtain ⟨x, hK, hD⟩ := hr fuel H enc W sp _ _ hf
  exact ⟨cs, x, rfl, hK, hD⟩
set_option maxRecDepth 100000 in
theorem arr_of_toList {cs : Array Value} {l : List Value} (h : cs.toList = l) : cs = l.toArray := by subst h; rfl
end
end Go.Proofs.YtcdeekfgdmckmaaDoor.Q
