/- What a reading of an argument says of the values that the printed functions are told over: one lemma a kind. -/
import Derived.Test.YtaddjeegplfjiaaQx0
import Derived.ChangeArms
import Derived.DataReads
import Derived.Deep.Slices
import Derived.WideShapes
import Derived.OpenShut
namespace Go.Proofs.Ytaddjeegplfjiaa.Q
open Go.RowKit Go.Proofs.YtaddjeegplfjiaaW.PrintWords Go.Proofs.YtaddjeegplfjiaaW.PrintLast Go.Proofs.YtaddjeegplfjiaaW.PrintMore
attribute [local go_sem] max2_int min2_int max_two min_two max_three min_three max_four min_four   -- for this text's walks alone
set_option linter.unusedVariables false
set_option linter.unusedSimpArgs false

def RdAt (t : Nat) {α : Type} (d : Kd α) (D : (H : Type) → α → DataW H → Prop) (fuel : Nat) : Prop :=
  ∀ (H : Type) (enc : TypeId × Value → H) (W : World) (sp : Nat → Bool) (cs : List Value) (y : DataW H × List MemPlace),
    DataW.trod enc Try.prog W 0 sp true fuel t cs = some y → ∃ x : α, d.K W x cs ∧ D H x y.1
def Dint (k : IntKind) (H : Type) (n : Int) (y : DataW H) : Prop := y = .lit (.int k n) ∧ (Lit.int k n).wf = true
def Dbool (H : Type) (b : Bool) (y : DataW H) : Prop := y = .lit (.bool b)
def Dstr (H : Type) (s : ByteArray) (y : DataW H) : Prop := y = .lit (.string s.data.toList) ∧ s.size ≤ 9223372036854775807
def Dsl {α : Type} (D : (H : Type) → α → DataW H → Prop) (H : Type) (l : List α) (y : DataW H) : Prop :=
  ∃ es sp : List (DataW H), (y = .slice es sp ∨ (y = .nil ∧ es = [] ∧ sp = [])) ∧ es.length = l.length ∧ l.length ≤ 9223372036854775807 ∧ ∀ (i : Nat) x e, l[i]? = some x → es[i]? = some e → D H x e
theorem rd_int {t : Nat} {k : IntKind} (ht : Try.prog.underlying t = some (.int k)) (fuel : Nat) : RdAt t (Kd.int k) (Dint k) fuel := by
  intro H enc W sp cs y h
  obtain ⟨n, rfl, rfl, hw⟩ := DataW.trod_int ht h
  exact ⟨n, rfl, rfl, hw⟩
theorem rd_bool {t : Nat} (ht : Try.prog.underlying t = some .bool) (fuel : Nat) : RdAt t Kd.bool Dbool fuel := by
  intro H enc W sp cs y h
  obtain ⟨n, rfl, rfl⟩ := DataW.trod_bool ht h
  exact ⟨n, rfl, rfl⟩
theorem rd_str {t : Nat} (ht : Try.prog.underlying t = some .string) (fuel : Nat) : RdAt t Kd.string Dstr fuel := by
  intro H enc W sp cs y h
  obtain ⟨s, rfl, rfl, hs⟩ := DataW.trod_string ht h
  exact ⟨s, rfl, rfl, hs⟩
theorem rd_slice {t e : Nat} {α : Type} [Inhabited α] {d : Kd α} {D : (H : Type) → α → DataW H → Prop} {fuel : Nat} (ht : Try.prog.underlying t = some (.slice e)) (hc : Try.prog.cellsOf e = d.sz)
    (hd : ∀ n, n < fuel → RdAt e d D n) : RdAt t (Kd.slice e d) (Dsl D) fuel := by
  intro H enc W sp cs y h
  rcases DataW.trod_slice ht h with ⟨rfl, rfl⟩ | ⟨a, len, cap, elems, rest, n, rfl, rfl, rfl, hb, hl, hm, hlen, hel, hsp, hns⟩
  · exact ⟨[], ⟨none, 0, rfl, Nat.le_refl _, rfl, by simp, fun h => absurd h (by simp)⟩, [], [], .inr ⟨rfl, rfl, rfl⟩, rfl, by simp, fun i x e h => by simp at h⟩
  · have hx : ∀ i, i < len → ∃ x : α, ∃ cs', W.cells? 0 (a.add (i * d.sz)) d.sz = some cs' ∧ d.K W x cs' ∧ ∃ y, elems[i]? = some y ∧ D H x y.1 := by
      intro i hi
      have h1 := hel i hi
      rw [hc] at h1
      have h2 : elems[i]? = some (elems[i]'(by omega)) := List.getElem?_eq_getElem (by omega)
      rw [h2] at h1
      obtain ⟨cs', h3, h4⟩ := Option.bind_eq_some_iff.mp h1
      obtain ⟨x, hk, hD⟩ := hd n (Nat.lt_succ_self n) H enc W sp cs' _ h4
      exact ⟨x, cs', h3, hk, _, h2, hD⟩
    obtain ⟨f, hf⟩ := Deep.choose_lt hx
    have hM : len ≤ 9223372036854775807 := by unfold maxLen at hm; omega
    refine ⟨(List.range len).map f, ⟨some a, cap, by simp, by simpa using hl, by simp, by simpa using hM, fun _ => ⟨a, rfl, ?_⟩⟩, elems.map (·.1), rest.map (·.1), .inl rfl, by simp [hlen], by simpa using hM, ?_⟩
    · intro j p hj
      have hjl : j < len := by
        have := (List.getElem?_eq_some_iff.mp hj).1
        simpa using this
      have hp : p = f j := by
        have : ((List.range len).map f)[j]? = some (f j) := by simp [hjl]
        rw [this] at hj
        exact (Option.some.inj hj).symm
      subst hp
      obtain ⟨cs', h1, hk, _⟩ := hf j hjl
      obtain ⟨_, hcl, hcell⟩ := World.cells?_some h1
      refine ⟨cs', hcl, hk, fun i u hu => ?_⟩
      have hi : i < d.sz := by
        have := (List.getElem?_eq_some_iff.mp hu).1
        omega
      rw [← hu, ← hcell i hi, Addr.add_add]
    · intro i x e hi he
      have hil : i < len := by
        have := (List.getElem?_eq_some_iff.mp hi).1
        simpa using this
      have hp : x = f i := by
        have : ((List.range len).map f)[i]? = some (f i) := by simp [hil]
        rw [this] at hi
        exact (Option.some.inj hi).symm
      subst hp
      obtain ⟨cs', _, _, y, hy, hD⟩ := hf i hil
      rw [List.getElem?_map, hy] at he
      obtain rfl := Option.some.inj he
      exact hD
theorem cut_at (cs : List Value) (k s m : Nat) (h : k + s = m) : cs.drop k = (cs.drop k).take s ++ cs.drop m := by
  subst h
  rw [← List.drop_drop, List.take_append_drop]
theorem cut_end (cs : List Value) (k s : Nat) (h : cs.length = k + s) : cs.drop k = (cs.drop k).take s := by
  rw [List.take_of_length_le]
  simp [h]
section
open Go.WideShapes
variable {H : Type} {enc : TypeId × Value → H} {W : World} {sp : Nat → Bool} {base : Nat} {v : Value} {y : DataW H} {p : List MemPlace}
set_option maxRecDepth 100000 in
theorem arg_int {t : Nat} {k : IntKind} (ht : Try.prog.underlying t = some (.int k)) (hv : Value.okWide Try.prog W .any base t v) (h : DataW.Trod enc Try.prog W 0 sp true t v y p) : ∃ a, v = .int k a ∧ Dint k H a y := by
  obtain ⟨n, rfl⟩ := okWide_int ht hv
  obtain ⟨fuel, hf⟩ := h
  obtain ⟨x, hK, hD⟩ := rd_int ht fuel H enc W sp _ _ hf
  have e : [Value.int k n] = [Value.int k x] := hK
  obtain rfl : n = x := by injection e with e _; injection e
  exact ⟨_, rfl, hD⟩
set_option maxRecDepth 100000 in
theorem arg_bool {t : Nat} (ht : Try.prog.underlying t = some .bool) (hv : Value.okWide Try.prog W .any base t v) (h : DataW.Trod enc Try.prog W 0 sp true t v y p) : ∃ a, v = .bool a ∧ Dbool H a y := by
  obtain ⟨n, rfl⟩ := okWide_bool ht hv
  obtain ⟨fuel, hf⟩ := h
  obtain ⟨x, hK, hD⟩ := rd_bool ht fuel H enc W sp _ _ hf
  have e : [Value.bool n] = [Value.bool x] := hK
  obtain rfl : n = x := by injection e with e _; injection e
  exact ⟨_, rfl, hD⟩
set_option maxRecDepth 100000 in
theorem arg_str {t : Nat} (ht : Try.prog.underlying t = some .string) (hv : Value.okWide Try.prog W .any base t v) (h : DataW.Trod enc Try.prog W 0 sp true t v y p) : ∃ a, v = .string a ∧ Dstr H a y := by
  obtain ⟨n, rfl⟩ := okWide_string ht hv
  obtain ⟨fuel, hf⟩ := h
  obtain ⟨x, hK, hD⟩ := rd_str ht fuel H enc W sp _ _ hf
  have e : [Value.string n] = [Value.string x] := hK
  obtain rfl : n = x := by injection e with e _; injection e
  exact ⟨_, rfl, hD⟩
set_option maxRecDepth 100000 in
theorem arg_slice {t e : Nat} {α : Type} {d : Kd α} {D : (H : Type) → List α → DataW H → Prop} (ht : Try.prog.underlying t = some (.slice e)) (hr : ∀ fuel, RdAt t (Kd.slice e d) D fuel) (hv : Value.okWide Try.prog W .any base t v) (h : DataW.Trod enc Try.prog W 0 sp true t v y p) :
    ∃ A c l, v = .slice A l.length c ∧ l.length ≤ c ∧ Kd.C d W A l.length l ∧ D H l y := by
  obtain ⟨a, len, cap, rfl⟩ := okWide_slice ht hv
  obtain ⟨fuel, hf⟩ := h
  obtain ⟨l, ⟨A, c, hcs, hl, hC⟩, hD⟩ := hr fuel H enc W sp _ _ hf
  have e : [Value.slice a len cap] = [Value.slice A l.length c] := hcs
  injection e with e _
  injection e with e1 e2 e3
  subst e1 e2 e3
  exact ⟨_, _, l, rfl, hl, hC, hD⟩
set_option maxRecDepth 100000 in
theorem arg_struct {t : Nat} {fs : Array Field} {α : Type} {d : Kd α} {D : (H : Type) → α → DataW H → Prop} (ht : Try.prog.underlying t = some (.struct fs)) (hr : ∀ fuel, RdAt t d D fuel) (hv : Value.okWide Try.prog W .any base t v) (h : DataW.Trod enc Try.prog W 0 sp true t v y p) :
    ∃ cs x, v = .agg cs ∧ d.K W x cs.toList ∧ D H x y := by
  obtain ⟨cs, rfl, _⟩ := okWide_struct ht hv
  obtain ⟨fuel, hf⟩ := h
  obtain ⟨x, hK, hD⟩ := hr fuel H enc W sp _ _ hf
  exact ⟨cs, x, rfl, hK, hD⟩
set_option maxRecDepth 100000 in
theorem arg_array {t n e : Nat} {α : Type} {d : Kd α} {D : (H : Type) → α → DataW H → Prop} (ht : Try.prog.underlying t = some (.array n e)) (hr : ∀ fuel, RdAt t d D fuel) (hv : Value.okWide Try.prog W .any base t v) (h : DataW.Trod enc Try.prog W 0 sp true t v y p) :
    ∃ cs x, v = .agg cs ∧ d.K W x cs.toList ∧ D H x y := by
  have hv2 : ∃ cs, v = .agg cs := by
    simp only [Value.okWide, ht] at hv
    obtain ⟨cs, h1, _⟩ := hv
    exact ⟨cs, h1⟩
  obtain ⟨cs, rfl⟩ := hv2
  obtain ⟨fuel, hf⟩ := h
  obtain ⟨x, hK, hD⟩ := hr fuel H enc W sp _ _ hf
  exact ⟨cs, x, rfl, hK, hD⟩
theorem arr_of_toList {cs : Array Value} {l : List Value} (h : cs.toList = l) : cs = l.toArray := by subst h; rfl
end
theorem RdAt.le {t : Nat} {α : Type} {d : Kd α} {D : (H : Type) → α → DataW H → Prop} (h : ∀ n, RdAt t d D n) (n : Nat) : RdAt t d D n := h n
end Go.Proofs.Ytaddjeegplfjiaa.Q
