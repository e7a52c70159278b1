
/- What the two texts of layer 2 come to, as plain functions on lists. -/
import Derived.Test.YtaijpfooobcdkaaDoorQx0
import Derived.Test.YtaijpfooobcdkaaDoorQx1
import Derived.Test.YtaijpfooobcdkaaDoorQx2
import Derived.Test.YtaijpfooobcdkaaDoorQx3
import Derived.Test.YtaijpfooobcdkaaDoorQx4
import Derived.Test.YtaijpfooobcdkaaDoorEndsW
namespace Go.Proofs.YtaijpfooobcdkaaDoor.Q
open Go.RowKit Go.Proofs.YtaijpfooobcdkaaDoorW.PrintWords Go.Proofs.YtaijpfooobcdkaaDoorW.PrintLast Go.Proofs.YtaijpfooobcdkaaDoorW.PrintMore
attribute [local go_sem] max2_int min2_int max_two min_two max_three min_three max_four min_four   -- for this text's walks alone
set_option linter.unusedVariables false
set_option linter.unusedSimpArgs false

def eRight (a n : Int) (l : List Int) (s : Int) : Bool := decide (1 ≤ a ∧ a ≤ 6 ∧ 0 ≤ n ∧ 0 ≤ s ∧ (n = 0 ∨ a = 2) ∧ ∀ x ∈ l, W31 x = x)
def eCut (a : Int) : Bool := decide (a = 3 ∨ a = 5 ∨ a = 6)
def eSame (a n : Int) (l : List Int) (b m : Int) (r : List Int) : Bool := decide (a = b ∧ n = m ∧ l = r)
def eAgree (a n : Int) (l : List Int) (s : Int) (b m : Int) (r : List Int) (t : Int) : Bool :=
  if eRight a n l s = true ∧ eRight b m r t = true then
    (if a = 4 ∨ b = 4 ∨ (eCut a = false ∧ eCut b = false) then eSame a n l b m r else (eCut a && decide (l <+: r)) || (eCut b && decide (r <+: l)))
  else false
abbrev BD (l : List Int) : Prop := l.length ≤ 9223372036854775807
theorem rd_at (l : List Int) (i : Nat) (h : i < l.length) : rd l (i : Int) = l[i] := by unfold rd; simp [h]
theorem wrap_succ {i n : Nat} (h : i < n) (hn : n ≤ 9223372036854775807) : wrap64 ((i : Int) + 1) = ((i + 1 : Nat) : Int) := by unfold wrap64; omega
theorem drop_cons' (l : List Int) (i : Nat) (h : i < l.length) : l.drop i = l[i] :: l.drop (i + 1) := by rw [List.drop_eq_getElem_cons h]
theorem all_drop (l : List Int) (i : Nat) (h : i < l.length) : (∀ x ∈ l.drop i, W31 x = x) ↔ W31 l[i] = l[i] ∧ ∀ x ∈ l.drop (i + 1), W31 x = x := by
  rw [drop_cons' l i h]; exact List.forall_mem_cons
theorem pre_drop (l r : List Int) (i : Nat) (h : i < l.length) (h2 : i < r.length) : (l.drop i <+: r.drop i) ↔ l[i] = r[i] ∧ l.drop (i + 1) <+: r.drop (i + 1) := by
  rw [drop_cons' l i h, drop_cons' r i h2]; exact List.cons_prefix_cons
theorem right_l0 (l : List Int) (hl : BD l) (d : Nat) : ∀ i : Nat, l.length - i = d → i ≤ l.length → Ev (fun k => ends_Right.l0 k l (l.length : Int) (i : Int)) (decide (∀ x ∈ l.drop i, W31 x = x)) := by
  induction d with
  | zero =>
    intro i hd hi
    have : i = l.length := by omega
    subst this
    refine Ev.step (f := fun _ => some _) (fun k => ?_) (Ev.now _)
    simp only [ends_Right.l0]
    rw [if_neg (by omega)]
    simp
  | succ d ih =>
    intro i hd hi
    have hlt : i < l.length := by omega
    by_cases hw : W31 l[i] = l[i]
    · refine Ev.step (f := fun k => ends_Right.l0 k l (l.length : Int) ((i + 1 : Nat) : Int)) (fun k => ?_) ?_
      · simp only [ends_Right.l0]
        rw [if_pos (by omega), if_pos (by omega), if_pos (by omega), num_wrap31, rd_at l i hlt]
        simp only [Option.bind_some]
        rw [if_pos hw, wrap_succ hlt hl]
      · have := ih (i + 1) (by omega) (by omega)
        rw [decide_eq_decide.mpr ((all_drop l i hlt).trans ⟨And.right, fun h => ⟨hw, h⟩⟩)]
        exact this
    · refine Ev.step (f := fun _ => some false) (fun k => ?_) ?_
      · simp only [ends_Right.l0]
        rw [if_pos (by omega), if_pos (by omega), if_pos (by omega), num_wrap31, rd_at l i hlt]
        simp only [Option.bind_some]
        rw [if_neg hw]
      · rw [decide_eq_false (fun h => hw ((all_drop l i hlt).mp h).1)]
        exact Ev.now false
theorem right_j0 (a n : Int) (l : List Int) (s : Int) (hl : BD l) (b : Bool) : Ev (fun k => ends_Right.j0 k b a n l s) (!b && decide (∀ x ∈ l, W31 x = x)) := by
  cases b with
  | true => exact Ev.step (f := fun _ => some false) (fun k => by simp [ends_Right.j0]) (Ev.now _)
  | false =>
    refine Ev.step (f := fun k => ends_Right.l0 k l (l.length : Int) ((0 : Nat) : Int)) (fun k => by simp [ends_Right.j0]) ?_
    simpa using right_l0 l hl _ 0 rfl (Nat.zero_le _)
theorem right_ev (a n : Int) (l : List Int) (s : Int) (hl : BD l) : Ev (fun k => ends_Right.f k a n l s) (eRight a n l s) := by
  have key : ∀ b : Bool, (∀ k, ends_Right.f k a n l s = ends_Right.j0 k b a n l s) → (!b && decide (∀ x ∈ l, W31 x = x)) = eRight a n l s → Ev (fun k => ends_Right.f k a n l s) (eRight a n l s) := by
    intro b h1 h2
    rw [← h2]
    exact Ev.congr h1 (right_j0 a n l s hl b)
  unfold eRight at *
  by_cases h1 : a < 1
  · exact key true (fun k => by unfold ends_Right.f; rw [if_pos h1]) (by simp; omega)
  by_cases h2 : a > 6
  · exact key true (fun k => by unfold ends_Right.f; rw [if_neg h1, if_pos h2]) (by simp; omega)
  by_cases h3 : n < 0
  · exact key true (fun k => by unfold ends_Right.f; rw [if_neg h1, if_neg h2, if_pos h3]) (by simp; omega)
  by_cases h4 : s < 0
  · exact key true (fun k => by unfold ends_Right.f; rw [if_neg h1, if_neg h2, if_neg h3, if_pos h4]) (by simp; omega)
  by_cases h5 : n = 0
  · refine key false (fun k => by unfold ends_Right.f; rw [if_neg h1, if_neg h2, if_neg h3, if_neg h4, if_pos h5]) ?_
    simp only [Bool.not_false, Bool.true_and, decide_eq_decide]
    constructor
    · intro h; exact ⟨by omega, by omega, by omega, by omega, .inl h5, h⟩
    · intro h; exact h.2.2.2.2.2
  · refine key (a != 2) (fun k => by unfold ends_Right.f; rw [if_neg h1, if_neg h2, if_neg h3, if_neg h4, if_neg h5]) ?_
    by_cases h6 : a = 2
    · subst h6
      rw [show ((2 : Int) != 2) = false from rfl, Bool.not_false, Bool.true_and, decide_eq_decide]
      constructor
      · intro h; exact ⟨by omega, by omega, by omega, by omega, .inr rfl, h⟩
      · intro h; exact h.2.2.2.2.2
    · rw [bne_iff_ne.mpr h6]
      symm
      simp only [Bool.not_true, Bool.false_and, decide_eq_false_iff_not]
      intro h
      rcases h.2.2.2.2.1 with h | h
      · exact h5 h
      · exact h6 h
theorem begins_l0 (l0 l1 : List Int) (hl : BD l1) (hle : l1.length ≤ l0.length) (d : Nat) : ∀ i : Nat, l1.length - i = d → i ≤ l1.length → Ev (fun k => ends_begins_int.l0 k l0 l1 (l1.length : Int) (i : Int)) (decide (l1.drop i <+: l0.drop i)) := by
  induction d with
  | zero =>
    intro i hd hi
    have : i = l1.length := by omega
    subst this
    refine Ev.step (f := fun _ => some _) (fun k => ?_) (Ev.now _)
    simp only [ends_begins_int.l0]
    rw [if_neg (by omega)]
    simp
  | succ d ih =>
    intro i hd hi
    have hlt : i < l1.length := by omega
    have hlt0 : i < l0.length := by omega
    by_cases hw : l0[i] = l1[i]
    · refine Ev.step (f := fun k => ends_begins_int.l0 k l0 l1 (l1.length : Int) ((i + 1 : Nat) : Int)) (fun k => ?_) ?_
      · simp only [ends_begins_int.l0]
        rw [if_pos (by omega), if_pos (by omega), if_pos (by omega), if_pos (by omega), rd_at l1 i hlt, rd_at l0 i hlt0, if_pos hw, wrap_succ hlt hl]
      · have := ih (i + 1) (by omega) (by omega)
        rw [decide_eq_decide.mpr ((pre_drop l1 l0 i hlt hlt0).trans ⟨And.right, fun h => ⟨hw.symm, h⟩⟩)]
        exact this
    · refine Ev.step (f := fun _ => some false) (fun k => ?_) ?_
      · simp only [ends_begins_int.l0]
        rw [if_pos (by omega), if_pos (by omega), if_pos (by omega), if_pos (by omega), rd_at l1 i hlt, rd_at l0 i hlt0, if_neg hw]
      · rw [decide_eq_false (fun h => hw ((pre_drop l1 l0 i hlt hlt0).mp h).1.symm)]
        exact Ev.now false
theorem begins_ev (l0 l1 : List Int) (hl : BD l1) : Ev (fun k => ends_begins_int.f k l0 l1) (decide (l1 <+: l0)) := by
  by_cases h : l1.length > l0.length
  · refine Ev.congr (f := fun _ => some false) (fun k => by unfold ends_begins_int.f; rw [if_pos (by omega)]) ?_
    have : ¬ l1 <+: l0 := fun hp => by have := hp.length_le; omega
    simpa [this] using Ev.now false
  · refine Ev.congr (f := fun k => ends_begins_int.l0 k l0 l1 (l1.length : Int) ((0 : Nat) : Int)) (fun k => by unfold ends_begins_int.f; rw [if_neg (by omega)]; rfl) ?_
    simpa using begins_l0 l0 l1 hl (by omega) _ 0 rfl (Nat.zero_le _)
theorem pre_eq {l r : List Int} (h : l.length = r.length) : (r <+: l) ↔ l = r := ⟨fun hp => (hp.eq_of_length h.symm).symm, fun e => e ▸ List.prefix_refl _⟩
theorem Ev.id' {α : Type} {g : Nat → Option α} {r : α} (h : Ev g r) : Ev (fun k => (g k).bind fun t => some t) r := Ev.congr (fun k => by cases g k <;> rfl) h
theorem same_ev (a n : Int) (l : List Int) (s b m : Int) (r : List Int) (t : Int) (hr : BD r) : Ev (fun k => ends_Same.f k a n l s b m r t) (eSame a n l b m r) := by
  unfold eSame
  by_cases h1 : a = b
  · by_cases h2 : n = m
    · by_cases h3 : l.length = r.length
      · refine Ev.congr (f := fun k => (ends_begins_int.f k l r).bind fun t => some t) (fun k => by unfold ends_Same.f; rw [if_pos h1, if_pos h2, if_pos (by omega)]) ?_
        have := Ev.id' (begins_ev l r hr)
        simpa [h1, h2, pre_eq h3] using this
      · refine Ev.congr (f := fun _ => some false) (fun k => by unfold ends_Same.f; rw [if_pos h1, if_pos h2, if_neg (by omega)]) ?_
        have : ¬ l = r := fun e => h3 (by rw [e])
        simpa [this] using Ev.now false
    · refine Ev.congr (f := fun _ => some false) (fun k => by unfold ends_Same.f; rw [if_pos h1, if_neg h2]) ?_
      simpa [h2] using Ev.now false
  · refine Ev.congr (f := fun _ => some false) (fun k => by unfold ends_Same.f; rw [if_neg h1]) ?_
    simpa [h1] using Ev.now false
theorem cut_f (a n : Int) (l : List Int) (s : Int) : ends_cut.f a n l s = some (eCut a) := by
  unfold ends_cut.f eCut
  by_cases h : a = 3
  · simp [h]
  · by_cases h2 : a = 5
    · simp [h2]
    · rw [if_neg h, if_neg h2]
      congr 1
      rw [Bool.eq_iff_iff]
      simp [h, h2]
def ePart (a : Int) (l : List Int) (b : Int) (r : List Int) : Bool := (eCut a && decide (l <+: r)) || (eCut b && decide (r <+: l))
theorem agree_j1 (a n : Int) (l : List Int) (s b m : Int) (r : List Int) (t : Int) (hl : BD l) (hr : BD r) : Ev (fun k => ends_Agree.j1 k a n l s b m r t) (ePart a l b r) := by
  have fin : Ev (fun k => (some (eCut b)).bind fun t123 => (if t123 = true then ((ends_begins_int.f k l r).bind fun t124 => (some t124)) else (some false))) (eCut b && decide (r <+: l)) := by
    cases hc : eCut b with
    | false => simpa using Ev.now false
    | true => simpa using Ev.id' (begins_ev l r hr)
  unfold ePart
  refine Ev.step (f := fun k => (some (eCut a)).bind fun t119 => (if t119 = true then ((ends_begins_int.f k r l).bind fun t120 => (if t120 = true then (some true) else ((some (eCut b)).bind fun t121 => (if t121 = true then ((ends_begins_int.f k l r).bind fun t122 => (some t122)) else (some false))))) else ((some (eCut b)).bind fun t123 => (if t123 = true then ((ends_begins_int.f k l r).bind fun t124 => (some t124)) else (some false))))) (fun k => by simp only [ends_Agree.j1, cut_f]) ?_
  cases hc : eCut a with
  | false => simpa [hc] using fin
  | true =>
    simp only [Option.bind_some, if_true, Bool.true_and]
    refine Ev.bind (begins_ev r l hl) ?_
    cases hp : decide (l <+: r) with
    | true => simpa using Ev.now true
    | false => simpa using fin
def eMid (a n : Int) (l : List Int) (b m : Int) (r : List Int) : Bool := if a = 4 ∨ b = 4 ∨ (eCut a = false ∧ eCut b = false) then eSame a n l b m r else ePart a l b r
theorem agree_j0 (q : Bool) (a n : Int) (l : List Int) (s b m : Int) (r : List Int) (t : Int) (hl : BD l) (hr : BD r) : Ev (fun k => ends_Agree.j0 k q a n l s b m r t) (!q && eMid a n l b m r) := by
  cases q with
  | true => exact Ev.step (f := fun _ => some false) (fun k => by simp [ends_Agree.j0]) (Ev.now _)
  | false =>
    have hs := Ev.id' (same_ev a n l s b m r t hr)
    unfold eMid
    by_cases h1 : a = 4
    · refine Ev.step (f := fun k => (ends_Same.f k a n l s b m r t).bind fun t => some t) (fun k => by simp only [ends_Agree.j0, Bool.false_eq_true, if_false]; rw [if_pos h1]) ?_
      simpa [h1] using hs
    · by_cases h2 : b = 4
      · refine Ev.step (f := fun k => (ends_Same.f k a n l s b m r t).bind fun t => some t) (fun k => by simp only [ends_Agree.j0, Bool.false_eq_true, if_false]; rw [if_neg h1, if_pos h2]) ?_
        simpa [h2] using hs
      · cases hc : eCut a with
        | true =>
          refine Ev.step (f := fun k => ends_Agree.j1 k a n l s b m r t) (fun k => by simp only [ends_Agree.j0, Bool.false_eq_true, if_false, cut_f, hc]; rw [if_neg h1, if_neg h2]; simp) ?_
          simpa [h1, h2] using agree_j1 a n l s b m r t hl hr
        | false =>
          cases hd : eCut b with
          | true =>
            refine Ev.step (f := fun k => ends_Agree.j1 k a n l s b m r t) (fun k => by simp only [ends_Agree.j0, Bool.false_eq_true, if_false, cut_f, hc, hd]; rw [if_neg h1, if_neg h2]; simp) ?_
            simpa [h1, h2] using agree_j1 a n l s b m r t hl hr
          | false =>
            refine Ev.step (f := fun k => (ends_Same.f k a n l s b m r t).bind fun t => some t) (fun k => by simp only [ends_Agree.j0, Bool.false_eq_true, if_false, cut_f, hc, hd]; rw [if_neg h1, if_neg h2]; simp) ?_
            simpa using hs
theorem eAgree_mid (a n : Int) (l : List Int) (s b m : Int) (r : List Int) (t : Int) : eAgree a n l s b m r t = (eRight a n l s && eRight b m r t && eMid a n l b m r) := by
  unfold eAgree eMid ePart
  cases eRight a n l s <;> cases eRight b m r t <;> simp
theorem agree_ev (a n : Int) (l : List Int) (s b m : Int) (r : List Int) (t : Int) (hl : BD l) (hr : BD r) : Ev (fun k => ends_Agree.f k a n l s b m r t) (eAgree a n l s b m r t) := by
  rw [eAgree_mid]
  unfold ends_Agree.f
  refine Ev.bind (right_ev a n l s hl) ?_
  cases h1 : eRight a n l s with
  | false => simpa using agree_j0 true a n l s b m r t hl hr
  | true =>
    simp only [if_true, Bool.true_and]
    refine Ev.bind (right_ev b m r t hr) ?_
    simpa using agree_j0 (!eRight b m r t) a n l s b m r t hl hr
end Go.Proofs.YtaijpfooobcdkaaDoor.Q
