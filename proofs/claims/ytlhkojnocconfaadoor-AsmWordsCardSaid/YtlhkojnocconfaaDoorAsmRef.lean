/- asm: the reference's Label, Labels, one and Of, of any lines. -/
import Derived.Test.YtlhkojnocconfaaDoorQx0
import Derived.Test.YtlhkojnocconfaaDoorQx10
import Derived.Test.YtlhkojnocconfaaDoorQx4
import Derived.Test.YtlhkojnocconfaaDoorQx8
import Derived.Test.YtlhkojnocconfaaDoorQx9
import Derived.Test.YtlhkojnocconfaaDoorAsmLab
import Derived.Test.YtlhkojnocconfaaDoorAsmModel
import Derived.Test.YtlhkojnocconfaaDoorEvW
import Derived.Test.YtlhkojnocconfaaDoorHisaPut
import Derived.Test.YtlhkojnocconfaaDoorHisaRight
import Derived.Test.YtlhkojnocconfaaDoorIsaRefPut
--@needs XAsmModel
--@needs XIsaRefPut
--@needs XEvW
--@needs XAsmLab
namespace Go.Proofs.YtlhkojnocconfaaDoor.Q
open Go.RowKit Go.Proofs.YtlhkojnocconfaaDoorW.PrintWords Go.Proofs.YtlhkojnocconfaaDoorW.PrintLast Go.Proofs.YtlhkojnocconfaaDoorW.PrintMore
attribute [local go_sem] max2_int min2_int max_two min_two max_three min_three max_four min_four   -- for this text's walks alone
set_option linter.unusedVariables false
set_option linter.unusedSimpArgs false

theorem ref40_Label_go (s : ByteArray) (hs : s.size ≤ 9223372036854775807) : ∀ (d i : Nat), i + d = s.size → Ev (fun k => camletref40_Label.l0 k s (i : Int)) ((s.data.toList.drop i).all fun c => decide (lch (c.toNat : Int))) := by
  have hl : s.data.toList.length = s.size := Array.length_toList
  intro d
  induction d with
  | zero =>
    intro i hi
    refine Ev.step (f := fun _ => some true) (fun k => ?_) ?_
    · rw [camletref40_Label.l0]; rw [if_neg (by omega)]
    · rw [List.drop_eq_nil_of_le (by omega)]; exact Ev.now _
  | succ d ih =>
    intro i hi
    have hlt : i < s.data.toList.length := by omega
    have hw : wrap64 ((i : Int) + 1) = ((i + 1 : Nat) : Int) := by rw [aw64 (by omega) (by omega)]; omega
    have hn := ih (i + 1) (by omega)
    rw [List.drop_eq_getElem_cons hlt, List.all_cons]
    by_cases hc : lch ((s.data.toList[i]).toNat : Int)
    · rw [decide_eq_true hc, Bool.true_and]
      refine Ev.step (f := fun k => camletref40_Label.l0 k s ((i + 1 : Nat) : Int)) (fun k => ?_) hn
      rw [camletref40_Label.l0]
      rw [if_pos (by omega), if_pos (by omega), hw, asm_bt_at s i hlt]
      generalize ((s.data.toList[i]).toNat : Int) = b at *
      unfold lch at hc
      clear hn ih hw
      repeat' split
      all_goals first | rfl | (exfalso; omega)
    · rw [decide_eq_false hc, Bool.false_and]
      refine Ev.step (f := fun _ => some false) (fun k => ?_) (Ev.now _)
      rw [camletref40_Label.l0]
      rw [if_pos (by omega), if_pos (by omega), hw, asm_bt_at s i hlt]
      generalize ((s.data.toList[i]).toNat : Int) = b at *
      unfold lch at hc
      clear hn ih hw
      repeat' split
      all_goals first | rfl | (exfalso; omega)
theorem ref40_Label_eq (s : ByteArray) (hs : s.size ≤ 9223372036854775807) : Ev (fun k => camletref40_Label.f k s) (labelB s) := by
  have hj : ∀ b : Bool, b = true → Ev (fun k => camletref40_Label.j0 k s b) false := by
    intro b hb
    subst hb
    refine Ev.step (f := fun _ => some false) (fun k => ?_) (Ev.now _)
    rw [camletref40_Label.j0]
    rw [if_pos rfl]
  unfold camletref40_Label.f labelB
  by_cases h0 : (s.size : Int) < 1
  · refine Ev.pos h0 ?_
    have e : s.toList = ([] : List UInt8) := by
      rw [toList_nil]
      have hl : s.data.toList.length = s.size := Array.length_toList
      exact List.eq_nil_of_length_eq_zero (by omega)
    rw [decide_eq_true e]
    have := hj true rfl
    simpa using this
  · refine Ev.neg h0 ?_
    have e : ¬ s.toList = ([] : List UInt8) := by
      rw [toList_nil]
      intro e
      have hl : s.data.toList.length = s.size := Array.length_toList
      rw [e, List.length_nil] at hl
      omega
    rw [decide_eq_false e]
    by_cases h1 : (s.size : Int) > 32
    · have := hj _ (decide_eq_true h1)
      rw [decide_eq_false (show ¬ (s.size : Int) ≤ 32 by omega)]
      simpa using this
    · rw [decide_eq_true (show (s.size : Int) ≤ 32 by omega)]
      have hg := ref40_Label_go s hs s.size 0 (by omega)
      rw [List.drop_zero] at hg
      simp only [Bool.not_false, Bool.and_true]
      refine Ev.step (f := fun k => camletref40_Label.l0 k s ((0 : Nat) : Int)) (fun k => ?_) hg
      rw [camletref40_Label.j0]
      rw [if_neg (by rw [decide_eq_false h1]; decide)]
      rfl
theorem ref40_ways_eq (k : Int) : camletref40_ways.f k = some (goesB k) := by
  unfold camletref40_ways.f goesB
  by_cases h1 : k = 1
  · subst h1; rfl
  by_cases h2 : k = 19
  · simp [h2]
  by_cases h3 : k = 20
  · simp [h3]
  by_cases h4 : k = 21
  · simp [h4]
  by_cases h5 : k = 22
  · simp [h5]
  simp [h1, h2, h3, h4, h5]
theorem ref40_Labels_eq (l : List S36) (hl : l.length ≤ 9223372036854775806) (s : ByteArray) : Ev (fun k => camletref40_Labels.f k l s) (labelsV l s) := by
  by_cases h : s.toList = []
  · rw [labelsV_empty h]
    refine Ev.some 2 (fun k => ?_)
    unfold camletref40_Labels.f
    rw [camletref40_Labels.l0]
    have e : (s.toList != ([] : List UInt8)) = false := bne_eq_false_iff_eq.mpr h
    rw [e]
    split <;> (rw [camletref40_Labels.j1]; rw [if_neg (by decide)])
  rw [← goOn_zero h]
  have e : (s.toList != ([] : List UInt8)) = true := bne_iff_ne.mpr h
  have go : ∀ (d i : Nat), i + d = l.length → Ev (fun k => camletref40_Labels.l0 k l s (i : Int)) (goOn l s i) := by
    intro d
    induction d with
    | zero =>
      intro i hi
      rw [goOn_end (by omega)]
      refine Ev.some 2 (fun k => ?_)
      rw [camletref40_Labels.l0]
      rw [if_neg (by omega)]
      rw [camletref40_Labels.j1]
      rw [if_neg (by decide)]
    | succ d ih =>
      intro i hi
      have hlt : i < l.length := by omega
      have hw : wrap64 ((i : Int) + 1) = ((i + 1 : Nat) : Int) := by rw [aw64 (by omega) (by omega)]; omega
      refine Ev.step (f := fun k => camletref40_Labels.j1 k l s (i : Int) true) (fun k => ?_) ?_
      · rw [camletref40_Labels.l0]
        rw [if_pos (by omega), e]
      by_cases he : l[i].f0.toList = s.toList
      · rw [goOn_hit hlt he]
        refine Ev.step (f := fun _ => some (i : Int)) (fun k => ?_) (Ev.now _)
        rw [camletref40_Labels.j1]
        rw [if_pos rfl, if_pos (by omega), if_pos (by omega), rd_line hlt, if_pos he]
      · rw [goOn_miss hlt he]
        refine Ev.step (f := fun k => camletref40_Labels.l0 k l s ((i + 1 : Nat) : Int)) (fun k => ?_) (ih (i + 1) (by omega))
        rw [camletref40_Labels.j1]
        rw [if_pos rfl, if_pos (by omega), if_pos (by omega), rd_line hlt, if_neg he, hw]
  exact go l.length 0 (by omega)
def putV (o0 o1 o2 o3 n : Int) : Int × Int := if isaRight o0 o1 o2 o3 n = true then (isaPut o0 o1 o2 o3 n, 0) else (0, 26)
theorem ref39_Put_ev (o0 o1 o2 o3 n : Int) : Ev (fun k => camletref39_Put.f k o0 o1 o2 o3 n) (putV o0 o1 o2 o3 n) := by
  refine Ev.some 60 (fun k => ?_)
  rw [refPut_eq]
  unfold isa_Put.f putV
  split <;> rfl
def oneV (l : List S36) (i : Nat) (x : S36) : Int × Int :=
  if asmWrong l i x ≠ 0 then (0, asmWrong l i x) else putV x.f1.f0 x.f1.f1 x.f1.f2 x.f1.f3 (asmNum l i x)
theorem ref40_one_eq (l : List S36) (hl : l.length ≤ 16384) (i : Nat) (hi : i < l.length) (f0 f2 : ByteArray) (o0 o1 o2 o3 o4 : Int) (hx : l[i] = ⟨f0, ⟨o0, o1, o2, o3, o4⟩, f2⟩) (h0 : f0.size ≤ 9223372036854775807) (h2 : f2.size ≤ 9223372036854775807) :
    Ev (fun k => camletref40_one.f k l (i : Int)) (oneV l i ⟨f0, ⟨o0, o1, o2, o3, o4⟩, f2⟩) := by
  have hL0 := ref40_Labels_eq l (by omega) f0
  have hL2 := ref40_Labels_eq l (by omega) f2
  have r0 := labelsV_range (s := f0) hl
  have r2 := labelsV_range (s := f2) hl
  have own : ¬ f0.toList = [] → ¬ labelsV l f0 < 0 := by
    intro h
    have h' := firstF_own hi (by rw [hx]; exact h)
    rw [hx] at h'
    obtain ⟨a, ha, _⟩ := h'
    rw [← labelsV_some, ha]
    rfl
  have j1 : ∀ b : Bool, Ev (fun k => camletref40_one.j1 k l (i : Int) b f0 o0 o1 o2 o3 o4 f2) (if b = true then (0, 9) else if f2.toList = [] then putV o0 o1 o2 o3 o4 else if goesB o0 = false then (0, 1) else if labelsV l f2 < 0 then (0, 25) else if o0 = 1 then putV o0 o1 o2 o3 (2 * labelsV l f2 + 1) else putV o0 o1 o2 o3 (labelsV l f2 - i - 1)) := by
    intro b
    cases b with
    | true =>
      refine Ev.step (f := fun _ => some (0, 9)) (fun k => ?_) (Ev.now _)
      rw [camletref40_one.j1]
      rw [if_pos rfl]
    | false =>
    rw [if_neg (by decide)]
    refine Ev.step (f := fun k => if f2.toList = ([] : List UInt8) then ((camletref39_Put.f k o0 o1 o2 o3 o4).bind fun bt => (some (bt.1, bt.2))) else ((camletref40_ways.f o0).bind fun t150 => (if t150 = true then ((camletref40_Labels.f k l f2).bind fun t151 => (if t151 < 0 then (some (0, 25)) else (if o0 = 1 then ((camletref39_Put.f k o0 o1 o2 o3 (wrap64 ((wrap64 (2 * t151)) + 1))).bind fun bt => (some (bt.1, bt.2))) else ((camletref39_Put.f k o0 o1 o2 o3 (wrap64 ((wrap64 (t151 - (i : Int))) - 1))).bind fun bt => (some (bt.1, bt.2)))))) else (some (0, 1))))) (fun k => ?_) ?_
    · rw [camletref40_one.j1]
      rw [if_neg (by decide)]
    by_cases he : f2.toList = ([] : List UInt8)
    · rw [if_pos he]
      exact Ev.pos he (Ev.bind (ref39_Put_ev _ _ _ _ _) (Ev.now _))
    rw [if_neg he]
    refine Ev.neg he (Ev.val (ref40_ways_eq o0) ?_)
    cases hg : goesB o0 with
    | false => exact Ev.neg (by decide) (Ev.now _)
    | true =>
    rw [if_neg (by decide)]
    refine Ev.pos rfl (Ev.bind hL2 ?_)
    by_cases hlt : labelsV l f2 < 0
    · rw [if_pos hlt]; exact Ev.pos hlt (Ev.now _)
    rw [if_neg hlt]
    refine Ev.neg hlt ?_
    have w1 : wrap64 (wrap64 (2 * labelsV l f2) + 1) = 2 * labelsV l f2 + 1 := by rw [aw64 (n := 2 * labelsV l f2) (by omega) (by omega), aw64 (by omega) (by omega)]
    have w2 : wrap64 (wrap64 (labelsV l f2 - (i : Int)) - 1) = labelsV l f2 - i - 1 := by rw [aw64 (n := labelsV l f2 - (i : Int)) (by omega) (by omega), aw64 (by omega) (by omega)]
    rw [w1, w2]
    by_cases ho : o0 = 1
    · rw [if_pos ho]; exact Ev.pos ho (Ev.bind (ref39_Put_ev _ _ _ _ _) (Ev.now _))
    · rw [if_neg ho]; exact Ev.neg ho (Ev.bind (ref39_Put_ev _ _ _ _ _) (Ev.now _))
  generalize hJ1 : (fun b : Bool => (if b = true then ((0, 9) : Int × Int) else if f2.toList = [] then putV o0 o1 o2 o3 o4 else if goesB o0 = false then (0, 1) else if labelsV l f2 < 0 then (0, 25) else if o0 = 1 then putV o0 o1 o2 o3 (2 * labelsV l f2 + 1) else putV o0 o1 o2 o3 (labelsV l f2 - i - 1))) = J1
  have j1' : ∀ b : Bool, Ev (fun k => camletref40_one.j1 k l (i : Int) b f0 o0 o1 o2 o3 o4 f2) (J1 b) := by
    intro b
    have := j1 b
    rw [← hJ1]
    exact this
  have j0 : ∀ b : Bool, Ev (fun k => camletref40_one.j0 k l (i : Int) b f0 o0 o1 o2 o3 o4 f2) (if b = true then (0, 3) else if f0.toList = [] then J1 false else J1 (decide (labelsV l f0 < i))) := by
    intro b
    cases b with
    | true =>
      refine Ev.step (f := fun _ => some (0, 3)) (fun k => ?_) (Ev.now _)
      rw [camletref40_one.j0]
      rw [if_pos rfl]
    | false =>
    rw [if_neg (by decide)]
    refine Ev.step (f := fun k => if f0.toList = ([] : List UInt8) then (camletref40_one.j1 k l (i : Int) false f0 o0 o1 o2 o3 o4 f2) else ((camletref40_Labels.f k l f0).bind fun t147 => (camletref40_one.j1 k l (i : Int) (decide (t147 < (i : Int))) f0 o0 o1 o2 o3 o4 f2))) (fun k => ?_) ?_
    · rw [camletref40_one.j0]
      rw [if_neg (by decide)]
    by_cases he : f0.toList = ([] : List UInt8)
    · rw [if_pos he]; exact Ev.pos he (j1' false)
    · rw [if_neg he]; exact Ev.neg he (Ev.bind hL0 (j1' _))
  have hB0 := ref40_Label_eq f0 h0
  have hB2 := ref40_Label_eq f2 h2
  have main : Ev (fun k => camletref40_one.f k l (i : Int)) (if (mayB f0 && mayB f2) = false then (0, 3) else if f0.toList = [] then J1 false else J1 (decide (labelsV l f0 < i))) := by
    unfold camletref40_one.f
    rw [rd_line hi, hx]
    dsimp only
    refine Ev.pos (by omega) (Ev.pos (by omega) ?_)
    unfold mayB
    by_cases e0 : f0.toList = ([] : List UInt8)
    · refine Ev.pos e0 ?_
      rw [if_pos e0]
      by_cases e2 : f2.toList = ([] : List UInt8)
      · refine Ev.pos e2 ?_
        rw [if_pos e2]
        exact j0 false
      · refine Ev.neg e2 ?_
        rw [if_neg e2]
        refine Ev.bind hB2 ?_
        have := j0 (!labelB f2)
        cases hb : labelB f2 <;> (rw [hb] at this; exact this)
    · refine Ev.neg e0 ?_
      rw [if_neg e0]
      refine Ev.bind hB0 ?_
      cases hb0 : labelB f0 with
      | false =>
        refine Ev.neg (by decide) ?_
        exact j0 true
      | true =>
      refine Ev.pos rfl ?_
      by_cases e2 : f2.toList = ([] : List UInt8)
      · refine Ev.pos e2 ?_
        rw [if_pos e2]
        exact j0 false
      · refine Ev.neg e2 ?_
        rw [if_neg e2]
        refine Ev.bind hB2 ?_
        have := j0 (!labelB f2)
        cases hb : labelB f2 <;> (rw [hb] at this; exact this)
  have fin : (if (mayB f0 && mayB f2) = false then ((0, 3) : Int × Int) else if f0.toList = [] then J1 false else J1 (decide (labelsV l f0 < i))) = oneV l i ⟨f0, ⟨o0, o1, o2, o3, o4⟩, f2⟩ := by
    rw [← hJ1]
    unfold oneV asmWrong asmNum
    dsimp only
    by_cases hm : (mayB f0 && mayB f2) = false
    · have hm' : mayB f0 = false ∨ mayB f2 = false := by
        cases h : mayB f0 <;> simp_all
      rw [if_pos hm]
      simp only [if_pos hm']
      exact (if_pos (by decide)).symm
    rw [if_neg hm]
    have hm' : ¬ (mayB f0 = false ∨ mayB f2 = false) := by
      cases h : mayB f0 <;> simp_all
    simp only [if_neg hm']
    have tw : ((firstF l (skey f0)).isSome = true ∧ (firstF l (skey f0)).getD 0 < (i : Int)) ↔ (¬ f0.toList = [] ∧ labelsV l f0 < i) := by
      constructor
      · intro ⟨a, b⟩
        have hne : ¬ f0.toList = [] := by
          intro e
          rw [labelsV_some, labelsV_empty e] at a
          exact a (by decide)
        rw [labelsV_getD (own hne)] at b
        exact ⟨hne, b⟩
      · intro ⟨a, b⟩
        exact ⟨labelsV_some.2 (own a), by rw [labelsV_getD (own a)]; exact b⟩
    by_cases e0 : f0.toList = []
    · rw [if_pos e0]
      have htw : ¬ ((firstF l (skey f0)).isSome = true ∧ (firstF l (skey f0)).getD 0 < (i : Int)) := fun h => (tw.1 h).1 e0
      simp only [if_neg htw, if_neg (show ¬ (false = true) by decide)]
      by_cases e2 : f2.toList = []
      · simp [e2]
      · cases hg : goesB o0 with
        | false => simp [e2]
        | true =>
          by_cases hs : labelsV l f2 < 0
          · have hs' : (firstF l (skey f2)).isSome = false := by rw [Bool.eq_false_iff]; intro h; exact (labelsV_some.1 h) hs
            simp [e2, hs, hs']
          · have hs' : (firstF l (skey f2)).isSome = true := labelsV_some.2 hs
            have hd := labelsV_getD hs
            simp [e2, hs, hs', hd]
            split <;> rfl
    · rw [if_neg e0]
      by_cases ht : labelsV l f0 < i
      · have htw : ((firstF l (skey f0)).isSome = true ∧ (firstF l (skey f0)).getD 0 < (i : Int)) := tw.2 ⟨e0, ht⟩
        simp only [if_pos htw, decide_eq_true ht]
        simp
      · have htw : ¬ ((firstF l (skey f0)).isSome = true ∧ (firstF l (skey f0)).getD 0 < (i : Int)) := fun h => ht (tw.1 h).2
        simp only [if_neg htw, decide_eq_false ht, if_neg (show ¬ (false = true) by decide)]
        by_cases e2 : f2.toList = []
        · simp [e2]
        · cases hg : goesB o0 with
          | false => simp [e2]
          | true =>
            by_cases hs : labelsV l f2 < 0
            · have hs' : (firstF l (skey f2)).isSome = false := by rw [Bool.eq_false_iff]; intro h; exact (labelsV_some.1 h) hs
              simp [e2, hs, hs']
            · have hs' : (firstF l (skey f2)).isSome = true := labelsV_some.2 hs
              have hd := labelsV_getD hs
              simp [e2, hs, hs', hd]
              split <;> rfl
  rw [← fin]
  exact main
theorem ref40_Of_go (l : List S36) (hl : l.length ≤ 16384) (hok : asmOk l) : ∀ (d i : Nat) (acc : List Int), i + d = l.length → acc.length ≤ i → Ev (fun k => camletref40_Of.l0 k l acc (i : Int)) (asmGo l (l.drop i) i acc) := by
  intro d
  induction d with
  | zero =>
    intro i acc hi ha
    rw [List.drop_eq_nil_of_le (by omega), asmGo]
    refine Ev.step (f := fun _ => some (acc, 0, 0)) (fun k => ?_) (Ev.now _)
    rw [camletref40_Of.l0]
    rw [if_neg (by omega)]
  | succ d ih =>
    intro i acc hi ha
    have hlt : i < l.length := by omega
    have hs := hok _ (List.getElem_mem hlt)
    obtain ⟨x, hx⟩ : ∃ x, l[i] = x := ⟨_, rfl⟩
    rw [hx] at hs
    obtain ⟨f0, ⟨o0, o1, o2, o3, o4⟩, f2⟩ := x
    have h1 := ref40_one_eq l hl i hlt f0 f2 o0 o1 o2 o3 o4 hx hs.1 hs.2
    have hw : wrap64 ((i : Int) + 1) = ((i + 1 : Nat) : Int) := by rw [aw64 (by omega) (by omega)]; omega
    refine Ev.step (f := fun k => (camletref40_one.f k l (i : Int)).bind fun bt159 => (if bt159.2 = 0 then (if acc.length < 35184372088832 then (camletref40_Of.l0 k l (acc ++ [bt159.1]) ((i + 1 : Nat) : Int)) else (none)) else (some (([] : List Int), (i : Int), bt159.2)))) (fun k => ?_) ?_
    · rw [camletref40_Of.l0]
      rw [if_pos (by omega), hw]
    refine Ev.bind h1 ?_
    rw [List.drop_eq_getElem_cons hlt, hx, asmGo]
    unfold oneV putV
    dsimp only
    by_cases hw0 : asmWrong l i ⟨f0, ⟨o0, o1, o2, o3, o4⟩, f2⟩ ≠ 0
    · simp only [if_pos hw0]
      exact Ev.neg hw0 (Ev.now _)
    simp only [if_neg hw0]
    by_cases hr : isaRight o0 o1 o2 o3 (asmNum l i ⟨f0, ⟨o0, o1, o2, o3, o4⟩, f2⟩) = true
    · simp only [if_pos hr]
      exact Ev.pos trivial (Ev.pos (by omega) (ih (i + 1) _ (by omega) (by rw [List.length_append, List.length_singleton]; omega)))
    · simp only [if_neg hr]
      exact Ev.neg (by decide) (Ev.now _)
theorem ref40_Of_eq (l : List S36) (hok : asmOk l) : Ev (fun k => camletref40_Of.f k l) (if 16384 < (l.length : Int) then ([], 16384, 4) else asmGo l l 0 []) := by
  unfold camletref40_Of.f
  by_cases h : 16384 < (l.length : Int)
  · rw [if_pos h]; exact Ev.pos h (Ev.now _)
  · rw [if_neg h]
    refine Ev.neg h ?_
    have := ref40_Of_go l (by omega) hok l.length 0 [] (by omega) (by simp)
    rw [List.drop_zero] at this
    exact this
end Go.Proofs.YtlhkojnocconfaaDoor.Q
