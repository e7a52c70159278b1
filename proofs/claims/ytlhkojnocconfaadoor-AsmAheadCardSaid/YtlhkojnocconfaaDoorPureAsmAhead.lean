/- An additional first line shifts code words that refer to labels and changes nothing else. -/
import Derived.Test.YtlhkojnocconfaaDoorAsmLaw
import Derived.Test.YtlhkojnocconfaaDoorIsaLi
import Derived.Test.YtlhkojnocconfaaDoorStAsmAhead
namespace Go.Proofs.YtlhkojnocconfaaDoor.Q
open Go.RowKit Go.Proofs.YtlhkojnocconfaaDoorW.PrintWords Go.Proofs.YtlhkojnocconfaaDoorW.PrintLast Go.Proofs.YtlhkojnocconfaaDoorW.PrintMore
set_option linter.unusedVariables false
set_option linter.unusedSimpArgs false

def z0L : S36 := ⟨⟨#[]⟩, ⟨0, 0, 0, 0, 0⟩, ⟨#[]⟩⟩
theorem nil_list : (⟨#[]⟩ : ByteArray).toList = ([] : List UInt8) := by rw [ByteArray.toList_eq]
theorem ah_first (l : List S36) (s : ByteArray) : firstF (z0L :: l) (skey s) = (firstF l (skey s)).map (· + 1) := by
  unfold firstF skey
  dsimp only
  by_cases h : s.data.toList = []
  · rw [if_pos h, if_pos h]; rfl
  rw [if_neg h, if_neg h, List.findIdx?_cons]
  have e : (z0L.f0.data.toList == s.data.toList) = false := beq_eq_false_iff_ne.mpr (fun h2 => h h2.symm)
  rw [e]
  cases l.findIdx? (fun x => x.f0.data.toList == s.data.toList) with
  | none => rfl
  | some n => simp
theorem ah_wrong (l : List S36) (i : Nat) (x : S36) : asmWrong (z0L :: l) (i + 1) x = asmWrong l i x := by
  unfold asmWrong
  rw [ah_first, ah_first]
  cases h0 : firstF l (skey x.f0) <;> cases h2 : firstF l (skey x.f2) <;> simp
theorem ah_some {l : List S36} {i : Nat} {x : S36} (h : asmWrong l i x = 0) (hn : ¬ x.f2.toList = []) : (firstF l (skey x.f2)).isSome = true := by
  unfold asmWrong at h
  cases hc : (firstF l (skey x.f2)).isSome with
  | true => rfl
  | false =>
    exfalso
    rw [hc] at h
    split at h
    · exact absurd h (by decide)
    · split at h
      · exact absurd h (by decide)
      · split at h
        · exact absurd h (by decide)
        · rw [if_pos ⟨hn, rfl⟩] at h; exact absurd h (by decide)
theorem ah_num {l : List S36} {i : Nat} {x : S36} (h : asmWrong l i x = 0) : asmNum (z0L :: l) (i + 1) x = if ¬ x.f2.toList = [] ∧ x.f1.f0 = 1 then asmNum l i x + 2 else asmNum l i x := by
  unfold asmNum
  by_cases e2 : x.f2.toList = []
  · rw [if_pos e2, if_pos e2, if_neg (fun h => h.1 e2)]
  rw [if_neg e2, if_neg e2]
  have hs := ah_some h e2
  rw [ah_first]
  cases hf : firstF l (skey x.f2) with
  | none => rw [hf] at hs; cases hs
  | some a =>
    by_cases ho : x.f1.f0 = 1
    · rw [if_pos ho, if_pos ho, if_pos ⟨e2, ho⟩]
      simp
      omega
    · rw [if_neg ho, if_neg ho, if_neg (fun h => ho h.2)]
      simp
      omega
theorem ah_range {l : List S36} {i : Nat} {x : S36} (hl : l.length ≤ 100) (h : asmWrong l i x = 0) (hn : ¬ x.f2.toList = []) (ho : x.f1.f0 = 1) : 0 ≤ asmNum l i x ∧ asmNum l i x ≤ 201 := by
  unfold asmNum
  rw [if_neg hn, if_pos ho]
  cases hf : firstF l (skey x.f2) with
  | none => simp
  | some a =>
    have := firstF_lt hf
    simp
    omega
theorem li_right {D A B N : Int} (h0 : 0 ≤ N) (h1 : N ≤ 30000) : isaRight 1 D A B (N + 2) = isaRight 1 D A B N := by
  have e := fun n => isaRight_lit 1 (by decide) D A B n
  have e1 : ((1 : Nat) : Int) = 1 := rfl
  rw [e1] at e
  rw [e, e]
  show (okR true D && (okR false A && (okR false B && (decide ((-32768 : Int) ≤ N + 2) && decide (N + 2 ≤ (32767 : Int)))))) = (okR true D && (okR false A && (okR false B && (decide ((-32768 : Int) ≤ N) && decide (N ≤ (32767 : Int))))))
  rw [decide_eq_true (show (-32768 : Int) ≤ N + 2 by omega), decide_eq_true (show N + 2 ≤ (32767 : Int) by omega), decide_eq_true (show (-32768 : Int) ≤ N by omega), decide_eq_true (show N ≤ (32767 : Int) by omega)]
theorem ah_right {l : List S36} {i : Nat} {x : S36} (hl : l.length ≤ 100) (h : asmWrong l i x = 0) : isaRight x.f1.f0 x.f1.f1 x.f1.f2 x.f1.f3 (asmNum (z0L :: l) (i + 1) x) = isaRight x.f1.f0 x.f1.f1 x.f1.f2 x.f1.f3 (asmNum l i x) := by
  rw [ah_num h]
  by_cases hc : ¬ x.f2.toList = [] ∧ x.f1.f0 = 1
  · rw [if_pos hc]
    have hr := ah_range hl h hc.1 hc.2
    rw [hc.2]
    exact li_right hr.1 (by omega)
  · rw [if_neg hc]
theorem ah_go (l : List S36) (hl : l.length ≤ 100) : ∀ (r : List S36) (i : Nat) (acc acc' : List Int), (asmGo (z0L :: l) r (i + 1) acc').2.2 = (asmGo l r i acc).2.2 ∧ ((asmGo l r i acc).2.2 ≠ 0 → (asmGo (z0L :: l) r (i + 1) acc').2.1 = (asmGo l r i acc).2.1 + 1 ∧ 0 ≤ (asmGo l r i acc).2.1 ∧ (asmGo l r i acc).2.1 ≤ i + r.length)
  | [], i, acc, acc' => by rw [asmGo, asmGo]; exact ⟨rfl, fun h => absurd rfl h⟩
  | x :: r, i, acc, acc' => by
    rw [asmGo, asmGo, ah_wrong]
    by_cases hw : asmWrong l i x ≠ 0
    · rw [if_pos hw, if_pos hw]
      exact ⟨rfl, fun _ => ⟨by show ((i + 1 : Nat) : Int) = (i : Int) + 1; omega, by show (0 : Int) ≤ i; omega, by show (i : Int) ≤ _; simp; omega⟩⟩
    rw [if_neg hw, if_neg hw]
    have hw0 : asmWrong l i x = 0 := by omega
    rw [ah_right hl hw0]
    by_cases hr : isaRight x.f1.f0 x.f1.f1 x.f1.f2 x.f1.f3 (asmNum l i x) = true
    · rw [if_pos hr, if_pos hr]
      have ih := ah_go l hl r (i + 1) (acc ++ [isaPut x.f1.f0 x.f1.f1 x.f1.f2 x.f1.f3 (asmNum l i x)]) (acc' ++ [isaPut x.f1.f0 x.f1.f1 x.f1.f2 x.f1.f3 (asmNum (z0L :: l) (i + 1) x)])
      refine ⟨ih.1, fun h => ?_⟩
      have := ih.2 h
      refine ⟨this.1, this.2.1, ?_⟩
      have h2 := this.2.2
      rw [List.length_cons]
      omega
    · rw [if_neg hr, if_neg hr]
      exact ⟨rfl, fun _ => ⟨by show ((i + 1 : Nat) : Int) = (i : Int) + 1; omega, by show (0 : Int) ≤ i; omega, by show (i : Int) ≤ _; simp; omega⟩⟩
theorem ah_head (l : List S36) : asmGo (z0L :: l) (z0L :: l) 0 [] = asmGo (z0L :: l) l 1 [0] := by
  have hf : ∀ m : List S36, firstF m (skey (⟨#[]⟩ : ByteArray)) = none := fun m => firstF_nil m
  have hm : mayB (⟨#[]⟩ : ByteArray) = true := by unfold mayB; rw [if_pos nil_list]
  have hw : asmWrong (z0L :: l) 0 z0L = 0 := by
    unfold asmWrong
    show (if mayB (⟨#[]⟩ : ByteArray) = false ∨ mayB (⟨#[]⟩ : ByteArray) = false then (3 : Int) else if (firstF (z0L :: l) (skey (⟨#[]⟩ : ByteArray))).isSome = true ∧ (firstF (z0L :: l) (skey (⟨#[]⟩ : ByteArray))).getD 0 < ((0 : Nat) : Int) then 9 else if ¬ (⟨#[]⟩ : ByteArray).toList = [] ∧ goesB 0 = false then 1 else if ¬ (⟨#[]⟩ : ByteArray).toList = [] ∧ (firstF (z0L :: l) (skey (⟨#[]⟩ : ByteArray))).isSome = false then 25 else 0) = 0
    rw [hm, hf, nil_list]
    simp
  have hn : asmNum (z0L :: l) 0 z0L = 0 := by
    unfold asmNum
    exact if_pos nil_list
  rw [asmGo]
  rw [hw, hn, if_neg (by decide)]
  have hr : isaRight z0L.f1.f0 z0L.f1.f1 z0L.f1.f2 z0L.f1.f3 0 = true := by kernel_rfl
  have hp : isaPut z0L.f1.f0 z0L.f1.f1 z0L.f1.f2 z0L.f1.f3 0 = 0 := by kernel_rfl
  rw [hr, hp, if_pos rfl]
  rfl
theorem ah_rd {D : List Int} {i : Nat} (h : i < D.length) : rd D (i : Int) = D[i] := by
  unfold rd
  rw [Int.toNat_natCast, List.getD_eq_getElem?_getD, List.getElem?_eq_getElem h]
  rfl
theorem ah_loop (l : List S36) (hl : l.length ≤ 100) (D D' : List Int) (hDl : D.length = l.length) (hDl' : D'.length = l.length)
    (hD : ∀ (j : Nat) (h : j < l.length) (hD : j < D.length), asmWrong l j l[j] = 0 ∧ isaRight l[j].f1.f0 l[j].f1.f1 l[j].f1.f2 l[j].f1.f3 (asmNum l j l[j]) = true ∧ D[j] = isaPut l[j].f1.f0 l[j].f1.f1 l[j].f1.f2 l[j].f1.f3 (asmNum l j l[j]))
    (hD' : ∀ (j : Nat) (h : j < l.length) (hD : j < D'.length), D'[j] = isaPut l[j].f1.f0 l[j].f1.f1 l[j].f1.f2 l[j].f1.f3 (asmNum (z0L :: l) (j + 1) l[j])) :
    ∀ (d i : Nat), i + d = l.length → Ev (fun k => camletlaw40_AsmAhead.l0 k l D ([0] ++ D') (D.length : Int) (i : Int)) true := by
  intro d
  induction d with
  | zero =>
    intro i hi
    refine Ev.step (f := fun k => (camletlaw40_knows.f k).bind fun t251 => (some t251)) (fun k => ?_) (Ev.bind asm_knows (Ev.now _))
    rw [camletlaw40_AsmAhead.l0]
    rw [if_neg (by omega)]
  | succ d ih =>
    intro i hi
    have hlt : i < l.length := by omega
    have hw : wrap64 ((i : Int) + 1) = ((i + 1 : Nat) : Int) := by rw [aw64 (by omega) (by omega)]; omega
    have hnext := ih (i + 1) (by omega)
    obtain ⟨w0, wr, wp⟩ := hD i hlt (by omega)
    have wp' := hD' i hlt (by omega)
    have wr' := ah_right hl w0
    rw [wr] at wr'
    have hn := ah_num w0
    have hrg := ah_range hl w0
    have hlen' : (([0] ++ D').length : Int) = l.length + 1 := by simp; omega
    have r1 : rd D (i : Int) = D[i] := ah_rd (by omega)
    have r2 : rd ([0] ++ D') ((i + 1 : Nat) : Int) = D'[i]'(by omega) := by
      rw [ah_rd (by simp; omega)]
      rfl
    have hrl := rd_line hlt
    obtain ⟨x, hx⟩ : ∃ x, l[i] = x := ⟨_, rfl⟩
    rw [hx] at w0 wr wp wp' wr' hn hrg hrl
    obtain ⟨f0, ⟨o0, o1, o2, o3, o4⟩, f2⟩ := x
    dsimp only at w0 wr wp wp' wr' hn hrg
    have jt : ∀ b : Bool, b = true → ¬ (¬ f2.toList = [] ∧ o0 = 1) → Ev (fun k => camletlaw40_AsmAhead.j2 k l D ([0] ++ D') (i : Int) (D.length : Int) (i : Int) b) true := by
      intro b hb hc
      subst hb
      rw [if_neg hc] at hn
      refine Ev.step (f := fun k => camletlaw40_AsmAhead.l0 k l D ([0] ++ D') (D.length : Int) ((i + 1 : Nat) : Int)) (fun k => ?_) hnext
      rw [camletlaw40_AsmAhead.j2]
      rw [if_pos rfl, hw, if_pos (by omega), if_pos (by omega), if_pos (by omega), if_pos (by rw [hlen']; omega), r1, r2, wp, wp', hn, if_pos rfl]
    by_cases ho : o0 = 1
    case neg =>
      refine Ev.step (f := fun k => camletlaw40_AsmAhead.j2 k l D ([0] ++ D') (i : Int) (D.length : Int) (i : Int) true) (fun k => ?_) (jt true rfl (fun h => ho h.2))
      rw [camletlaw40_AsmAhead.l0]
      rw [hrl]
      rw [if_pos (by omega), if_pos (by omega), if_pos (by omega), if_neg ho]
    refine Ev.step (f := fun k => camletlaw40_AsmAhead.j2 k l D ([0] ++ D') (i : Int) (D.length : Int) (i : Int) (f2.toList == ([] : List UInt8))) (fun k => ?_) ?_
    · rw [camletlaw40_AsmAhead.l0]
      rw [hrl]
      rw [if_pos (by omega), if_pos (by omega), if_pos (by omega), if_pos ho]
    by_cases e2 : f2.toList = ([] : List UInt8)
    · exact jt _ (beq_iff_eq.mpr e2) (fun h => h.1 e2)
    rw [beq_eq_false_iff_ne.mpr e2]
    subst ho
    rw [if_pos ⟨e2, rfl⟩] at hn
    have hr2 := hrg e2 rfl
    have t1 := takePut_1 wr
    have t2 := takePut_1 wr'
    rw [← wp] at t1
    rw [← wp', hn] at t2
    generalize asmNum l i ⟨f0, ⟨1, o1, o2, o3, o4⟩, f2⟩ = N at *
    refine Ev.step (f := fun k => camletlaw40_AsmAhead.l0 k l D ([0] ++ D') (D.length : Int) ((i + 1 : Nat) : Int)) (fun k => ?_) hnext
    rw [camletlaw40_AsmAhead.j2]
    rw [if_neg (by decide), hw, if_pos (by omega), if_pos (by omega), r1, t1]
    simp only [Option.bind_some]
    rw [if_pos (by omega), if_pos (by rw [hlen']; omega), r2, t2]
    simp only [Option.bind_some]
    rw [aw64 (n := N + 2) (by omega) (by omega)]
    simp
theorem AsmAhead.proved : AsmAhead.Pure := by
  intro l _
  refine Ev.rounds ?_
  unfold camletlaw40_AsmAhead.f
  obtain ⟨b, hb, hb2⟩ := asm_few l
  refine Ev.bind hb ?_
  cases b with
  | false => exact Ev.neg (by decide) (Ev.bind asm_knows (Ev.now _))
  | true =>
  refine Ev.pos rfl ?_
  obtain ⟨hl, hsz⟩ := hb2 rfl
  have hok' : asmOk (z0L :: l) := by
    intro x hx
    rcases List.mem_cons.1 hx with rfl | hx
    · exact ⟨by decide, by decide⟩
    · exact asm_ok hsz x hx
  have h1 := asm_of (l := l) (by omega) (asm_ok hsz)
  have h2 := asm_of (l := z0L :: l) (by first | (simp; done) | (simp; omega)) hok'
  rw [ah_head] at h2
  obtain ⟨he, hee⟩ := ah_go l hl l 0 [] [0]
  refine Ev.val rfl (Ev.pos (by first | (simp; done) | (simp; omega)) (Ev.val h1 (Ev.val h2 ?_)))
  by_cases h0 : (asmGo l l 0 []).2.2 = 0
  · refine Ev.pos h0 (Ev.pos (by rw [he]; exact h0) ?_)
    obtain ⟨D, d1, d2, d3⟩ := asmGo_ok l l 0 [] h0
    obtain ⟨D', e1, e2, e3⟩ := asmGo_ok (z0L :: l) l 1 [0] (by rw [he]; exact h0)
    rw [d1, e1, List.nil_append]
    dsimp only
    have hw : wrap64 ((D.length : Int) + 1) = (D.length : Int) + 1 := aw64 (by omega) (by omega)
    refine Ev.pos (by rw [hw]; first | (simp; done) | (simp; omega)) (Ev.pos (by first | (simp; done) | (simp; omega)) ?_)
    have hlo := ah_loop l hl D D' d2 e2 (fun j h hD => by have := d3 j h hD; rw [Nat.zero_add] at this; exact this) (fun j h hD => by have := (e3 j h hD).2.2; rw [Nat.add_comm 1 j] at this; exact this) l.length 0 (by omega)
    refine Ev.step (f := fun k => camletlaw40_AsmAhead.l0 k l D ([0] ++ D') (D.length : Int) 0) (fun k => ?_) hlo
    have hz : (rd ([0] ++ D') 0 != 0) = false := rfl
    rw [hz, camletlaw40_AsmAhead.j0]
    rw [if_neg (by decide)]
  · have hx := hee h0
    refine Ev.neg h0 (Ev.pos he (Ev.pos ?_ (Ev.bind asm_knows (Ev.now _))))
    rw [hx.1, aw64 (by omega) (by omega)]
end Go.Proofs.YtlhkojnocconfaaDoor.Q
