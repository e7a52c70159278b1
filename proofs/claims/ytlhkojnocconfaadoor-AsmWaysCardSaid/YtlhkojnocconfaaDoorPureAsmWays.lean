/- Every word is the encoding of the instruction of its line, with the number determined by the position of its label. -/
import Derived.Test.YtlhkojnocconfaaDoorAsmLaw
import Derived.Test.YtlhkojnocconfaaDoorStAsmWays
namespace Go.Proofs.YtlhkojnocconfaaDoor.Q
open Go.RowKit Go.Proofs.YtlhkojnocconfaaDoorW.PrintWords Go.Proofs.YtlhkojnocconfaaDoorW.PrintLast Go.Proofs.YtlhkojnocconfaaDoorW.PrintMore
set_option linter.unusedVariables false
set_option linter.unusedSimpArgs false

theorem asm_ways_go (l : List S36) (hl : l.length ≤ 100) (D : List Int) (hDl : D.length = l.length)
    (hD : ∀ (j : Nat) (h : j < l.length) (hD : j < D.length), asmWrong l j l[j] = 0 ∧ isaRight l[j].f1.f0 l[j].f1.f1 l[j].f1.f2 l[j].f1.f3 (asmNum l j l[j]) = true ∧ D[j] = isaPut l[j].f1.f0 l[j].f1.f1 l[j].f1.f2 l[j].f1.f3 (asmNum l j l[j])) :
    ∀ (d i : Nat), i + d = l.length → Ev (fun k => camletlaw40_AsmWays.l0 k l D l (l.length : Int) (i : Int)) true := by
  intro d
  induction d with
  | zero =>
    intro i hi
    refine Ev.step (f := fun k => (camletlaw40_knows.f k).bind fun t280 => (some t280)) (fun k => ?_) (Ev.bind asm_knows (Ev.now _))
    rw [camletlaw40_AsmWays.l0]
    rw [if_neg (by omega)]
  | succ d ih =>
    intro i hi
    have hlt : i < l.length := by omega
    have hw : wrap64 ((i : Int) + 1) = ((i + 1 : Nat) : Int) := by rw [aw64 (by omega) (by omega)]; omega
    have hnext := ih (i + 1) (by omega)
    obtain ⟨w0, wr, wp⟩ := hD i hlt (by omega)
    have hrd : rd D (i : Int) = D[i] := by
      unfold rd
      rw [Int.toNat_natCast, List.getD_eq_getElem?_getD, List.getElem?_eq_getElem (by omega)]
      rfl
    have hown := fun h => firstF_own hlt h
    obtain ⟨x, hx⟩ : ∃ x, l[i] = x := ⟨_, rfl⟩
    have hrl := rd_line hlt
    rw [hx] at w0 wr wp hown hrl
    obtain ⟨f0, ⟨o0, o1, o2, o3, o4⟩, f2⟩ := x
    dsimp only at w0 wr wp hown
    have hL0 := asm_Labels_eq l (by omega) f0
    have hL2 := asm_Labels_eq l (by omega) f2
    have r2 := labelsV_range (l := l) (s := f2) (by omega)
    have hput : ∀ n, n = asmNum l i ⟨f0, ⟨o0, o1, o2, o3, o4⟩, f2⟩ → isa_Put.f o0 o1 o2 o3 n = some (D[i], 0) := by
      intro n hn
      subst hn
      unfold isa_Put.f
      rw [if_pos wr, wp]
    have j1 : Ev (fun k => camletlaw40_AsmWays.j1 k l D (i : Int) l (l.length : Int) (i : Int) false f0 o0 o1 o2 o3 o4 f2 o0 o1 o2 o3 o4) true := by
      refine Ev.step (f := fun k => (asm_Labels.f k l f2).bind fun t285 => (if f2.toList = ([] : List UInt8) then ((isa_Put.f o0 o1 o2 o3 o4).bind fun bt286 => (if bt286.2 = 0 then (if 0 ≤ (i : Int) then (if (i : Int) < (D.length : Int) then (if bt286.1 = (rd D (i : Int)) then (camletlaw40_AsmWays.l0 k l D l (l.length : Int) ((i + 1 : Nat) : Int)) else (some false)) else (none)) else (none)) else (some false))) else (if o0 = 1 then (camletlaw40_AsmWays.j2 k l D (i : Int) t285 l (l.length : Int) (i : Int) o0 o1 o2 o3 (wrap64 ((wrap64 (2 * t285)) + 1))) else (camletlaw40_AsmWays.j2 k l D (i : Int) t285 l (l.length : Int) (i : Int) o0 o1 o2 o3 (wrap64 ((wrap64 (t285 - (i : Int))) - 1)))))) (fun k => ?_) ?_
      · rw [camletlaw40_AsmWays.j1]
        rw [if_neg (by decide), hw]
      refine Ev.bind hL2 ?_
      by_cases e2 : f2.toList = ([] : List UInt8)
      · refine Ev.pos e2 (Ev.val (hput o4 (by unfold asmNum; exact (if_pos e2).symm)) ?_)
        exact Ev.pos rfl (Ev.pos (by omega) (Ev.pos (by omega) (Ev.pos hrd.symm hnext)))
      refine Ev.neg e2 ?_
      have hsome : (firstF l (skey f2)).isSome = true := by
        unfold asmWrong at w0
        dsimp only at w0
        split at w0
        · exact absurd w0 (by decide)
        · split at w0
          · exact absurd w0 (by decide)
          · split at w0
            · exact absurd w0 (by decide)
            · split at w0
              · exact absurd w0 (by decide)
              · rename_i h
                cases hc : (firstF l (skey f2)).isSome with
                | true => rfl
                | false => exact absurd ⟨e2, hc⟩ h
      have hn := labelsV_some.1 hsome
      have hg := labelsV_getD hn
      have j2 : ∀ n, n = asmNum l i ⟨f0, ⟨o0, o1, o2, o3, o4⟩, f2⟩ → Ev (fun k => camletlaw40_AsmWays.j2 k l D (i : Int) (labelsV l f2) l (l.length : Int) (i : Int) o0 o1 o2 o3 n) true := by
        intro n hnn
        refine Ev.step (f := fun k => (isa_Put.f o0 o1 o2 o3 n).bind fun bt289 => (if bt289.2 = 0 then (if 0 ≤ (i : Int) then (if (i : Int) < (D.length : Int) then (if bt289.1 = (rd D (i : Int)) then (camletlaw40_AsmWays.l0 k l D l (l.length : Int) ((i + 1 : Nat) : Int)) else (some false)) else (none)) else (none)) else (some false))) (fun k => ?_) ?_
        · rw [camletlaw40_AsmWays.j2]
          rw [if_neg hn, hw]
        refine Ev.val (hput n hnn) ?_
        exact Ev.pos rfl (Ev.pos (by omega) (Ev.pos (by omega) (Ev.pos hrd.symm hnext)))
      have v1 : wrap64 (wrap64 (2 * labelsV l f2) + 1) = 2 * labelsV l f2 + 1 := by rw [aw64 (n := 2 * labelsV l f2) (by omega) (by omega), aw64 (by omega) (by omega)]
      have v2 : wrap64 (wrap64 (labelsV l f2 - (i : Int)) - 1) = labelsV l f2 - i - 1 := by rw [aw64 (n := labelsV l f2 - (i : Int)) (by omega) (by omega), aw64 (by omega) (by omega)]
      rw [v1, v2]
      by_cases ho : o0 = 1
      · exact Ev.pos ho (j2 _ (by unfold asmNum; rw [if_neg e2, if_pos ho, hg]))
      · exact Ev.neg ho (j2 _ (by unfold asmNum; rw [if_neg e2, if_neg ho, hg]))
    by_cases e0 : f0.toList = ([] : List UInt8)
    · refine Ev.step (f := fun k => camletlaw40_AsmWays.j1 k l D (i : Int) l (l.length : Int) (i : Int) false f0 o0 o1 o2 o3 o4 f2 o0 o1 o2 o3 o4) (fun k => ?_) j1
      rw [camletlaw40_AsmWays.l0]
      rw [hrl]
      rw [if_pos (by omega), if_pos (by omega), if_pos (by omega), if_pos e0]
    · have hli : labelsV l f0 = i := by
        obtain ⟨a, ha, hai⟩ := hown e0
        have hnot : ¬ ((firstF l (skey f0)).isSome = true ∧ (firstF l (skey f0)).getD 0 < (i : Int)) := by
          intro h
          unfold asmWrong at w0
          dsimp only at w0
          split at w0
          · exact absurd w0 (by decide)
          · first | exact absurd w0 (by decide) | (rw [if_pos h] at w0; exact absurd w0 (by decide))
        rw [ha] at hnot
        unfold labelsV
        rw [ha]
        have : ¬ (a : Int) < i := fun h => hnot ⟨rfl, h⟩
        show (a : Int) = i
        omega
      refine Ev.step (f := fun k => (asm_Labels.f k l f0).bind fun t284 => (camletlaw40_AsmWays.j1 k l D (i : Int) l (l.length : Int) (i : Int) (t284 != (i : Int)) f0 o0 o1 o2 o3 o4 f2 o0 o1 o2 o3 o4)) (fun k => ?_) (Ev.bind hL0 ?_)
      · rw [camletlaw40_AsmWays.l0]
        rw [hrl]
        rw [if_pos (by omega), if_pos (by omega), if_pos (by omega), if_neg e0]
      · rw [hli, bne_self_eq_false]
        exact j1
theorem AsmWays.proved : AsmWays.Pure := by
  intro l _
  refine Ev.rounds ?_
  unfold camletlaw40_AsmWays.f
  obtain ⟨b, hb, hb2⟩ := asm_few l
  refine Ev.bind hb ?_
  cases b with
  | false => exact Ev.neg (by decide) (Ev.bind asm_knows (Ev.now _))
  | true =>
  refine Ev.pos rfl ?_
  obtain ⟨hl, hsz⟩ := hb2 rfl
  refine Ev.val (asm_of (by omega) (asm_ok hsz)) ?_
  by_cases h0 : (asmGo l l 0 []).2.2 = 0
  · obtain ⟨D, h1, h2, h3⟩ := asmGo_ok l l 0 [] h0
    rw [h1, List.nil_append]
    refine Ev.pos rfl (Ev.pos (by show (D.length : Int) = _; omega) ?_)
    exact asm_ways_go l hl D h2 (fun j h hD => by have := h3 j h hD; rw [Nat.zero_add] at this; exact this) l.length 0 (by omega)
  · refine Ev.neg h0 ?_
    rw [asmGo_err l l 0 [] h0]
    exact Ev.pos rfl (Ev.bind asm_knows (Ev.now _))
end Go.Proofs.YtlhkojnocconfaaDoor.Q
