/- gc: what was copied stands block behind block. -/
import Derived.Test.YtnkbfbhhioemoaaQx0
import Derived.Test.YtnkbfbhhioemoaaQx13
import Derived.Test.YtnkbfbhhioemoaaQx14
import Derived.Test.YtnkbfbhhioemoaaGcAll
import Derived.Test.YtnkbfbhhioemoaaGcClosed
import Derived.Test.YtnkbfbhhioemoaaGcRef
import Derived.Test.YtnkbfbhhioemoaaGcSim
import Derived.Test.YtnkbfbhhioemoaaHeapPlain
import Derived.Test.YtnkbfbhhioemoaaHeapRef
--@needs XGcClosed
namespace Go.Proofs.Ytnkbfbhhioemoaa.Q
open Go.RowKit Go.Proofs.YtnkbfbhhioemoaaW.PrintWords Go.Proofs.YtnkbfbhhioemoaaW.PrintLast Go.Proofs.YtnkbfbhhioemoaaW.PrintMore
attribute [local go_sem] max2_int min2_int max_two min_two max_three min_three max_four min_four   -- for this text's walks alone
set_option linter.unusedVariables false
set_option linter.unusedSimpArgs false

theorem splV_of {w : Int} (h : splOk w) : splV w = (w % 16 / 2, w / 16 % 1024, w / 16384, true) := if_pos h
theorem GCop.blk_parts {m l : List Int} {F T t : Int} (H : GCop m F T t l) {b : Int} (hb : b ∈ l) : splOk (rd m b) ∧ gBlk m T b = 1 + rd m b / 16384 ∧ ¬ (rd m b % 16 / 2 = 1 ∧ rd m (b + 1) % 2 = 0) := by
  have hm := H.inv.mem b hb
  have hb1 : gBlk m T b = if splOk (rd m b) ∧ b + 1 + rd m b / 16384 ≤ T ∧ ¬ (rd m b % 16 / 2 = 1 ∧ rd m (b + 1) % 2 = 0) then 1 + rd m b / 16384 else 0 := rfl
  by_cases hc : splOk (rd m b) ∧ b + 1 + rd m b / 16384 ≤ T ∧ ¬ (rd m b % 16 / 2 = 1 ∧ rd m (b + 1) % 2 = 0)
  · rw [if_pos hc] at hb1
    exact ⟨hc.1, hb1, hc.2.2⟩
  · rw [if_neg hc] at hb1
    omega
section
variable {m : List Int} {F T t : Int} {l : List Int} (H : GCop m F T t l)
include H
theorem GCop.ref_block {b : Int} (hb : b ∈ l) : Ev (fun k => camletref41_block.f k (gNew m F T t l) (gPos m T t l b)) true := by
  have hs := H.pos_span hb
  have ht0 := H.t0
  have ht1 := H.t1
  have hlen := H.len
  have hnl := H.new_len
  have hh := H.new_head hb
  obtain ⟨h1, h2, h3⟩ := H.blk_parts hb
  have hv := rd_val H.new_vals (gPos m T t l b)
  have hm := H.inv.mem b hb
  unfold gEnd at hs
  refine Ev.some 1 (fun k => ?_)
  unfold camletref41_block.f
  rw [if_neg (by omega), if_neg (by omega), if_pos (by omega), if_pos (by omega), ref41_Split_eq _ _ hv.1 hv.2, hh, splV_of h1]
  simp only [Option.bind_some]
  rw [if_pos trivial, wr64 (n := gPos m T t l b + rd m b / 16384) (by omega), wr64 (n := gPos m T t l b + 1) (by omega), if_pos (by omega)]
  by_cases hk : rd m b % 16 / 2 = 1
  · rw [if_pos hk, if_pos (by omega), if_pos (by omega)]
    have hkid := H.new_kid hb 0 (by omega)
    simp only [Int.natCast_zero, Int.zero_add] at hkid
    have ho : rd m (b + 1) % 2 = 1 := by
      have : ¬ rd m (b + 1) % 2 = 0 := fun h => h3 ⟨hk, h⟩
      omega
    rw [hkid.1, H.chg_odd ho, Int.tmod_eq_emod_of_nonneg (rd_val H.vals _).1, ho]
    rfl
  · rw [if_neg hk]
theorem GCop.ref_Places : Ev (fun k => camletref41_Places.f k (gNew m F T t l) t (gEnd m T t l)) (l.map (gPos m T t l), true) := by
  have ht0 := H.t0
  have ht1 := H.t1
  have hlen := H.len
  have hnl := H.new_len
  have hll := H.inv.len H.hFT
  have hF := H.hF
  have hT := H.hT
  have : ∀ (d i : Nat), i + d = l.length → Ev (fun k => camletref41_Places.l0 k (gNew m F T t l) (gEnd m T t l) ((l.take i).map (gPos m T t l)) (t + gWords (gBlk m T) (l.take i))) (l.map (gPos m T t l), true) := by
    intro d
    induction d with
    | zero =>
      intro i hd
      rw [List.take_of_length_le (by omega)]
      refine Ev.some 1 (fun k => ?_)
      unfold gEnd
      rw [camletref41_Places.l0, if_neg (by omega)]
      simp
    | succ d ih =>
      intro i hd
      have hil : i < l.length := by omega
      have hbl := List.getElem_mem hil
      have e : l = l.take i ++ l[i] :: l.drop (i + 1) := by rw [← List.drop_eq_getElem_cons hil, List.take_append_drop]
      have hp : gPos m T t l l[i] = t + gWords (gBlk m T) (l.take i) := by
        have hn := H.inv.nodup
        unfold gPos
        have e3 : gMoved (gBlk m T) t (l.take i ++ l[i] :: l.drop (i + 1)) l[i] = some (t + gWords (gBlk m T) (l.take i)) := gMoved_pos (e ▸ hn)
        rw [← e] at e3
        rw [e3]; rfl
      have hs := H.pos_span hbl
      have hb1 := H.ref_block hbl
      have hh := H.new_head hbl
      obtain ⟨h1, h2, _⟩ := H.blk_parts hbl
      have hv := rd_val H.new_vals (gPos m T t l l[i])
      have hm := H.inv.mem _ hbl
      have e1 : gWords (gBlk m T) (l.take (i + 1)) = gWords (gBlk m T) (l.take i) + gBlk m T l[i] := by
        rw [List.take_succ_eq_append_getElem hil, gWords_append]; simp [gWords]
      have e2 : (l.take (i + 1)).map (gPos m T t l) = (l.take i).map (gPos m T t l) ++ [gPos m T t l l[i]] := by
        rw [List.take_succ_eq_append_getElem hil, List.map_append]; rfl
      have ih2 := ih (i + 1) (by omega)
      rw [e1, e2, h2] at ih2
      rw [← hp]
      rw [← Int.add_assoc, ← hp] at ih2
      have hs2 : gPos m T t l l[i] + 1 ≤ gEnd m T t l ∧ gEnd m T t l ≤ m.length ∧ 0 ≤ gPos m T t l l[i] := by unfold gEnd at hs ⊢; omega
      have hz : 0 ≤ rd m l[i] / 16384 ∧ gPos m T t l l[i] + 1 + rd m l[i] / 16384 ≤ 1000000 := by omega
      refine Ev.step (fun k => by rw [camletref41_Places.l0, if_pos (by omega)]) ?_
      refine Ev.bind hb1 (Ev.pos rfl (Ev.pos (by omega) (Ev.pos (by omega) ?_)))
      refine Ev.bind (Ev.some 1 (fun k => ref41_Split_eq k _ hv.1 hv.2)) ?_
      refine Ev.pos (by simp; omega) ?_
      rw [hh, splV_of h1]
      dsimp only
      rw [wr64 (n := gPos m T t l l[i] + 1) (by omega), wr64 (n := gPos m T t l l[i] + 1 + rd m l[i] / 16384) (by omega)]
      rw [show gPos m T t l l[i] + (1 + rd m l[i] / 16384) = gPos m T t l l[i] + 1 + rd m l[i] / 16384 by omega] at ih2
      exact ih2
  have h0 := this l.length 0 (by omega)
  simpa [camletref41_Places.f, gWords] using h0
end
theorem ref_Has {q : List Int} {x : Int} (hl : q.length ≤ 1000000) (h : x ∈ q) : Ev (fun k => camletref19_Has.f k q x) true := by
  have : ∀ (d i : Nat), i + d = q.length → x ∈ q.drop i → Ev (fun k => camletref19_Has.l0 k q x (q.length : Int) (i : Int)) true := by
    intro d
    induction d with
    | zero =>
      intro i hd hx
      rw [List.drop_eq_nil_of_le (by omega)] at hx
      simp at hx
    | succ d ih =>
      intro i hd hx
      rw [rd_cons_drop (by omega)] at hx
      refine Ev.step (fun k => by rw [camletref19_Has.l0, if_pos (show (i : Int) < (q.length : Int) by omega), if_pos (show (0 : Int) ≤ (i : Int) by omega), if_pos (show (i : Int) < (q.length : Int) by omega), wr64 (n := (i : Int) + 1) (by omega)]) ?_
      refine Ev.ite (fun _ => Ev.now _) (fun hne => ?_)
      rcases List.mem_cons.1 hx with hx | hx
      · exact absurd hx.symm hne
      · exact ih (i + 1) (by omega) hx
  exact this q.length 0 (by omega) (by simpa using h)
section
variable {m : List Int} {F T t : Int} {l : List Int} (H : GCop m F T t l)
include H
theorem GCop.ref_l1r {i : Nat} {r : Bool} (hil : i < l.length) (h : Ev (fun k => camletref41_Right.l0 k (gNew m F T t l) (l.map (gPos m T t l)) (l.length : Int) ((i + 1 : Nat) : Int)) r) (d : Nat) : ∀ j : Nat, (j : Int) + 1 + d = gBlk m T l[i] →
    Ev (fun k => camletref41_Right.l1 k (gNew m F T t l) (l.map (gPos m T t l)) (i : Int) (rd m l[i] % 16 / 2) (rd m l[i] / 16384) ((j : Int) + 1) (l.length : Int) (i : Int)) r := by
  have hbl := List.getElem_mem hil
  have hs := H.pos_span hbl
  have ht0 := H.t0
  have ht1 := H.t1
  have hlen := H.len
  have hnl := H.new_len
  have hll := H.inv.len H.hFT
  have hF := H.hF
  have hT := H.hT
  have hm := H.inv.mem _ hbl
  obtain ⟨h1, h2, _⟩ := H.blk_parts hbl
  have hrp : rd (l.map (gPos m T t l)) (i : Int) = gPos m T t l l[i] := by
    unfold rd
    rw [List.getD_eq_getElem?_getD, Int.toNat_natCast, List.getElem?_map, List.getElem?_eq_getElem hil]; rfl
  have hs2 : gPos m T t l l[i] + gBlk m T l[i] ≤ m.length ∧ 0 ≤ gPos m T t l l[i] := by unfold gEnd at hs; omega
  have hml : (l.map (gPos m T t l)).length = l.length := List.length_map _
  induction d with
  | zero =>
    intro j hd
    refine Ev.step (fun k => by rw [camletref41_Right.l1, if_neg (by omega), wr64 (n := (i : Int) + 1) (by omega)]) ?_
    exact h
  | succ d ih =>
    intro j hd
    have ih2 := ih (j + 1) (by omega)
    have hkid := H.new_kid hbl j (by omega)
    have hp1 : wrap64 (gPos m T t l l[i] + ((j : Int) + 1)) = gPos m T t l l[i] + ((j : Int) + 1) := wr64 (by omega)
    have hw1 : wrap64 ((j : Int) + 1 + 1) = ((j + 1 : Nat) : Int) + 1 := (wr64 (by omega)).trans (by omega)
    have q1 : (j : Int) + 1 ≤ rd m l[i] / 16384 := by clear hp1 hw1; omega
    have q2 : (0 : Int) ≤ (i : Int) := Int.natCast_nonneg i
    have q3 : (i : Int) < ((l.map (gPos m T t l)).length : Int) := by clear hp1 hw1; omega
    have q4 : (0 : Int) ≤ gPos m T t l l[i] + ((j : Int) + 1) := by clear hp1 hw1; omega
    have q5 : gPos m T t l l[i] + ((j : Int) + 1) < ((gNew m F T t l).length : Int) := by clear hp1 hw1; omega
    have hx := H.kids _ hbl _ hkid.2
    generalize rd m (l[i] + ((j : Int) + 1)) = x at hkid hx
    have hcv := rd_val H.new_vals (gPos m T t l l[i] + ((j : Int) + 1))
    rw [hkid.1] at hcv
    have hj3t : Ev (fun k => camletref41_Right.j3 k (gNew m F T t l) (l.map (gPos m T t l)) (i : Int) (rd m l[i] % 16 / 2) (rd m l[i] / 16384) ((j : Int) + 1) (gChg m F T t l x) (l.length : Int) (i : Int) true) r :=
      Ev.step (fun k => by rw [camletref41_Right.j3, if_pos rfl, hw1]) ih2
    have hj3f : Ev (fun k => camletref41_Right.j3 k (gNew m F T t l) (l.map (gPos m T t l)) (i : Int) (rd m l[i] % 16 / 2) (rd m l[i] / 16384) ((j : Int) + 1) (gChg m F T t l x) (l.length : Int) (i : Int) (Int.tmod (gChg m F T t l x) 2 == 1)) r := by
      rcases hx with hx | ⟨hx, hxl⟩
      · have e : (Int.tmod (gChg m F T t l x) 2 == 1) = true := by
          rw [Int.tmod_eq_emod_of_nonneg hcv.1, H.chg_odd hx, hx]; rfl
        rw [e]; exact hj3t
      · have hsx := H.pos_span hxl
        have e0 := H.chg_leads hx
        have e : (Int.tmod (gChg m F T t l x) 2 == 1) = false := by
          rw [Int.tmod_eq_emod_of_nonneg hcv.1, e0]
          exact beq_eq_false_iff_ne.mpr (by omega)
        rw [e]
        have hsx2 : 0 ≤ gPos m T t l (x / 4) ∧ gPos m T t l (x / 4) ≤ 1000000 := by
          have := H.inv.mem _ hxl
          unfold gEnd at hsx
          clear hp1 hw1
          omega
        refine Ev.step (fun k => by rw [camletref41_Right.j3, if_neg (by decide), if_pos (show Int.tmod (gChg m F T t l x) 4 = 0 by rw [Int.tmod_eq_emod_of_nonneg hcv.1, e0]; clear hp1 hw1; omega), e0, wr64 (n := 4 * gPos m T t l (x / 4)) (by clear hp1 hw1; omega), Int.tdiv_eq_ediv_of_nonneg (show 0 ≤ 4 * gPos m T t l (x / 4) by clear hp1 hw1; omega), show 4 * gPos m T t l (x / 4) / 4 = gPos m T t l (x / 4) by clear hp1 hw1; omega, wr64 (n := gPos m T t l (x / 4)) (by clear hp1 hw1; omega), hw1]) ?_
        refine Ev.bind (ref_Has (by rw [hml]; clear hp1 hw1; omega) (List.mem_map_of_mem hxl)) (Ev.pos rfl ?_)
        exact ih2
    refine Ev.step (fun k => by rw [camletref41_Right.l1, if_pos q1, if_pos q2, if_pos q3, hrp, hp1, if_pos q4, if_pos q5, hkid.1]) ?_
    exact Ev.ite (fun _ => Ev.ite (fun _ => hj3t) (fun _ => hj3f)) (fun _ => hj3f)
theorem GCop.ref_Right : Ev (fun k => camletref41_Right.f k (gNew m F T t l) t (gEnd m T t l)) true := by
  have ht0 := H.t0
  have ht1 := H.t1
  have hlen := H.len
  have hnl := H.new_len
  have hll := H.inv.len H.hFT
  have hF := H.hF
  have hT := H.hT
  have hw0 := gWords_nonneg H.inv.nonneg
  have hml : (l.map (gPos m T t l)).length = l.length := List.length_map _
  have hend : gEnd m T t l = t + gWords (gBlk m T) l := rfl
  refine Ev.congr (f := fun k => camletref41_Right.j0 k (gNew m F T t l) t (gEnd m T t l) false) (fun k => by unfold camletref41_Right.f; rw [if_neg (by omega), if_neg (by omega), decide_eq_false (by omega)]) ?_
  refine Ev.step (fun k => by rw [camletref41_Right.j0, if_neg (by decide)]) ?_
  refine Ev.bind H.ref_Places (Ev.pos rfl ?_)
  rw [hml]
  have : ∀ (d i : Nat), i + d = l.length → Ev (fun k => camletref41_Right.l0 k (gNew m F T t l) (l.map (gPos m T t l)) (l.length : Int) (i : Int)) true := by
    intro d
    induction d with
    | zero => intro i hd; exact Ev.some 1 (fun k => by rw [camletref41_Right.l0, if_neg (by omega)])
    | succ d ih =>
      intro i hd
      have hil : i < l.length := by omega
      have hbl := List.getElem_mem hil
      have hs := H.pos_span hbl
      have hm := H.inv.mem _ hbl
      have hh := H.new_head hbl
      obtain ⟨h1, h2, _⟩ := H.blk_parts hbl
      have hv := rd_val H.new_vals (gPos m T t l l[i])
      have hrp : rd (l.map (gPos m T t l)) (i : Int) = gPos m T t l l[i] := by
        unfold rd
        rw [List.getD_eq_getElem?_getD, Int.toNat_natCast, List.getElem?_map, List.getElem?_eq_getElem hil]; rfl
      have hl1 := H.ref_l1r hil (ih (i + 1) (by omega)) (gBlk m T l[i] - 1).toNat 0 (by omega)
      refine Ev.step (fun k => by rw [camletref41_Right.l0, if_pos (show (i : Int) < (l.length : Int) by omega), if_pos (show (0 : Int) ≤ (i : Int) by omega), if_pos (by rw [hml]; omega), hrp, if_pos (by omega), if_pos (by omega)]) ?_
      refine Ev.bind (Ev.some 1 (fun k => ref41_Split_eq k _ hv.1 hv.2)) ?_
      rw [hh, splV_of h1]
      exact hl1
  exact this l.length 0 (by omega)
end
end Go.Proofs.Ytnkbfbhhioemoaa.Q
