/- The names of labels have no effect. -/
import Derived.Test.YtlhkojnocconfaaDoorAsmLaw
import Derived.Test.YtlhkojnocconfaaDoorAsmSame
import Derived.Test.YtlhkojnocconfaaDoorStAsmNames
namespace Go.Proofs.YtlhkojnocconfaaDoor.Q
open Go.RowKit Go.Proofs.YtlhkojnocconfaaDoorW.PrintWords Go.Proofs.YtlhkojnocconfaaDoorW.PrintLast Go.Proofs.YtlhkojnocconfaaDoorW.PrintMore
set_option linter.unusedVariables false
set_option linter.unusedSimpArgs false

def zS (s : ByteArray) : ByteArray := (⟨#[122]⟩ : ByteArray) ++ s
def zz (s : ByteArray) : ByteArray := if s.toList = ([] : List UInt8) then s else zS s
def zed (x : S36) : S36 := ⟨zz x.f0, x.f1, zz x.f2⟩
theorem zS_list (s : ByteArray) : (zS s).data.toList = 122 :: s.data.toList := by
  unfold zS
  simp
theorem zS_size (s : ByteArray) : (zS s).size = 1 + s.size := by
  unfold zS
  rw [ByteArray.size_append]
  rfl
theorem zS_ne (s : ByteArray) : ¬ (zS s).toList = ([] : List UInt8) := by
  rw [toList_nil, zS_list]
  simp
theorem zz_nil {s : ByteArray} : (zz s).toList = ([] : List UInt8) ↔ s.toList = ([] : List UInt8) := by
  unfold zz
  by_cases h : s.toList = ([] : List UInt8)
  · rw [if_pos h]
  · rw [if_neg h]
    exact ⟨fun h2 => absurd h2 (zS_ne s), fun h2 => absurd h2 h⟩
theorem zz_may {s : ByteArray} (hs : s.size < 32) : mayB (zz s) = mayB s := by
  unfold mayB
  by_cases h : s.toList = ([] : List UInt8)
  · rw [if_pos h, if_pos (zz_nil.2 h)]
  rw [if_neg h, if_neg (fun h2 => h (zz_nil.1 h2))]
  unfold zz
  rw [if_neg h]
  unfold labelB
  rw [zS_list, zS_size, decide_eq_false (zS_ne s), decide_eq_false h, decide_eq_true (show ((1 + s.size : Nat) : Int) ≤ 32 by omega), decide_eq_true (show ((s.size : Nat) : Int) ≤ 32 by omega), List.all_cons]
  have e : decide (lch ((122 : UInt8).toNat : Int)) = true := by decide
  rw [e, Bool.true_and]
theorem zz_firstF (l : List S36) (s : ByteArray) : firstF (l.map zed) (skey (zz s)) = firstF l (skey s) := by
  unfold zz
  by_cases h : s.toList = ([] : List UInt8)
  · rw [if_pos h]
    unfold skey
    rw [(toList_nil s).1 h, firstF_nil, firstF_nil]
  rw [if_neg h]
  unfold skey
  rw [zS_list]
  rw [toList_nil] at h
  unfold firstF
  dsimp only
  rw [if_neg (by simp), if_neg h, List.findIdx?_map]
  congr 1
  congr 1
  funext x
  show ((zz x.f0).data.toList == 122 :: s.data.toList) = (x.f0.data.toList == s.data.toList)
  unfold zz
  by_cases hx : x.f0.toList = ([] : List UInt8)
  · rw [if_pos hx]
    rw [toList_nil] at hx
    rw [hx]
    have e1 : (([] : List UInt8) == 122 :: s.data.toList) = false := rfl
    have e2 : (([] : List UInt8) == s.data.toList) = false := beq_eq_false_iff_ne.mpr (fun h2 => h h2.symm)
    rw [e1, e2]
  · rw [if_neg hx, zS_list]
    simp
theorem zed_wrong (l : List S36) (i : Nat) (x : S36) (h0 : x.f0.size < 32) (h2 : x.f2.size < 32) : asmWrong (l.map zed) i (zed x) = asmWrong l i x := by
  unfold asmWrong
  have e0 : (zed x).f0 = zz x.f0 := rfl
  have e1 : (zed x).f1 = x.f1 := rfl
  have e2 : (zed x).f2 = zz x.f2 := rfl
  rw [e0, e1, e2, zz_may h0, zz_may h2, zz_firstF, zz_firstF]
  simp only [zz_nil]
theorem zed_num (l : List S36) (i : Nat) (x : S36) : asmNum (l.map zed) i (zed x) = asmNum l i x := by
  unfold asmNum
  have e0 : (zed x).f0 = zz x.f0 := rfl
  have e1 : (zed x).f1 = x.f1 := rfl
  have e2 : (zed x).f2 = zz x.f2 := rfl
  rw [e1, e2, zz_firstF]
  simp only [zz_nil]
theorem zed_go (l : List S36) : ∀ (r : List S36) (i : Nat) (acc : List Int), (∀ x ∈ r, x.f0.size < 32 ∧ x.f2.size < 32) → asmGo (l.map zed) (r.map zed) i acc = asmGo l r i acc
  | [], i, acc, _ => rfl
  | x :: r, i, acc, h => by
    have hx := h x (by simp)
    have ih := fun a => zed_go l r (i + 1) a (fun y hy => h y (List.mem_cons_of_mem _ hy))
    rw [List.map_cons, asmGo, asmGo, zed_wrong l i x hx.1 hx.2, zed_num]
    rw [ih]
    rfl
def zmid (l : List S36) (i : Nat) : List S36 := (l.take i).map zed ++ l.drop i
theorem zmid_len (l : List S36) (i : Nat) : (zmid l i).length = l.length := by
  unfold zmid
  rw [List.length_append, List.length_map, List.length_take, List.length_drop]
  omega
theorem zmid_at {l : List S36} {i : Nat} (h : i < l.length) : rd_T36 (zmid l i) (i : Int) = l[i] := by
  rw [rd_line (by rw [zmid_len]; exact h)]
  unfold zmid
  rw [List.getElem_append_right (by rw [List.length_map, List.length_take]; omega)]
  simp only [List.length_map, List.length_take, List.getElem_drop]
  congr 1
  omega
theorem zmid_set {l : List S36} {i : Nat} (h : i < l.length) : (zmid l i).set i (zed l[i]) = zmid l (i + 1) := by
  unfold zmid
  rw [List.set_append_right _ _ (by rw [List.length_map, List.length_take]; omega)]
  have e : i - ((l.take i).map zed).length = 0 := by rw [List.length_map, List.length_take]; omega
  rw [e, List.drop_eq_getElem_cons h, List.set_cons_zero, List.take_succ_eq_append_getElem h, List.map_append]
  simp
theorem rd_set {l : List S36} {i : Nat} (v : S36) (h : i < l.length) : rd_T36 (l.set i v) (i : Int) = v := by
  rw [rd_line (by rw [List.length_set]; exact h)]
  rw [List.getElem_set_self]
theorem asm_names_go (l : List S36) (hl : l.length ≤ 100) (hsz : ∀ x ∈ l, x.f0.size ≤ 60 ∧ x.f2.size ≤ 60) : ∀ (d i : Nat), i + d = l.length → (∀ x ∈ l.take i, x.f0.size < 32 ∧ x.f2.size < 32) → Ev (fun k => camletlaw40_AsmNames.l0 k l (zmid l i) (l.length : Int) (i : Int)) true := by
  intro d
  induction d with
  | zero =>
    intro i hi hs
    have e1 : l.take i = l := List.take_of_length_le (by omega)
    have e2 : zmid l i = l.map zed := by unfold zmid; rw [e1, List.drop_eq_nil_of_le (by omega), List.append_nil]
    rw [e1] at hs
    rw [e2]
    have hz : asmOk (l.map zed) := by
      intro x hx
      obtain ⟨y, hy, rfl⟩ := List.mem_map.1 hx
      have := hs y hy
      have sz : ∀ s : ByteArray, s.size < 32 → (zz s).size ≤ 9223372036854775807 := by
        intro s h
        unfold zz
        split
        · omega
        · rw [zS_size]; omega
      exact ⟨sz _ this.1, sz _ this.2⟩
    have h1 := asm_of (l := l) (by omega) (asm_ok hsz)
    have h2 := asm_of (l := l.map zed) (by rw [List.length_map]; omega) hz
    rw [zed_go l l 0 [] hs] at h2
    have hlen := asmGo_len l l 0 []
    refine Ev.step (f := fun k => (asm_Of.f l).bind fun bt219 => ((asm_Of.f (l.map zed)).bind fun bt224 => ((camletref40_SameWords.f k bt219.1 bt224.1).bind fun t229 => (if t229 = true then (if bt219.2.1 = bt224.2.1 then (if bt219.2.2 = bt224.2.2 then ((camletlaw40_knows.f k).bind fun t230 => (some t230)) else (some false)) else (some false)) else (some false))))) (fun k => ?_) ?_
    · rw [camletlaw40_AsmNames.l0]
      rw [if_neg (by omega)]
    refine Ev.val h1 (Ev.val h2 (Ev.bind (asm_same _ (by simp at hlen; omega)) (Ev.pos rfl (Ev.pos rfl (Ev.pos rfl (Ev.bind asm_knows (Ev.now _)))))))
  | succ d ih =>
    intro i hi hs
    have hlt : i < l.length := by omega
    have hw : wrap64 ((i : Int) + 1) = ((i + 1 : Nat) : Int) := by rw [aw64 (by omega) (by omega)]; omega
    have hzl := zmid_len l i
    have kn : ∀ b : Bool, b = true → Ev (fun k => camletlaw40_AsmNames.j1 k l (zmid l i) (i : Int) (l.length : Int) (i : Int) b) true := by
      intro b hb
      subst hb
      refine Ev.step (f := fun k => (camletlaw40_knows.f k).bind fun t209 => (some t209)) (fun k => ?_) (Ev.bind asm_knows (Ev.now _))
      rw [camletlaw40_AsmNames.j1]
      rw [if_pos rfl]
    have hat := zmid_at hlt
    by_cases h0 : ((l[i].f0).size : Int) ≥ 32
    · refine Ev.step (f := fun k => camletlaw40_AsmNames.j1 k l (zmid l i) (i : Int) (l.length : Int) (i : Int) true) (fun k => ?_) (kn true rfl)
      rw [camletlaw40_AsmNames.l0]
      rw [if_pos (by omega), if_pos (by omega), if_pos (by omega), hat, if_pos h0]
    refine Ev.step (f := fun k => camletlaw40_AsmNames.j1 k l (zmid l i) (i : Int) (l.length : Int) (i : Int) (decide (((l[i].f2).size : Int) ≥ 32))) (fun k => ?_) ?_
    · rw [camletlaw40_AsmNames.l0]
      rw [if_pos (by omega), if_pos (by omega), if_pos (by omega), hat, if_neg h0]
    by_cases h2 : ((l[i].f2).size : Int) ≥ 32
    · exact kn _ (decide_eq_true h2)
    rw [decide_eq_false h2]
    have hnext := ih (i + 1) (by omega) (by
      intro x hx
      rw [List.take_succ_eq_append_getElem hlt] at hx
      rcases List.mem_append.1 hx with hx | hx
      · exact hs x hx
      · obtain rfl := List.mem_singleton.1 hx
        exact ⟨by omega, by omega⟩)
    rw [← zmid_set hlt] at hnext
    refine Ev.step (f := fun k => camletlaw40_AsmNames.l0 k l ((zmid l i).set i (zed l[i])) (l.length : Int) ((i + 1 : Nat) : Int)) (fun k => ?_) hnext
    rw [camletlaw40_AsmNames.j1]
    rw [if_neg (by decide), if_pos (by omega), if_pos (by omega), hat, hw]
    obtain ⟨x, hx⟩ : ∃ x, l[i] = x := ⟨_, rfl⟩
    rw [hx] at h0 h2 hat ⊢
    obtain ⟨f0, ⟨o0, o1, o2, o3, o4⟩, f2⟩ := x
    dsimp only at h0 h2 ⊢
    have hset : ∀ v, rd_T36 ((zmid l i).set i v) (i : Int) = v := fun v => rd_set v (by omega)
    simp only [Int.toNat_natCast]
    unfold zed zz
    dsimp only
    by_cases e0 : f0.toList = ([] : List UInt8)
    · rw [if_pos e0, if_pos e0]
      by_cases e2 : f2.toList = ([] : List UInt8)
      · rw [if_pos e2, if_pos e2]
        have hself : (zmid l i).set i ⟨f0, ⟨o0, o1, o2, o3, o4⟩, f2⟩ = zmid l i := by
          have hz : (zmid l i)[i]'(by omega) = ⟨f0, ⟨o0, o1, o2, o3, o4⟩, f2⟩ := by
            rw [← hat]
            exact (rd_line (by omega)).symm
          rw [← hz]
          exact List.set_getElem_self _
        rw [hself]
      · rw [if_neg e2, if_neg e2, if_pos (by omega)]
        rfl
    · rw [if_neg e0, if_neg e0, if_pos (by omega)]
      simp only [Option.bind_some]
      rw [hset]
      by_cases e2 : f2.toList = ([] : List UInt8)
      · rw [if_pos e2, if_pos e2]
        rfl
      · rw [if_neg e2, if_neg e2, if_pos (by show 1 + f2.size ≤ _; omega)]
        rw [List.set_set]
        rfl
theorem AsmNames.proved : AsmNames.Pure := by
  intro l _
  refine Ev.rounds ?_
  unfold camletlaw40_AsmNames.f
  obtain ⟨b, hb, hb2⟩ := asm_few l
  refine Ev.bind hb ?_
  cases b with
  | false => exact Ev.neg (by decide) (Ev.bind asm_knows (Ev.now _))
  | true =>
  refine Ev.pos rfl ?_
  obtain ⟨hl, hsz⟩ := hb2 rfl
  have hgo := asm_names_go l hl hsz l.length 0 (by omega) (by simp)
  refine Ev.val rfl (Ev.pos (by simp only [List.length_nil]; omega) (Ev.val rfl ?_))
  have e : zmid l 0 = ([] : List S36) ++ l := by unfold zmid; simp
  rw [e] at hgo
  simpa using hgo
end Go.Proofs.YtlhkojnocconfaaDoor.Q
