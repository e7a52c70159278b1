/- isa.things: what an instruction has, in order. By wip/gen/isa_things.py. -/
import Derived.Test.YtlhkojnocconfaaDoorQx0
import Derived.Test.YtlhkojnocconfaaDoorAw
import Derived.Test.YtlhkojnocconfaaDoorAwAll
import Derived.Test.YtlhkojnocconfaaDoorHisaOf
import Derived.Test.YtlhkojnocconfaaDoorHisaPut
import Derived.Test.YtlhkojnocconfaaDoorHisaReg
import Derived.Test.YtlhkojnocconfaaDoorHisaRight
--@needs XHisaRight
--@needs XHisaPut
--@needs XHisaOf
--@needs XHisaReg
--@needs XAw
--@needs XAwSl
import Derived.LoopTactic
import Derived.Lib.Hide
namespace Go.Proofs.YtlhkojnocconfaaDoor.Q
open Go.RowKit Go.Proofs.YtlhkojnocconfaaDoorW.PrintWords Go.Proofs.YtlhkojnocconfaaDoorW.PrintLast Go.Proofs.YtlhkojnocconfaaDoorW.PrintMore
attribute [local go_sem] max2_int min2_int max_two min_two max_three min_three max_four min_four   -- for this text's walks alone
set_option linter.unusedVariables false
set_option linter.unusedSimpArgs false

def regVals (D A B : Int) (l : List UInt8) : List Int := l.map fun c => regVal c D A B
def isaThings (k D A B N : Int) : List Int :=
  if k = 24 then N :: regVals D A B (isaOf k N).2.1.data.toList else if 0 < (isaOf k N).2.2.2 then regVals D A B (isaOf k N).2.1.data.toList ++ [N] else regVals D A B (isaOf k N).2.1.data.toList
/-- a slice value that reads as a list of whole numbers -/
def SlI (q : IntKind) (w : World) (v : Value) (l : List Int) : Prop := ∃ A c, v = .slice A l.length c ∧ l.length ≤ c ∧ (Kd.int q).C w A l.length l
theorem Own.sli {q : IntKind} {e : Nat} {v : Value} {l : List Int} {Lv L : List (Nat × Blk)} {S : Nat → Prop} {w W : World} (h : Own e 1 v l.length (l.map (Value.int q)) Lv) (HA : Aw S w W L) (hs : ∀ x ∈ Lv, x ∈ L) (hm : l.length ≤ 9223372036854775807) : SlI q W v l := by
  obtain ⟨hl, ⟨rfl, hn, rfl⟩ | ⟨g, cap, rfl, hc, rfl⟩⟩ := h
  · have e : l = [] := List.length_eq_zero_iff.1 hn
    subst e
    exact ⟨none, 0, rfl, Nat.le_refl _, Kd.C_nil _ _⟩
  · refine ⟨some ⟨g, 0, none⟩, cap, rfl, hc, Kd.C_of_reads (d := 0) ⟨rfl, hm, fun _ => ⟨_, rfl, fun j hj => ?_⟩⟩⟩
    have h2 := Own.cell (e := e) (size := 1) (v := .slice (some ⟨g, 0, none⟩) l.length cap) (Lv := [(g, Blk.r e 1 cap (l.map (Value.int q)))]) ⟨hl, .inr ⟨g, cap, rfl, hc, rfl⟩⟩ HA hs (j := j) (u := .int q (l.getD j 0)) (by simp [List.getD_eq_getElem?_getD, List.getElem?_eq_getElem hj])
    obtain ⟨g2, cap2, e2, hcell⟩ := h2
    injection e2 with e2
    injection e2 with e2
    injection e2 with e2
    subst e2
    rw [Addr.add_mid, Nat.zero_add]
    exact hcell
theorem things_sys {k D A B N : Int} (hr : isaRight k D A B N = true) : k = 24 → (isaOf k N).2.1.data.toList ≠ [] := by
  rintro rfl
  unfold isaRight at hr
  split at hr
  · cases hr
  · rename_i h
    have hN : 1 ≤ N ∧ N ≤ 4 := by
      have hlh : (isaOf 24 N).2.2 = (1, 4) := by
        unfold isaOf; split <;> rfl
      rw [hlh] at h
      omega
    unfold isaOf
    rw [if_pos ⟨rfl, hN⟩]
    unfold sysRegs
    repeat' split
    all_goals simp
theorem int_info : (Tryd.prog.info? 3).map (fun i => (i.zero, i.size, i.bytes)) = some (some (.int .i64 0), 1, 8) := by kernel_rfl
set_option maxHeartbeats 4000000 in
set_option maxRecDepth 100000 in
theorem isa_things.calls (a0_0 : Int) (a0_1 : Int) (a0_2 : Int) (a0_3 : Int) (a0_4 : Int) (w : World) (hr : isaRight a0_0 a0_1 a0_2 a0_3 a0_4 = true) :
    Calls Tryd.prog 59 #[.agg #[.int .i64 a0_0, .int .i64 a0_1, .int .i64 a0_2, .int .i64 a0_3, .int .i64 a0_4]] w fun e w' => (∃ v, e = .returned v ∧ SlI .i64 w' v (isaThings a0_0 a0_1 a0_2 a0_3 a0_4)) ∧ Below w.heap.size w w' := by
  have HA := Aw.start noS w
  have hO := fun w => isa_of.calls a0_0 a0_1 a0_2 a0_3 a0_4 w
  have HO := of_regs a0_0 a0_4
  have hsys := things_sys hr
  unfold isaThings
  generalize isaOf a0_0 a0_4 = fm at HO hO hsys ⊢
  obtain ⟨nm, rg, lo, hi⟩ := fm
  dsimp only at HO hO hsys ⊢
  have HO2 := Lib.hid HO
  have Hsys := Lib.hid hsys
  clear HO hr hsys
  obtain ⟨res, hres⟩ : ∃ res, (if a0_0 = 24 then a0_4 :: regVals a0_1 a0_2 a0_3 rg.data.toList else if 0 < hi then regVals a0_1 a0_2 a0_3 rg.data.toList ++ [a0_4] else regVals a0_1 a0_2 a0_3 rg.data.toList) = res := ⟨_, rfl⟩
  rw [hres]
  have Hres := Lib.hid hres
  clear hres
  go_enter Tryd.func59, Tryd.ntmps59
  go_wp2_with (first | ((with_reducible refine gate_dst (N := 1) rfl ?_); refine aw_box rfl rfl rfl HA ?_; clear HA; intro go W_ HA; simp only [Act.put, List.setIfInBounds_toArray, List.set_cons_succ, List.set_cons_zero]) | ((with_reducible refine gate_dst (N := 3) rfl ?_); refine aw_alloc rfl rfl form_zero HA ?_; clear HA; intro gf W_ HA; simp only [Act.put, List.setIfInBounds_toArray, List.set_cons_succ, List.set_cons_zero]) | ((with_reducible refine gate_dst (N := 11) rfl ?_); refine aw_range rfl rfl rfl ?_ HA ?_; kernel_rfl; clear HA; intro gi W_ HA; simp only [Act.put, List.setIfInBounds_toArray, List.set_cons_succ, List.set_cons_zero]) | (go_at_call 25; refine (hO _).mono ?_; rintro e W_ ⟨rfl, hb_⟩; replace HA := HA.call hb_; clear hb_) | ((with_reducible refine gate_ld rfl ?_); (first | refine aw_loadW 0 (t := 34) rfl rfl HA rfl rfl ?_ ?_ | refine aw_loadW 1 (t := 34) rfl rfl HA rfl rfl ?_ ?_ | refine aw_loadW 2 (t := 34) rfl rfl HA rfl rfl ?_ ?_ | refine aw_loadW 3 (t := 34) rfl rfl HA rfl rfl ?_ ?_ | refine aw_loadW 4 (t := 34) rfl rfl HA rfl rfl ?_ ?_ | refine aw_loadW 0 (t := 54) rfl rfl HA rfl rfl ?_ ?_ | refine aw_loadW 1 (t := 54) rfl rfl HA rfl rfl ?_ ?_ | refine aw_loadW 2 (t := 54) rfl rfl HA rfl rfl ?_ ?_ | refine aw_loadW 3 (t := 54) rfl rfl HA rfl rfl ?_ ?_ | refine aw_loadW 4 (t := 54) rfl rfl HA rfl rfl ?_ ?_ | refine aw_load 0 rfl rfl HA rfl rfl rfl ?_ ?_ | refine aw_load 1 rfl rfl HA rfl rfl rfl ?_ ?_ | refine aw_load 2 rfl rfl HA rfl rfl rfl ?_ ?_ | refine aw_load 3 rfl rfl HA rfl rfl rfl ?_ ?_ | refine aw_load 4 rfl rfl HA rfl rfl rfl ?_ ?_); kernel_rfl; simp only [Act.put, List.setIfInBounds_toArray, List.set_cons_succ, List.set_cons_zero]) | ((with_reducible refine gate_st rfl ?_); (first | refine aw_storeW 0 (t := 34) rfl rfl rfl rfl HA rfl rfl rfl ?_ rfl ?_ | refine aw_storeW 1 (t := 34) rfl rfl rfl rfl HA rfl rfl rfl ?_ rfl ?_ | refine aw_storeW 2 (t := 34) rfl rfl rfl rfl HA rfl rfl rfl ?_ rfl ?_ | refine aw_storeW 3 (t := 34) rfl rfl rfl rfl HA rfl rfl rfl ?_ rfl ?_ | refine aw_storeW 4 (t := 34) rfl rfl rfl rfl HA rfl rfl rfl ?_ rfl ?_ | refine aw_storeW 0 (t := 54) rfl rfl rfl rfl HA rfl rfl rfl ?_ rfl ?_ | refine aw_storeW 1 (t := 54) rfl rfl rfl rfl HA rfl rfl rfl ?_ rfl ?_ | refine aw_storeW 2 (t := 54) rfl rfl rfl rfl HA rfl rfl rfl ?_ rfl ?_ | refine aw_storeW 3 (t := 54) rfl rfl rfl rfl HA rfl rfl rfl ?_ rfl ?_ | refine aw_storeW 4 (t := 54) rfl rfl rfl rfl HA rfl rfl rfl ?_ rfl ?_ | refine aw_store 0 (v := .int _ _) rfl rfl rfl rfl rfl HA rfl rfl rfl ?_ ?_ | refine aw_store 1 (v := .int _ _) rfl rfl rfl rfl rfl HA rfl rfl rfl ?_ ?_ | refine aw_store 2 (v := .int _ _) rfl rfl rfl rfl rfl HA rfl rfl rfl ?_ ?_ | refine aw_store 3 (v := .int _ _) rfl rfl rfl rfl rfl HA rfl rfl rfl ?_ ?_ | refine aw_store 4 (v := .int _ _) rfl rfl rfl rfl rfl HA rfl rfl rfl ?_ ?_); kernel_rfl; clear HA; intro W_ HA; dsimp only [List.set, List.take, List.cons_append, List.nil_append] at HA))
  go_loopw [4] (fun out wr => ∃ (pos : Nat) (Lv : List (Nat × Blk)), pos ≤ rg.size ∧ Own 3 1 out (regVals a0_1 a0_2 a0_3 (rg.data.toList.take pos)).length ((regVals a0_1 a0_2 a0_3 (rg.data.toList.take pos)).map (Value.int .i64)) Lv ∧ Aw noS w wr ((gi, .i rg pos) :: (gf, .c 54 [.string nm, .string rg, .int .i64 lo, .int .i64 hi]) :: (go, .c 34 [.int .i64 a0_0, .int .i64 a0_1, .int .i64 a0_2, .int .i64 a0_3, .int .i64 a0_4]) :: Lv)) (fun _ wr => rg.size - wr.iterPos gi)
  case atStart => exact ⟨0, [], Nat.zero_le _, Own.nil _ _, HA⟩
  case round =>
    obtain ⟨pos, Lv, hpos, hown, HA⟩ := hrel
    have Hip := Lib.hid (HA.pos (i := 0) rfl)
    obtain ⟨l, hdr⟩ : ∃ l, rg.data.toList.drop pos = l := ⟨_, rfl⟩
    cases l with
    | nil =>
      have hend := at_end hdr
      have htk : rg.data.toList.take pos = rg.data.toList := by
        have := List.drop_eq_nil_iff.1 hdr
        exact List.take_of_length_le this
      rw [htk] at hown
      have hlv : (regVals a0_1 a0_2 a0_3 rg.data.toList).length ≤ 3 := by
        have := HO2.out.2
        simp only [regVals, List.length_map]
        simpa using this
      have hne : a0_0 = 24 → regVals a0_1 a0_2 a0_3 rg.data.toList ≠ [] := fun h => by
        have := Hsys.out h
        simpa [regVals] using this
      have hR := Hres.out
      clear Hres
      generalize regVals a0_1 a0_2 a0_3 rg.data.toList = rv at hown hlv hne hR
      have Hdr := Lib.hid hdr
      have Hne := Lib.hid hne
      have HR := Lib.hid hR
      clear hdr htk hne hR
      by_cases h24 : a0_0 = 24
      · have hrv := Hne.out h24
        obtain ⟨hl, ⟨_, hn, _⟩ | ⟨g2, cap, rfl, hc, rfl⟩⟩ := hown
        · exact absurd (List.length_eq_zero_iff.1 hn) hrv
        have hres := HR.out
        rw [if_pos h24] at hres
        have Hres := Lib.hid hres
        have c24 := beq_iff_eq.mpr h24
        clear hres hrv
        go_wp2_with (first | ((with_reducible refine gate_dst (N := 28) rfl ?_); refine aw_newv (fun g => .slice (some ⟨g, 0, none⟩) 1 1) 3 [.int .i64 a0_4] rfl (fun W => by kernel_rfl) HA ?_; clear HA; intro gn W_ HA; simp only [Act.put, List.setIfInBounds_toArray, List.set_cons_succ, List.set_cons_zero]) | ((with_reducible refine gate_dst (N := 30) rfl ?_); refine aw_append_lit 3 Tryd.underlying92 int_info rfl rfl rfl rfl HA rfl rfl rfl ?_ ?_ ?_ ?_ ?_; (simp); (simp; intros; rfl); (unfold maxLen; omega); (omega); clear HA; intro v_ W_ Lv_ hown_ HA; dsimp only [List.set, List.take, List.cons_append, List.nil_append] at HA; simp only [Act.put, List.setIfInBounds_toArray, List.set_cons_succ, List.set_cons_zero]) | ((with_reducible refine gate_ld rfl ?_); (first | refine aw_loadW 0 (t := 34) rfl rfl HA rfl rfl ?_ ?_ | refine aw_loadW 1 (t := 34) rfl rfl HA rfl rfl ?_ ?_ | refine aw_loadW 2 (t := 34) rfl rfl HA rfl rfl ?_ ?_ | refine aw_loadW 3 (t := 34) rfl rfl HA rfl rfl ?_ ?_ | refine aw_loadW 4 (t := 34) rfl rfl HA rfl rfl ?_ ?_ | refine aw_loadW 0 (t := 54) rfl rfl HA rfl rfl ?_ ?_ | refine aw_loadW 1 (t := 54) rfl rfl HA rfl rfl ?_ ?_ | refine aw_loadW 2 (t := 54) rfl rfl HA rfl rfl ?_ ?_ | refine aw_loadW 3 (t := 54) rfl rfl HA rfl rfl ?_ ?_ | refine aw_loadW 4 (t := 54) rfl rfl HA rfl rfl ?_ ?_ | refine aw_load 0 rfl rfl HA rfl rfl rfl ?_ ?_ | refine aw_load 1 rfl rfl HA rfl rfl rfl ?_ ?_ | refine aw_load 2 rfl rfl HA rfl rfl rfl ?_ ?_ | refine aw_load 3 rfl rfl HA rfl rfl rfl ?_ ?_ | refine aw_load 4 rfl rfl HA rfl rfl rfl ?_ ?_); kernel_rfl; simp only [Act.put, List.setIfInBounds_toArray, List.set_cons_succ, List.set_cons_zero]) | ((with_reducible refine gate_st rfl ?_); (first | refine aw_storeW 0 (t := 34) rfl rfl rfl rfl HA rfl rfl rfl ?_ rfl ?_ | refine aw_storeW 1 (t := 34) rfl rfl rfl rfl HA rfl rfl rfl ?_ rfl ?_ | refine aw_storeW 2 (t := 34) rfl rfl rfl rfl HA rfl rfl rfl ?_ rfl ?_ | refine aw_storeW 3 (t := 34) rfl rfl rfl rfl HA rfl rfl rfl ?_ rfl ?_ | refine aw_storeW 4 (t := 34) rfl rfl rfl rfl HA rfl rfl rfl ?_ rfl ?_ | refine aw_storeW 0 (t := 54) rfl rfl rfl rfl HA rfl rfl rfl ?_ rfl ?_ | refine aw_storeW 1 (t := 54) rfl rfl rfl rfl HA rfl rfl rfl ?_ rfl ?_ | refine aw_storeW 2 (t := 54) rfl rfl rfl rfl HA rfl rfl rfl ?_ rfl ?_ | refine aw_storeW 3 (t := 54) rfl rfl rfl rfl HA rfl rfl rfl ?_ rfl ?_ | refine aw_storeW 4 (t := 54) rfl rfl rfl rfl HA rfl rfl rfl ?_ rfl ?_ | refine aw_store 0 (v := .int _ _) rfl rfl rfl rfl rfl HA rfl rfl rfl ?_ ?_ | refine aw_store 1 (v := .int _ _) rfl rfl rfl rfl rfl HA rfl rfl rfl ?_ ?_ | refine aw_store 2 (v := .int _ _) rfl rfl rfl rfl rfl HA rfl rfl rfl ?_ ?_ | refine aw_store 3 (v := .int _ _) rfl rfl rfl rfl rfl HA rfl rfl rfl ?_ ?_ | refine aw_store 4 (v := .int _ _) rfl rfl rfl rfl rfl HA rfl rfl rfl ?_ ?_); kernel_rfl; clear HA; intro W_ HA; dsimp only [List.set, List.take, List.cons_append, List.nil_append] at HA) | ((with_reducible refine gate_nx rfl ?_); (refine aw_next_end 0 rfl rfl rfl HA rfl hend ?_); simp only [Act.put, List.setIfInBounds_toArray, List.set_cons_succ, List.set_cons_zero]))
        go_ret
        have hl2 : (1 + rv.length) = res.length := by rw [← Hres.out]; simp; omega
        refine ⟨⟨_, rfl, Own.sli (e := 3) (Lv := Lv_) ?_ HA (by rintro ⟨a, b⟩ hx; simp [hx]) (by rw [← hl2]; omega)⟩, HA.below⟩
        rw [← Hres.out]
        have e2 : 1 + rv.length = (a0_4 :: rv).length := by simp; omega
        rw [← e2]
        exact hown_
      have n24 := beq_eq_false_iff_ne.mpr h24
      have hres := HR.out
      rw [if_neg h24] at hres
      by_cases hhi : 0 < hi
      · rw [if_pos hhi] at hres
        have chi := decide_eq_true hhi
        have Hres := Lib.hid hres
        clear hres
        go_wp2_with (first | ((with_reducible refine gate_dst (N := 38) rfl ?_); refine aw_newv (fun g => .slice (some ⟨g, 0, none⟩) 1 1) 3 [.int .i64 a0_4] rfl (fun W => by kernel_rfl) HA ?_; clear HA; intro gn W_ HA; simp only [Act.put, List.setIfInBounds_toArray, List.set_cons_succ, List.set_cons_zero]) | ((with_reducible refine gate_dst (N := 39) rfl ?_); refine aw_append 4 0 rfl Tryd.underlying92 int_info rfl (Nat.le_refl 1) rfl hown rfl rfl HA rfl rfl rfl rfl ?_ ?_ ?_; (unfold maxLen; omega); (omega); clear HA; intro v_ W_ Lv_ hown_ HA; dsimp only [List.set, List.take, List.cons_append, List.nil_append] at HA; simp only [Act.put, List.setIfInBounds_toArray, List.set_cons_succ, List.set_cons_zero]) | ((with_reducible refine gate_ld rfl ?_); (first | refine aw_loadW 0 (t := 34) rfl rfl HA rfl rfl ?_ ?_ | refine aw_loadW 1 (t := 34) rfl rfl HA rfl rfl ?_ ?_ | refine aw_loadW 2 (t := 34) rfl rfl HA rfl rfl ?_ ?_ | refine aw_loadW 3 (t := 34) rfl rfl HA rfl rfl ?_ ?_ | refine aw_loadW 4 (t := 34) rfl rfl HA rfl rfl ?_ ?_ | refine aw_loadW 0 (t := 54) rfl rfl HA rfl rfl ?_ ?_ | refine aw_loadW 1 (t := 54) rfl rfl HA rfl rfl ?_ ?_ | refine aw_loadW 2 (t := 54) rfl rfl HA rfl rfl ?_ ?_ | refine aw_loadW 3 (t := 54) rfl rfl HA rfl rfl ?_ ?_ | refine aw_loadW 4 (t := 54) rfl rfl HA rfl rfl ?_ ?_ | refine aw_load 0 rfl rfl HA rfl rfl rfl ?_ ?_ | refine aw_load 1 rfl rfl HA rfl rfl rfl ?_ ?_ | refine aw_load 2 rfl rfl HA rfl rfl rfl ?_ ?_ | refine aw_load 3 rfl rfl HA rfl rfl rfl ?_ ?_ | refine aw_load 4 rfl rfl HA rfl rfl rfl ?_ ?_); kernel_rfl; simp only [Act.put, List.setIfInBounds_toArray, List.set_cons_succ, List.set_cons_zero]) | ((with_reducible refine gate_st rfl ?_); (first | refine aw_storeW 0 (t := 34) rfl rfl rfl rfl HA rfl rfl rfl ?_ rfl ?_ | refine aw_storeW 1 (t := 34) rfl rfl rfl rfl HA rfl rfl rfl ?_ rfl ?_ | refine aw_storeW 2 (t := 34) rfl rfl rfl rfl HA rfl rfl rfl ?_ rfl ?_ | refine aw_storeW 3 (t := 34) rfl rfl rfl rfl HA rfl rfl rfl ?_ rfl ?_ | refine aw_storeW 4 (t := 34) rfl rfl rfl rfl HA rfl rfl rfl ?_ rfl ?_ | refine aw_storeW 0 (t := 54) rfl rfl rfl rfl HA rfl rfl rfl ?_ rfl ?_ | refine aw_storeW 1 (t := 54) rfl rfl rfl rfl HA rfl rfl rfl ?_ rfl ?_ | refine aw_storeW 2 (t := 54) rfl rfl rfl rfl HA rfl rfl rfl ?_ rfl ?_ | refine aw_storeW 3 (t := 54) rfl rfl rfl rfl HA rfl rfl rfl ?_ rfl ?_ | refine aw_storeW 4 (t := 54) rfl rfl rfl rfl HA rfl rfl rfl ?_ rfl ?_ | refine aw_store 0 (v := .int _ _) rfl rfl rfl rfl rfl HA rfl rfl rfl ?_ ?_ | refine aw_store 1 (v := .int _ _) rfl rfl rfl rfl rfl HA rfl rfl rfl ?_ ?_ | refine aw_store 2 (v := .int _ _) rfl rfl rfl rfl rfl HA rfl rfl rfl ?_ ?_ | refine aw_store 3 (v := .int _ _) rfl rfl rfl rfl rfl HA rfl rfl rfl ?_ ?_ | refine aw_store 4 (v := .int _ _) rfl rfl rfl rfl rfl HA rfl rfl rfl ?_ ?_); kernel_rfl; clear HA; intro W_ HA; dsimp only [List.set, List.take, List.cons_append, List.nil_append] at HA) | ((with_reducible refine gate_nx rfl ?_); (refine aw_next_end 0 rfl rfl rfl HA rfl hend ?_); simp only [Act.put, List.setIfInBounds_toArray, List.set_cons_succ, List.set_cons_zero]))
        go_ret
        have hl2 : (rv.length + 1) = res.length := by rw [← Hres.out]; simp
        refine ⟨⟨_, rfl, Own.sli (e := 3) (Lv := Lv_) ?_ HA (by rintro ⟨a, b⟩ hx; simp [hx]) (by rw [← hl2]; omega)⟩, HA.below⟩
        rw [← Hres.out]
        simpa using hown_
      · rw [if_neg hhi] at hres
        have chi := decide_eq_false hhi
        have Hres := Lib.hid hres
        clear hres
        go_wp2_with (first | ((with_reducible refine gate_ld rfl ?_); (first | refine aw_loadW 0 (t := 34) rfl rfl HA rfl rfl ?_ ?_ | refine aw_loadW 1 (t := 34) rfl rfl HA rfl rfl ?_ ?_ | refine aw_loadW 2 (t := 34) rfl rfl HA rfl rfl ?_ ?_ | refine aw_loadW 3 (t := 34) rfl rfl HA rfl rfl ?_ ?_ | refine aw_loadW 4 (t := 34) rfl rfl HA rfl rfl ?_ ?_ | refine aw_loadW 0 (t := 54) rfl rfl HA rfl rfl ?_ ?_ | refine aw_loadW 1 (t := 54) rfl rfl HA rfl rfl ?_ ?_ | refine aw_loadW 2 (t := 54) rfl rfl HA rfl rfl ?_ ?_ | refine aw_loadW 3 (t := 54) rfl rfl HA rfl rfl ?_ ?_ | refine aw_loadW 4 (t := 54) rfl rfl HA rfl rfl ?_ ?_ | refine aw_load 0 rfl rfl HA rfl rfl rfl ?_ ?_ | refine aw_load 1 rfl rfl HA rfl rfl rfl ?_ ?_ | refine aw_load 2 rfl rfl HA rfl rfl rfl ?_ ?_ | refine aw_load 3 rfl rfl HA rfl rfl rfl ?_ ?_ | refine aw_load 4 rfl rfl HA rfl rfl rfl ?_ ?_); kernel_rfl; simp only [Act.put, List.setIfInBounds_toArray, List.set_cons_succ, List.set_cons_zero]) | ((with_reducible refine gate_st rfl ?_); (first | refine aw_storeW 0 (t := 34) rfl rfl rfl rfl HA rfl rfl rfl ?_ rfl ?_ | refine aw_storeW 1 (t := 34) rfl rfl rfl rfl HA rfl rfl rfl ?_ rfl ?_ | refine aw_storeW 2 (t := 34) rfl rfl rfl rfl HA rfl rfl rfl ?_ rfl ?_ | refine aw_storeW 3 (t := 34) rfl rfl rfl rfl HA rfl rfl rfl ?_ rfl ?_ | refine aw_storeW 4 (t := 34) rfl rfl rfl rfl HA rfl rfl rfl ?_ rfl ?_ | refine aw_storeW 0 (t := 54) rfl rfl rfl rfl HA rfl rfl rfl ?_ rfl ?_ | refine aw_storeW 1 (t := 54) rfl rfl rfl rfl HA rfl rfl rfl ?_ rfl ?_ | refine aw_storeW 2 (t := 54) rfl rfl rfl rfl HA rfl rfl rfl ?_ rfl ?_ | refine aw_storeW 3 (t := 54) rfl rfl rfl rfl HA rfl rfl rfl ?_ rfl ?_ | refine aw_storeW 4 (t := 54) rfl rfl rfl rfl HA rfl rfl rfl ?_ rfl ?_ | refine aw_store 0 (v := .int _ _) rfl rfl rfl rfl rfl HA rfl rfl rfl ?_ ?_ | refine aw_store 1 (v := .int _ _) rfl rfl rfl rfl rfl HA rfl rfl rfl ?_ ?_ | refine aw_store 2 (v := .int _ _) rfl rfl rfl rfl rfl HA rfl rfl rfl ?_ ?_ | refine aw_store 3 (v := .int _ _) rfl rfl rfl rfl rfl HA rfl rfl rfl ?_ ?_ | refine aw_store 4 (v := .int _ _) rfl rfl rfl rfl rfl HA rfl rfl rfl ?_ ?_); kernel_rfl; clear HA; intro W_ HA; dsimp only [List.set, List.take, List.cons_append, List.nil_append] at HA) | ((with_reducible refine gate_nx rfl ?_); (refine aw_next_end 0 rfl rfl rfl HA rfl hend ?_); simp only [Act.put, List.setIfInBounds_toArray, List.set_cons_succ, List.set_cons_zero]))
        go_ret
        refine ⟨⟨_, rfl, ?_⟩, HA.below⟩
        rw [← Hres.out]
        exact Own.sli (e := 3) (Lv := Lv) hown HA (by rintro ⟨a, b⟩ hx; simp [hx]) (by omega)
    | cons c rs =>
      obtain ⟨hp, hch, hrs⟩ := at_drop hdr
      have hcm : regOk c = true := List.all_eq_true.1 HO2.out.1 c (List.mem_of_mem_drop (hdr ▸ List.mem_cons_self))
      have htk : (rg.data.toList.take (pos + 1)) = rg.data.toList.take pos ++ [c] := by
        have h2 := List.take_add_one (l := rg.data.toList) (i := pos)
        rw [h2]
        have h3 : rg.data.toList[pos]? = some c := by
          have := congrArg List.head? hdr
          rwa [List.head?_drop] at this
        rw [h3]
        rfl
      have hv1 : regVals a0_1 a0_2 a0_3 (rg.data.toList.take (pos + 1)) = regVals a0_1 a0_2 a0_3 (rg.data.toList.take pos) ++ [regVal c a0_1 a0_2 a0_3] := by rw [htk]; simp [regVals]
      have hlv : (regVals a0_1 a0_2 a0_3 (rg.data.toList.take pos)).length ≤ 3 := by
        have := HO2.out.2
        simp only [regVals, List.length_map, List.length_take]
        omega
      generalize regVals a0_1 a0_2 a0_3 (rg.data.toList.take pos) = rv at hv1 hlv hown
      have Hv1 := Lib.hid hv1
      have Hrs := Lib.hid hrs
      have Hdr := Lib.hid hdr
      clear hrs hdr htk hv1
      rcases reg_cases hcm with rfl | rfl | rfl
      · have hch2 : ((rg[pos]'hp).toNat : Int) = 65 := by rw [hch]; rfl
        have Hch := Lib.hid hch2
        clear hch hch2 hcm
        go_wp2_with (first | (go_at_call 26; refine (isa_reg.calls go 65 _).mono ?_; rintro e W_ ⟨rfl, rfl⟩; skip) | ((with_reducible refine gate_dst (N := 20) rfl ?_); refine aw_newv (fun g => .slice (some ⟨g, 0, none⟩) 1 1) 3 [.int .i64 a0_2] rfl (fun W => by kernel_rfl) HA ?_; clear HA; intro gn W_ HA; simp only [Act.put, List.setIfInBounds_toArray, List.set_cons_succ, List.set_cons_zero]) | ((with_reducible refine gate_dst (N := 21) rfl ?_); refine aw_append 4 0 rfl Tryd.underlying92 int_info rfl (Nat.le_refl 1) rfl hown rfl rfl HA rfl rfl rfl rfl ?_ ?_ ?_; (unfold maxLen; omega); (omega); clear HA; intro v_ W_ Lv_ hown_ HA; dsimp only [List.set, List.take, List.cons_append, List.nil_append] at HA; simp only [Act.put, List.setIfInBounds_toArray, List.set_cons_succ, List.set_cons_zero]) | ((with_reducible refine gate_ld rfl ?_); (first | refine aw_loadW 0 (t := 34) rfl rfl HA rfl rfl ?_ ?_ | refine aw_loadW 1 (t := 34) rfl rfl HA rfl rfl ?_ ?_ | refine aw_loadW 2 (t := 34) rfl rfl HA rfl rfl ?_ ?_ | refine aw_loadW 3 (t := 34) rfl rfl HA rfl rfl ?_ ?_ | refine aw_loadW 4 (t := 34) rfl rfl HA rfl rfl ?_ ?_ | refine aw_loadW 0 (t := 54) rfl rfl HA rfl rfl ?_ ?_ | refine aw_loadW 1 (t := 54) rfl rfl HA rfl rfl ?_ ?_ | refine aw_loadW 2 (t := 54) rfl rfl HA rfl rfl ?_ ?_ | refine aw_loadW 3 (t := 54) rfl rfl HA rfl rfl ?_ ?_ | refine aw_loadW 4 (t := 54) rfl rfl HA rfl rfl ?_ ?_ | refine aw_load 0 rfl rfl HA rfl rfl rfl ?_ ?_ | refine aw_load 1 rfl rfl HA rfl rfl rfl ?_ ?_ | refine aw_load 2 rfl rfl HA rfl rfl rfl ?_ ?_ | refine aw_load 3 rfl rfl HA rfl rfl rfl ?_ ?_ | refine aw_load 4 rfl rfl HA rfl rfl rfl ?_ ?_); kernel_rfl; simp only [Act.put, List.setIfInBounds_toArray, List.set_cons_succ, List.set_cons_zero]) | ((with_reducible refine gate_st rfl ?_); (first | refine aw_storeW 0 (t := 34) rfl rfl rfl rfl HA rfl rfl rfl ?_ rfl ?_ | refine aw_storeW 1 (t := 34) rfl rfl rfl rfl HA rfl rfl rfl ?_ rfl ?_ | refine aw_storeW 2 (t := 34) rfl rfl rfl rfl HA rfl rfl rfl ?_ rfl ?_ | refine aw_storeW 3 (t := 34) rfl rfl rfl rfl HA rfl rfl rfl ?_ rfl ?_ | refine aw_storeW 4 (t := 34) rfl rfl rfl rfl HA rfl rfl rfl ?_ rfl ?_ | refine aw_storeW 0 (t := 54) rfl rfl rfl rfl HA rfl rfl rfl ?_ rfl ?_ | refine aw_storeW 1 (t := 54) rfl rfl rfl rfl HA rfl rfl rfl ?_ rfl ?_ | refine aw_storeW 2 (t := 54) rfl rfl rfl rfl HA rfl rfl rfl ?_ rfl ?_ | refine aw_storeW 3 (t := 54) rfl rfl rfl rfl HA rfl rfl rfl ?_ rfl ?_ | refine aw_storeW 4 (t := 54) rfl rfl rfl rfl HA rfl rfl rfl ?_ rfl ?_ | refine aw_store 0 (v := .int _ _) rfl rfl rfl rfl rfl HA rfl rfl rfl ?_ ?_ | refine aw_store 1 (v := .int _ _) rfl rfl rfl rfl rfl HA rfl rfl rfl ?_ ?_ | refine aw_store 2 (v := .int _ _) rfl rfl rfl rfl rfl HA rfl rfl rfl ?_ ?_ | refine aw_store 3 (v := .int _ _) rfl rfl rfl rfl rfl HA rfl rfl rfl ?_ ?_ | refine aw_store 4 (v := .int _ _) rfl rfl rfl rfl rfl HA rfl rfl rfl ?_ ?_); kernel_rfl; clear HA; intro W_ HA; dsimp only [List.set, List.take, List.cons_append, List.nil_append] at HA) | ((with_reducible refine gate_nx rfl ?_); (refine aw_next 0 rfl rfl rfl HA rfl hp Hch.out (by omega) ?_); clear HA; intro W_ HA; dsimp only [List.set, List.take, List.cons_append, List.nil_append] at HA; simp only [Act.put, List.setIfInBounds_toArray, List.set_cons_succ, List.set_cons_zero]))
        go_roundw
        case rel => exact ⟨pos + 1, _, by omega, by rw [Hv1.out]; simpa [regVal] using hown_, HA.sub (by simp)⟩
        case measure => rw [HA.pos (i := 1) rfl, Hip.out]; omega
      · have hch2 : ((rg[pos]'hp).toNat : Int) = 66 := by rw [hch]; rfl
        have Hch := Lib.hid hch2
        clear hch hch2 hcm
        go_wp2_with (first | (go_at_call 26; refine (isa_reg.calls go 66 _).mono ?_; rintro e W_ ⟨rfl, rfl⟩; skip) | ((with_reducible refine gate_dst (N := 20) rfl ?_); refine aw_newv (fun g => .slice (some ⟨g, 0, none⟩) 1 1) 3 [.int .i64 a0_3] rfl (fun W => by kernel_rfl) HA ?_; clear HA; intro gn W_ HA; simp only [Act.put, List.setIfInBounds_toArray, List.set_cons_succ, List.set_cons_zero]) | ((with_reducible refine gate_dst (N := 21) rfl ?_); refine aw_append 4 0 rfl Tryd.underlying92 int_info rfl (Nat.le_refl 1) rfl hown rfl rfl HA rfl rfl rfl rfl ?_ ?_ ?_; (unfold maxLen; omega); (omega); clear HA; intro v_ W_ Lv_ hown_ HA; dsimp only [List.set, List.take, List.cons_append, List.nil_append] at HA; simp only [Act.put, List.setIfInBounds_toArray, List.set_cons_succ, List.set_cons_zero]) | ((with_reducible refine gate_ld rfl ?_); (first | refine aw_loadW 0 (t := 34) rfl rfl HA rfl rfl ?_ ?_ | refine aw_loadW 1 (t := 34) rfl rfl HA rfl rfl ?_ ?_ | refine aw_loadW 2 (t := 34) rfl rfl HA rfl rfl ?_ ?_ | refine aw_loadW 3 (t := 34) rfl rfl HA rfl rfl ?_ ?_ | refine aw_loadW 4 (t := 34) rfl rfl HA rfl rfl ?_ ?_ | refine aw_loadW 0 (t := 54) rfl rfl HA rfl rfl ?_ ?_ | refine aw_loadW 1 (t := 54) rfl rfl HA rfl rfl ?_ ?_ | refine aw_loadW 2 (t := 54) rfl rfl HA rfl rfl ?_ ?_ | refine aw_loadW 3 (t := 54) rfl rfl HA rfl rfl ?_ ?_ | refine aw_loadW 4 (t := 54) rfl rfl HA rfl rfl ?_ ?_ | refine aw_load 0 rfl rfl HA rfl rfl rfl ?_ ?_ | refine aw_load 1 rfl rfl HA rfl rfl rfl ?_ ?_ | refine aw_load 2 rfl rfl HA rfl rfl rfl ?_ ?_ | refine aw_load 3 rfl rfl HA rfl rfl rfl ?_ ?_ | refine aw_load 4 rfl rfl HA rfl rfl rfl ?_ ?_); kernel_rfl; simp only [Act.put, List.setIfInBounds_toArray, List.set_cons_succ, List.set_cons_zero]) | ((with_reducible refine gate_st rfl ?_); (first | refine aw_storeW 0 (t := 34) rfl rfl rfl rfl HA rfl rfl rfl ?_ rfl ?_ | refine aw_storeW 1 (t := 34) rfl rfl rfl rfl HA rfl rfl rfl ?_ rfl ?_ | refine aw_storeW 2 (t := 34) rfl rfl rfl rfl HA rfl rfl rfl ?_ rfl ?_ | refine aw_storeW 3 (t := 34) rfl rfl rfl rfl HA rfl rfl rfl ?_ rfl ?_ | refine aw_storeW 4 (t := 34) rfl rfl rfl rfl HA rfl rfl rfl ?_ rfl ?_ | refine aw_storeW 0 (t := 54) rfl rfl rfl rfl HA rfl rfl rfl ?_ rfl ?_ | refine aw_storeW 1 (t := 54) rfl rfl rfl rfl HA rfl rfl rfl ?_ rfl ?_ | refine aw_storeW 2 (t := 54) rfl rfl rfl rfl HA rfl rfl rfl ?_ rfl ?_ | refine aw_storeW 3 (t := 54) rfl rfl rfl rfl HA rfl rfl rfl ?_ rfl ?_ | refine aw_storeW 4 (t := 54) rfl rfl rfl rfl HA rfl rfl rfl ?_ rfl ?_ | refine aw_store 0 (v := .int _ _) rfl rfl rfl rfl rfl HA rfl rfl rfl ?_ ?_ | refine aw_store 1 (v := .int _ _) rfl rfl rfl rfl rfl HA rfl rfl rfl ?_ ?_ | refine aw_store 2 (v := .int _ _) rfl rfl rfl rfl rfl HA rfl rfl rfl ?_ ?_ | refine aw_store 3 (v := .int _ _) rfl rfl rfl rfl rfl HA rfl rfl rfl ?_ ?_ | refine aw_store 4 (v := .int _ _) rfl rfl rfl rfl rfl HA rfl rfl rfl ?_ ?_); kernel_rfl; clear HA; intro W_ HA; dsimp only [List.set, List.take, List.cons_append, List.nil_append] at HA) | ((with_reducible refine gate_nx rfl ?_); (refine aw_next 0 rfl rfl rfl HA rfl hp Hch.out (by omega) ?_); clear HA; intro W_ HA; dsimp only [List.set, List.take, List.cons_append, List.nil_append] at HA; simp only [Act.put, List.setIfInBounds_toArray, List.set_cons_succ, List.set_cons_zero]))
        go_roundw
        case rel => exact ⟨pos + 1, _, by omega, by rw [Hv1.out]; simpa [regVal] using hown_, HA.sub (by simp)⟩
        case measure => rw [HA.pos (i := 1) rfl, Hip.out]; omega
      · have hch2 : ((rg[pos]'hp).toNat : Int) = 68 := by rw [hch]; rfl
        have Hch := Lib.hid hch2
        clear hch hch2 hcm
        go_wp2_with (first | (go_at_call 26; refine (isa_reg.calls go 68 _).mono ?_; rintro e W_ ⟨rfl, rfl⟩; skip) | ((with_reducible refine gate_dst (N := 20) rfl ?_); refine aw_newv (fun g => .slice (some ⟨g, 0, none⟩) 1 1) 3 [.int .i64 a0_1] rfl (fun W => by kernel_rfl) HA ?_; clear HA; intro gn W_ HA; simp only [Act.put, List.setIfInBounds_toArray, List.set_cons_succ, List.set_cons_zero]) | ((with_reducible refine gate_dst (N := 21) rfl ?_); refine aw_append 4 0 rfl Tryd.underlying92 int_info rfl (Nat.le_refl 1) rfl hown rfl rfl HA rfl rfl rfl rfl ?_ ?_ ?_; (unfold maxLen; omega); (omega); clear HA; intro v_ W_ Lv_ hown_ HA; dsimp only [List.set, List.take, List.cons_append, List.nil_append] at HA; simp only [Act.put, List.setIfInBounds_toArray, List.set_cons_succ, List.set_cons_zero]) | ((with_reducible refine gate_ld rfl ?_); (first | refine aw_loadW 0 (t := 34) rfl rfl HA rfl rfl ?_ ?_ | refine aw_loadW 1 (t := 34) rfl rfl HA rfl rfl ?_ ?_ | refine aw_loadW 2 (t := 34) rfl rfl HA rfl rfl ?_ ?_ | refine aw_loadW 3 (t := 34) rfl rfl HA rfl rfl ?_ ?_ | refine aw_loadW 4 (t := 34) rfl rfl HA rfl rfl ?_ ?_ | refine aw_loadW 0 (t := 54) rfl rfl HA rfl rfl ?_ ?_ | refine aw_loadW 1 (t := 54) rfl rfl HA rfl rfl ?_ ?_ | refine aw_loadW 2 (t := 54) rfl rfl HA rfl rfl ?_ ?_ | refine aw_loadW 3 (t := 54) rfl rfl HA rfl rfl ?_ ?_ | refine aw_loadW 4 (t := 54) rfl rfl HA rfl rfl ?_ ?_ | refine aw_load 0 rfl rfl HA rfl rfl rfl ?_ ?_ | refine aw_load 1 rfl rfl HA rfl rfl rfl ?_ ?_ | refine aw_load 2 rfl rfl HA rfl rfl rfl ?_ ?_ | refine aw_load 3 rfl rfl HA rfl rfl rfl ?_ ?_ | refine aw_load 4 rfl rfl HA rfl rfl rfl ?_ ?_); kernel_rfl; simp only [Act.put, List.setIfInBounds_toArray, List.set_cons_succ, List.set_cons_zero]) | ((with_reducible refine gate_st rfl ?_); (first | refine aw_storeW 0 (t := 34) rfl rfl rfl rfl HA rfl rfl rfl ?_ rfl ?_ | refine aw_storeW 1 (t := 34) rfl rfl rfl rfl HA rfl rfl rfl ?_ rfl ?_ | refine aw_storeW 2 (t := 34) rfl rfl rfl rfl HA rfl rfl rfl ?_ rfl ?_ | refine aw_storeW 3 (t := 34) rfl rfl rfl rfl HA rfl rfl rfl ?_ rfl ?_ | refine aw_storeW 4 (t := 34) rfl rfl rfl rfl HA rfl rfl rfl ?_ rfl ?_ | refine aw_storeW 0 (t := 54) rfl rfl rfl rfl HA rfl rfl rfl ?_ rfl ?_ | refine aw_storeW 1 (t := 54) rfl rfl rfl rfl HA rfl rfl rfl ?_ rfl ?_ | refine aw_storeW 2 (t := 54) rfl rfl rfl rfl HA rfl rfl rfl ?_ rfl ?_ | refine aw_storeW 3 (t := 54) rfl rfl rfl rfl HA rfl rfl rfl ?_ rfl ?_ | refine aw_storeW 4 (t := 54) rfl rfl rfl rfl HA rfl rfl rfl ?_ rfl ?_ | refine aw_store 0 (v := .int _ _) rfl rfl rfl rfl rfl HA rfl rfl rfl ?_ ?_ | refine aw_store 1 (v := .int _ _) rfl rfl rfl rfl rfl HA rfl rfl rfl ?_ ?_ | refine aw_store 2 (v := .int _ _) rfl rfl rfl rfl rfl HA rfl rfl rfl ?_ ?_ | refine aw_store 3 (v := .int _ _) rfl rfl rfl rfl rfl HA rfl rfl rfl ?_ ?_ | refine aw_store 4 (v := .int _ _) rfl rfl rfl rfl rfl HA rfl rfl rfl ?_ ?_); kernel_rfl; clear HA; intro W_ HA; dsimp only [List.set, List.take, List.cons_append, List.nil_append] at HA) | ((with_reducible refine gate_nx rfl ?_); (refine aw_next 0 rfl rfl rfl HA rfl hp Hch.out (by omega) ?_); clear HA; intro W_ HA; dsimp only [List.set, List.take, List.cons_append, List.nil_append] at HA; simp only [Act.put, List.setIfInBounds_toArray, List.set_cons_succ, List.set_cons_zero]))
        go_roundw
        case rel => exact ⟨pos + 1, _, by omega, by rw [Hv1.out]; simpa [regVal] using hown_, HA.sub (by simp)⟩
        case measure => rw [HA.pos (i := 1) rfl, Hip.out]; omega
end Go.Proofs.YtlhkojnocconfaaDoor.Q
