/- heap: the examples of the chapter hold. By wip/gen/heap_knows.py. -/
import Derived.Test.YtaddjeegplfjiaaQx0
import Derived.Test.YtaddjeegplfjiaaQx1
import Derived.Test.YtaddjeegplfjiaaQx2
import Derived.Test.YtaddjeegplfjiaaAw
import Derived.Test.YtaddjeegplfjiaaAwAny
import Derived.Test.YtaddjeegplfjiaaAwB
import Derived.Test.YtaddjeegplfjiaaAwOut
import Derived.Test.YtaddjeegplfjiaaAwReg
import Derived.Test.YtaddjeegplfjiaaAwRs
import Derived.Test.YtaddjeegplfjiaaAwSl
import Derived.Test.YtaddjeegplfjiaaHheapPut
import Derived.Test.YtaddjeegplfjiaaHheapRight
import Derived.Test.YtaddjeegplfjiaaHheapTake
--@needs XAwB
--@needs XAwReg
--@needs XAwOut
--@needs XAwRs
--@needs XAwAny
--@needs XHheapTake
--@needs XHheapPut
--@needs XHheapRight
--@uses camlet/heap.Head
--@uses camlet/heap.Split
--@uses camlet/camletlaw41.v
--@uses camlet/camletlaw41.b
--@uses camlet/camletref17.Same
import Derived.Outline
import Derived.Deep.Cut
import Derived.Deep.DrawnRows
import Derived.Deep.RegionHeldLaw
namespace Go.Proofs.Ytaddjeegplfjiaa.Q
open Go.RowKit Go.Proofs.YtaddjeegplfjiaaW.PrintWords Go.Proofs.YtaddjeegplfjiaaW.PrintLast Go.Proofs.YtaddjeegplfjiaaW.PrintMore
attribute [local go_sem] max2_int min2_int max_two min_two max_three min_three max_four min_four   -- for this text's walks alone
set_option linter.unusedVariables false
set_option linter.unusedSimpArgs false

def camletlaw41_knows.f : Option (Bool) := some true
theorem kn_head : heap_Head.f 0 1 1 = some (16401, 0) := by kernel_rfl
theorem kn_split : heap_Split.f 16401 = some (0, 1, 1, true) := by kernel_rfl
theorem kn_put : heap_Put.f [0, 0, 0, 0, 0, 0] 3 2 1 [(⟨1, 7, []⟩ : S34)] = some ([0, 0, 0, 16401, 15, 0], 12, 5, 0) := by kernel_rfl
theorem kn_take : heap_Take.f [0, 0, 0, 16401, 15, 0] 12 2 = some (2, 1, [(⟨1, 7, []⟩ : S34)], 0) := by kernel_rfl
theorem kn_right : heap_Right.f [0, 0, 0, 16401, 15, 0] 3 5 = some true := by kernel_rfl
theorem kn_same : camletref17_Same.f 20 2 1 [(⟨1, 7, []⟩ : S34)] 2 1 [(⟨1, 7, []⟩ : S34)] = some true := by kernel_rfl
theorem kn_info : (Try.prog.info? 22).map (fun i => (i.zero, i.size, i.bytes)) = some (some (.int .u32 0), 1, 4) := by kernel_rfl
theorem kn_zero (W : World) : (Instr.alloc 34 true (.tuple #[])).run Try.prog W = .ok (.pointer (some ⟨W.heap.size, 0, none⟩)) (W.alloc (.cells ([.int .i64 0, .int .i64 0, .slice none 0 0] : List Value).toArray 34 (0, 0))) := by kernel_rfl
theorem kn_newD {S : Nat → Prop} {w W : World} {L : List (Nat × Blk)} {g : Nat} (hg : W.heap.size = g) (h : Aw S w W L) (t : TypeId) (l : List Value) : Aw S w (W.alloc (.cells l.toArray t (0, 0))) ((g, .c t l) :: L) := hg ▸ h.newD t l
theorem kn_reads {S : Nat → Prop} {w W : World} {L : List (Nat × Blk)} {i g c2 : Nat} {A2 : Option Addr} (HA : Aw S w W L) (hi : L[i]? = some (g, .c 34 [.int .i64 1, .int .i64 7, .slice A2 0 c2])) : Kd.C k34 W (some ⟨g, 0, none⟩) 1 [(⟨1, 7, []⟩ : S34)] := by
  refine ⟨rfl, by decide, fun _ => ⟨_, rfl, ?_⟩⟩
  intro j p hp
  have hj : j = 0 := by
    have := (List.getElem?_eq_some_iff.1 hp).1
    simp at this
    omega
  subst hj
  obtain rfl : ⟨1, 7, []⟩ = p := by simpa using hp
  refine ⟨_, rfl, k34_mk W ⟨1, 7, []⟩ (A2 := A2) (c2 := c2) (Nat.zero_le _) ⟨rfl, by decide, fun h => absurd h (Nat.lt_irrefl 0)⟩, fun i u hu => ?_⟩
  rw [Addr.add_mid, Nat.zero_mul, Nat.zero_add, Nat.zero_add]
  exact HA.cell hi hu
theorem kn_V {S : Nat → Prop} {w W : World} {L : List (Nat × Blk)} {i g c2 : Nat} {A2 : Option Addr} (HA : Aw S w W L) (hi : L[i]? = some (g, .c 34 [.int .i64 1, .int .i64 7, .slice A2 0 c2])) : Kd.V k34 34 W W.heap.size (fun _ => True) (.slice (some ⟨g, 0, none⟩) [(⟨1, 7, []⟩ : S34)].length 1) [(⟨1, 7, []⟩ : S34)] :=
  Kd.V_mk (Nat.le_refl 1) (Kd.F_mono (Kd.C_F hpk_heap (kn_reads HA hi)) (fun _ _ => trivial))
theorem kn_row {S : Nat → Prop} {w W : World} {L : List (Nat × Blk)} {i g : Nat} (HA : Aw S w W L) (hi : L[i]? = some (g, .c 22 (List.replicate 6 (.int .u32 0)))) : Kd.C (Kd.int .u32) W (some ⟨g, 0, none⟩) 6 [0, 0, 0, 0, 0, 0] :=
  Kd.C_of_reads (d := (0 : Int)) (h1 := fun _ => rfl) ⟨rfl, by decide, fun _ => ⟨_, rfl, fun j hj => by
    rw [show (⟨g, 0, none⟩ : Addr).add j = ⟨g, j, none⟩ by unfold Addr.add; split <;> simp_all]
    have h6 : j = 0 ∨ j = 1 ∨ j = 2 ∨ j = 3 ∨ j = 4 ∨ j = 5 := by omega
    rcases h6 with rfl | rfl | rfl | rfl | rfl | rfl <;> exact HA.cell (v := .int .u32 0) hi rfl⟩⟩
def KnRel (w : World) (s7 s8 s9 s10 : Value) (wr : World) : Prop := s8 = .int .u32 12 ∧ s9 = .int .i64 5 ∧ s10 = .int .i64 0 ∧ ∃ g7 cap7, s7 = .slice (some ⟨g7, 0, none⟩) 6 cap7 ∧ 6 ≤ cap7 ∧ Aw noS w wr [(g7, Blk.r 22 1 cap7 ([0, 0, 0, 16401, 15, 0].map (Value.int .u32)))]
attribute [local go_sem ↓] Go.wp_at_zero Go.wp_at_succ
set_option maxHeartbeats 8000000 in
set_option maxRecDepth 100000 in
theorem camletlaw41_knows.calls (r : Bool) (w : World) (h : camletlaw41_knows.f = some r) :
    Calls Try.prog 12 #[] w fun e w' => e = .returned (.bool r) ∧ Below w.heap.size w w' := by
  have HA := Aw.start noS w
  obtain rfl : true = r := Option.some.inj h
  clear h
  go_enter Try.func12, Try.ntmps12
  go_upto_region 3 with (first | (go_at_call 8; refine (heap_Head.calls 0 1 1 16401 0 _ kn_head).mono ?_; rintro e W_ ⟨rfl, hb_⟩; replace HA := HA.call hb_; clear hb_) | (go_at_call 10; refine (heap_Split.calls 16401 0 1 1 true _ kn_split).mono ?_; rintro e W_ ⟨rfl, hb_⟩; replace HA := HA.call hb_; clear hb_))
  go_cut [7, 8, 9, 10] from 23 (fun s7 s8 s9 s10 wr => KnRel w s7 s8 s9 s10 wr)
  case first =>
    have hmk : ∀ W, (Instr.makeSlice 30 (.int .i64 6) (.int .i64 6)).run Try.prog W = .ok (.slice (some ⟨W.heap.size, 0, none⟩) 6 6) (W.alloc (.cells ([.int .u32 0, .int .u32 0, .int .u32 0, .int .u32 0, .int .u32 0, .int .u32 0] : List Value).toArray 22 (0, 0))) := fun W => by kernel_rfl
    go_region_law (first | (go_simp; go_at_call 24; refine (camletlaw41_v.calls 7 1 7 [] _ rfl).mono ?_; rintro e W_ ⟨v2_, rfl, hR, hb_⟩; obtain ⟨A2, c2, rfl, _, _⟩ := Kd.R_reads hR; clear hR; (first | replace HA := HA.drew.call hb_ | replace HA := (HA.newD 22 [.int .u32 0, .int .u32 0, .int .u32 0, .int .u32 0, .int .u32 0, .int .u32 0]).drew.call hb_); clear hb_) | (go_simp; go_at_call 23; first | (have q1 := kn_V (i := 0) (Aw.newD HA 34 [.int .i64 1, .int .i64 7, .slice A2 0 c2]) rfl; have q2 := camletlaw41_b.calls 1 (fun _ => True) _ 1 [(⟨1, 7, []⟩ : S34)] 2 1 [(⟨1, 7, []⟩ : S34)] _ q1 rfl; clear q1; (with_reducible refine Calls.mono q2 ?_); clear q2; rintro e W5_ ⟨v3_, rfl, hV, hb_⟩; replace HA := ((Aw.newD HA 34 [.int .i64 1, .int .i64 7, .slice A2 0 c2])).call hb_; obtain ⟨A3, c3, rfl, hc3, hF⟩ := hV; have HV := Kd.F_now hF; clear hF hb_) | (have q1 := kn_V (i := 0) (kn_newD (g := W_.heap.size + 1) (by simp) (Aw.newD HA 22 [.int .u32 0, .int .u32 0, .int .u32 0, .int .u32 0, .int .u32 0, .int .u32 0]) 34 [.int .i64 1, .int .i64 7, .slice A2 0 c2]) rfl; have q2 := camletlaw41_b.calls 1 (fun _ => True) _ 1 [(⟨1, 7, []⟩ : S34)] 2 1 [(⟨1, 7, []⟩ : S34)] _ q1 rfl; clear q1; (with_reducible refine Calls.mono q2 ?_); clear q2; rintro e W5_ ⟨v3_, rfl, hV, hb_⟩; replace HA := ((kn_newD (g := W_.heap.size + 1) (by simp) (Aw.newD HA 22 [.int .u32 0, .int .u32 0, .int .u32 0, .int .u32 0, .int .u32 0, .int .u32 0]) 34 [.int .i64 1, .int .i64 7, .slice A2 0 c2])).call hb_; obtain ⟨A3, c3, rfl, hc3, hF⟩ := hV; have HV := Kd.F_now hF; clear hF hb_) | (have q1 := kn_V (i := 1) (kn_newD (g := W_.heap.size + 1) (by simp) (Aw.newD HA 34 [.int .i64 1, .int .i64 7, .slice A2 0 c2]) 22 [.int .u32 0, .int .u32 0, .int .u32 0, .int .u32 0, .int .u32 0, .int .u32 0]) rfl; have q2 := camletlaw41_b.calls 1 (fun _ => True) _ 1 [(⟨1, 7, []⟩ : S34)] 2 1 [(⟨1, 7, []⟩ : S34)] _ q1 rfl; clear q1; (with_reducible refine Calls.mono q2 ?_); clear q2; rintro e W5_ ⟨v3_, rfl, hV, hb_⟩; replace HA := ((kn_newD (g := W_.heap.size + 1) (by simp) (Aw.newD HA 34 [.int .i64 1, .int .i64 7, .slice A2 0 c2]) 22 [.int .u32 0, .int .u32 0, .int .u32 0, .int .u32 0, .int .u32 0, .int .u32 0])).call hb_; obtain ⟨A3, c3, rfl, hc3, hF⟩ := hV; have HV := Kd.F_now hF; clear hF hb_)) | (go_simp; go_at_call 14; (first | have q1 := kn_row (i := 0) HA rfl | have q1 := kn_row (i := 1) HA rfl | (replace HV := Kd.C_alloc HV (.cells ([.int .u32 0, .int .u32 0, .int .u32 0, .int .u32 0, .int .u32 0, .int .u32 0] : List Value).toArray 22 (0, 0)); replace HA := HA.newD 22 [.int .u32 0, .int .u32 0, .int .u32 0, .int .u32 0, .int .u32 0, .int .u32 0]; have q1 := kn_row (i := 0) HA rfl)); have q2 := heap_Put.calls _ 6 [0, 0, 0, 0, 0, 0] 3 2 1 A3 c3 [(⟨1, 7, []⟩ : S34)] [0, 0, 0, 16401, 15, 0] 12 5 0 _ q1 (Nat.le_refl 6) HV hc3 kn_put; clear q1 HV; refine q2.mono ?_; clear q2; rintro e W_ ⟨v7, rfl, hR7, hb_⟩; obtain ⟨Lv, hown, HA1⟩ := Aw.fromR HA hb_ hR7; clear hR7 hb_ HA; have HA := HA1; clear HA1; obtain ⟨A7, c7, rfl⟩ := own_form hown; have HO := Aside0.mk hown; clear hown))
    all_goals
     go_simp
     go_step
     go_meet
     case rel =>
      obtain ⟨h7, ⟨_, hq, _⟩ | ⟨g7, cap7, hq, hc7, hL⟩⟩ := HO.out
      · exact absurd hq (by decide)
      · injection hq with hq1 hq2 hq3
        subst hq1 hq3
        rw [hL] at HA
        exact ⟨rfl, rfl, rfl, g7, _, rfl, hc7, HA.sub (List.sublist_append_right _ _)⟩
  case rest =>
    obtain ⟨rfl, rfl, rfl, g7, cap7, rfl, hc7, HA⟩ := hcut
    have HO : Aside0 (Own 22 1 (Value.slice (some ⟨g7, 0, none⟩) [0, 0, 0, 16401, 15, 0].length cap7) [0, 0, 0, 16401, 15, 0].length ([0, 0, 0, 16401, 15, 0].map (Value.int .u32)) [(g7, Blk.r 22 1 cap7 ([0, 0, 0, 16401, 15, 0].map (Value.int .u32)))]) := ⟨⟨rfl, .inr ⟨g7, cap7, rfl, hc7, rfl⟩⟩⟩
    go_wp2_with (first | (go_at_call 17; refine (heap_Take.calls (some ⟨g7, 0, none⟩) cap7 [0, 0, 0, 16401, 15, 0] 12 2 2 1 [(⟨1, 7, []⟩ : S34)] 0 _ (own_readsA (l := [0, 0, 0, 16401, 15, 0]) HO.out HA (fun x hx => hx)).1 (own_readsA (l := [0, 0, 0, 16401, 15, 0]) HO.out HA (fun x hx => hx)).2 kn_take).mono ?_; rintro e W_ ⟨v9, rfl, hR9, hb_⟩; obtain ⟨A9, c9, rfl, hc9, hC9⟩ := Kd.R_reads hR9; have HX0 := Aside0.mk hC9; have HP := Aside0.mk (HA.call hb_); replace HA := Aw.start noS W_; clear hR9 hC9 hb_) | ((with_reducible refine gate_dst (N := 11) rfl ?_); refine aw_alloc rfl rfl kn_zero HA ?_; clear HA; intro g11 W_ HA; simp only [Act.put, List.setIfInBounds_toArray, List.set_cons_succ, List.set_cons_zero]) | ((with_reducible refine gate_st rfl ?_); (refine aw_storeW 0 (t := 34) rfl rfl rfl rfl HA rfl rfl rfl ?_ rfl ?_); kernel_rfl; clear HA; intro W_ HA; dsimp only [List.set, List.take, List.cons_append, List.nil_append] at HA; have HX := HA.1.reads HX0.out; replace HA := HP.out.fresh HA; dsimp only [List.cons_append, List.nil_append] at HA; clear HP HX0))
    replace HA := HA.drew
    replace HX := Kd.C_below HX (below_drew (Below.refl _ _))
    dsimp only [List.append]
    go_region_held_law (fun w' => w'.cell? ⟨g11, 0, none⟩ = some (.int .i64 2) ∧ w'.cell? ⟨g11, 1, none⟩ = some (.int .i64 1) ∧ w'.cell? ⟨g11, 2, none⟩ = some (.slice A9 1 c9) ∧ w'.cell? ⟨g7, 3, none⟩ = some (.int .u32 16401) ∧ w'.cell? ⟨g7, 4, none⟩ = some (.int .u32 15)) ((first | exact ⟨Aw.cell (i := 0) (j := 0) HA rfl rfl, Aw.cell (i := 0) (j := 1) HA rfl rfl, Aw.cell (i := 0) (j := 2) HA rfl rfl, Aw.rcell (i := 1) (j := 3) HA rfl rfl, Aw.rcell (i := 1) (j := 4) HA rfl rfl⟩ | exact ⟨Aw.cell (i := 1) (j := 0) HA rfl rfl, Aw.cell (i := 1) (j := 1) HA rfl rfl, Aw.cell (i := 1) (j := 2) HA rfl rfl, Aw.rcell (i := 2) (j := 3) HA rfl rfl, Aw.rcell (i := 2) (j := 4) HA rfl rfl⟩ | exact ⟨Aw.cell (i := 1) (j := 0) (HA.newD 34 [.int .i64 1, .int .i64 7, .slice A2 0 c2]) rfl rfl, Aw.cell (i := 1) (j := 1) (HA.newD 34 [.int .i64 1, .int .i64 7, .slice A2 0 c2]) rfl rfl, Aw.cell (i := 1) (j := 2) (HA.newD 34 [.int .i64 1, .int .i64 7, .slice A2 0 c2]) rfl rfl, Aw.rcell (i := 2) (j := 3) (HA.newD 34 [.int .i64 1, .int .i64 7, .slice A2 0 c2]) rfl rfl, Aw.rcell (i := 2) (j := 4) (HA.newD 34 [.int .i64 1, .int .i64 7, .slice A2 0 c2]) rfl rfl⟩)) ((first | (go_simp; go_at_call 24; refine (camletlaw41_v.calls 7 1 7 [] _ rfl).mono ?_; rintro e W_ ⟨v2_, rfl, hR, hb_⟩; obtain ⟨A2, c2, rfl, _, _⟩ := Kd.R_reads hR; clear hR; replace HX := Kd.C_below HX hb_; replace HA := HA.call hb_; clear hb_) | (go_simp; go_at_call 23; replace HX := Kd.C_alloc HX (.cells ([.int .i64 1, .int .i64 7, .slice A2 0 c2] : List Value).toArray 34 (0, 0)); replace HA := HA.newD 34 [.int .i64 1, .int .i64 7, .slice A2 0 c2]; have q1 := kn_V (i := 0) HA rfl; have q2 := camletlaw41_b.calls 1 (fun _ => True) _ 1 [(⟨1, 7, []⟩ : S34)] 2 1 [(⟨1, 7, []⟩ : S34)] _ q1 rfl; clear q1; (with_reducible refine Calls.mono q2 ?_); clear q2; rintro e W5_ ⟨v3_, rfl, hV, hb_⟩; replace HX := Kd.C_below HX hb_; replace HA := HA.call hb_; obtain ⟨A3, c3, rfl, hc3, hF⟩ := hV; have HV := Kd.F_now hF; clear hF hb_) | (go_simp; go_at_call 19; have q2 := camletref17_Same.calls 20 2 1 A9 c9 [(⟨1, 7, []⟩ : S34)] 2 1 A3 c3 [(⟨1, 7, []⟩ : S34)] true _ HX hc9 HV hc3 kn_same; (with_reducible refine Calls.mono q2 ?_); clear q2; rintro e W_ ⟨rfl, hb_⟩; replace HA := HA.call hb_; clear hb_ HX HV) | (go_simp; go_at_call 20; have q1 := own_readsA (l := [0, 0, 0, 16401, 15, 0]) HO.out HA (fun x hx => by rw [List.mem_singleton] at hx; subst hx; simp); have q2 := heap_Right.calls (some ⟨g7, 0, none⟩) cap7 [0, 0, 0, 16401, 15, 0] 3 5 true _ q1.1 q1.2 kn_right; clear q1; (with_reducible refine Calls.mono q2 ?_); clear q2; rintro e W_ ⟨rfl, hb_⟩; replace HA := HA.call hb_; clear hb_)))
    all_goals
     go_wp2
     go_ret
     exact ⟨rfl, HA.below⟩
end Go.Proofs.Ytaddjeegplfjiaa.Q
