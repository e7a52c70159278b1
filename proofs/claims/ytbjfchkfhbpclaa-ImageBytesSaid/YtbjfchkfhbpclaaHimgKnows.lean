/- image: the examples of the chapter hold. By wip/gen/img_knows.py. -/
import Derived.Test.YtbjfchkfhbpclaaQx0
import Derived.Test.YtbjfchkfhbpclaaQx2
import Derived.Test.YtbjfchkfhbpclaaAw
import Derived.Test.YtbjfchkfhbpclaaAwFrame
import Derived.Test.YtbjfchkfhbpclaaAwOut
import Derived.Test.YtbjfchkfhbpclaaAwSl
import Derived.Test.YtbjfchkfhbpclaaHimgPut
import Derived.Test.YtbjfchkfhbpclaaHimgSum
import Derived.Test.YtbjfchkfhbpclaaHimgTake
--@needs XAw
--@needs XAwSl
--@needs XAwFrame
--@needs XHimgPut
--@needs XHimgTake
--@needs XAwOut
--@uses camlet/image.Link
--@uses camlet/image.Right
--@uses camlet/camletref44.Same
import Derived.LoopTactic
import Derived.Deep.LoopGhost
import Derived.Lib.Hide
import Derived.Deep.QuietTactic
import Derived.BigQuiet
import Derived.IntWalk
namespace Go.Proofs.Ytbjfchkfhbpclaa.Q
open Go.RowKit Go.Proofs.YtbjfchkfhbpclaaW.PrintWords Go.Proofs.YtbjfchkfhbpclaaW.PrintLast Go.Proofs.YtbjfchkfhbpclaaW.PrintMore
attribute [local go_sem] max2_int min2_int max_two min_two max_three min_three max_four min_four   -- for this text's walks alone
set_option linter.unusedVariables false
set_option linter.unusedSimpArgs false

def camletlaw44_knows.f : Option (Bool) := some true
def knL1 : S44 := ⟨⟨#[115, 116, 97, 114, 116]⟩, ⟨0, 0, 0, 0, 0⟩, ⟨#[]⟩⟩
def knL2 : S44 := ⟨⟨#[]⟩, ⟨0, 0, 0, 0, 0⟩, ⟨#[]⟩⟩
theorem kn_link1 : image_Link.f 10 [knL1] = some ([0], 0, 0, 0) := by kernel_rfl
theorem kn_link2 : image_Link.f 10 [knL2] = some ([], 0, 1, 25) := by kernel_rfl
theorem kn_put : image_Put.f 0 [0] 0 = some (imgBytes [0] 0, 0) := by kernel_rfl
theorem kn_take : image_Take.f (imgBytes [0] 0) = some ([0], 0, 0) := by kernel_rfl
theorem kn_len : (imgBytes [0] 0).length = 20 := by kernel_rfl
theorem kn_mark : strOfNums ((imgBytes [0] 0).take 4) = ⟨#[67, 77, 76, 49]⟩ := by kernel_rfl
theorem kn_same : camletref44_Same.f 10 [0] 0 [0] 0 = some true := by kernel_rfl
theorem kn_right : image_Right.f [0] 0 = some true := by kernel_rfl
theorem kn_reads {S : Nat → Prop} {w W : World} {L : List (Nat × Blk)} {i g : Nat} (x : S44) (HA : Aw S w W L) (hi : L[i]? = some (g, .c 44 [.string x.f0, .int .i64 x.f1.f0, .int .i64 x.f1.f1, .int .i64 x.f1.f2, .int .i64 x.f1.f3, .int .i64 x.f1.f4, .string x.f2])) : Kd.C k44 W (some ⟨g, 0, none⟩) 1 [x] := by
  refine ⟨rfl, by decide, fun _ => ⟨_, rfl, ?_⟩⟩
  intro j p hp
  have hj : j = 0 := by
    have := (List.getElem?_eq_some_iff.1 hp).1
    simp at this
    omega
  subst hj
  obtain rfl : x = p := by simpa using hp
  refine ⟨_, rfl, k44_mk W x, fun i u hu => ?_⟩
  rw [Addr.add_mid, Nat.zero_mul, Nat.zero_add, Nat.zero_add]
  exact HA.cell hi hu
set_option maxHeartbeats 8000000 in
set_option maxRecDepth 100000 in
theorem camletlaw44_knows.calls (r : Bool) (w : World) (h : camletlaw44_knows.f = some r) :
    Calls Try.prog 9 #[] w fun e w' => e = .returned (.bool r) ∧ Below w.heap.size w w' := by
  have HA := Aw.start noS w
  obtain rfl : true = r := Option.some.inj h
  have hT := kn_take
  have hM := kn_mark
  have hBl := kn_len
  obtain ⟨B, hB⟩ : ∃ B, imgBytes [0] 0 = B := ⟨_, rfl⟩
  rw [hB] at hT hM hBl
  have hE : ((B.length : Int) == 20) = true := by rw [hBl]; rfl
  have HBL := Aside0.mk hBl
  clear hBl
  obtain ⟨inf, hi, hsz⟩ := Option.map_eq_some_iff.1 (show (Try.prog.info? 5).map (·.size) = some 1 by kernel_rfl)
  clear h
  go_enter Try.func9, Try.ntmps9
  go_wp2_with (first | ((with_reducible refine gate_dst (N := 13) rfl ?_); refine aw_newv (fun g => .slice (some ⟨g, 0, none⟩) 1 1) 44 [.string ⟨#[115, 116, 97, 114, 116]⟩, .int .i64 0, .int .i64 0, .int .i64 0, .int .i64 0, .int .i64 0, .string ⟨#[]⟩] rfl (fun W => by first | (go_simp; done) | (go_simp; rfl) | kernel_rfl) HA ?_; clear HA; intro g1 W_ HA; simp only [Act.put, List.setIfInBounds_toArray, List.set_cons_succ, List.set_cons_zero]) | ((with_reducible refine gate_dst (N := 30) rfl ?_); refine aw_newv (fun g => .slice (some ⟨g, 0, none⟩) 1 1) 44 [.string ⟨#[]⟩, .int .i64 0, .int .i64 0, .int .i64 0, .int .i64 0, .int .i64 0, .string ⟨#[]⟩] rfl (fun W => by first | (go_simp; done) | (go_simp; rfl) | kernel_rfl) HA ?_; clear HA; intro g2 W_ HA; simp only [Act.put, List.setIfInBounds_toArray, List.set_cons_succ, List.set_cons_zero]) | ((with_reducible refine gate_dst (N := 1) rfl ?_); refine aw_alloc rfl rfl img_zero HA ?_; clear HA; intro b1 W_ HA; simp only [Act.put, List.setIfInBounds_toArray, List.set_cons_succ, List.set_cons_zero]) | ((with_reducible refine gate_dst (N := 6) rfl ?_); refine aw_alloc rfl rfl img_zero HA ?_; clear HA; intro b6 W_ HA; simp only [Act.put, List.setIfInBounds_toArray, List.set_cons_succ, List.set_cons_zero]) | ((with_reducible refine gate_dst (N := 8) rfl ?_); refine aw_alloc rfl rfl img_zero HA ?_; clear HA; intro b8 W_ HA; simp only [Act.put, List.setIfInBounds_toArray, List.set_cons_succ, List.set_cons_zero]) | (go_at_call_of 10 g1; refine (image_Link.calls 10 (some ⟨g1, 0, none⟩) 1 [knL1] [0] 0 0 0 _ (kn_reads (i := 0) knL1 HA rfl) (Nat.le_refl 1) kn_link1).mono ?_; rintro e W_ ⟨v1, rfl, hR1, hb_⟩; obtain ⟨Lv1, hown1, HA1⟩ := HA.fromR hb_ hR1; clear hR1 hb_ HA; have HA := HA1; clear HA1; obtain ⟨A1, c1, rfl⟩ := img_form hown1; dsimp only [List.cons_append, List.nil_append] at HA) | (go_at_call_of 10 g2; refine (image_Link.calls 10 (some ⟨g2, 0, none⟩) 1 [knL2] [] 0 1 25 _ (kn_reads (i := 0) knL2 HA rfl) (Nat.le_refl 1) kn_link2).mono ?_; rintro e W_ ⟨v4, rfl, hR4, hb_⟩; obtain ⟨A4_, c4_, e4_, _, _⟩ := Kd.R_reads hR4; subst e4_; clear hR4; replace HA := HA.call hb_; clear hb_) | (go_at_call 13; refine (image_Put.calls 0 A1 c1 [0] 0 (imgBytes [0] 0) 0 _ (hown1.reads (l := [0]) HA (fun x hx => by simp [hx])).1 (hown1.reads (l := [0]) HA (fun x hx => by simp [hx])).2 kn_put).mono ?_; rintro e W_ ⟨v2, rfl, hR2, hb_⟩; obtain ⟨Lv2, hown2, HA1⟩ := HA.fromR hb_ hR2; clear hR2 hb_ HA; have HA := HA1; clear HA1; rw [hB] at hown2; obtain ⟨A2, c2, rfl⟩ := img_form hown2; dsimp only [List.cons_append, List.nil_append] at HA) | (go_at_call 17; refine (image_Take.calls A2 c2 B [0] 0 0 _ (hown2.reads HA (fun x hx => by simp [hx])).1 (hown2.reads HA (fun x hx => by simp [hx])).2 hT).mono ?_; rintro e W_ ⟨v3, rfl, hR3, hb_⟩; obtain ⟨Lv3, hown3, HA1⟩ := HA.fromR hb_ hR3; clear hR3 hb_ HA; have HA := HA1; clear HA1; obtain ⟨A3, c3, rfl⟩ := img_form hown3; dsimp only [List.cons_append, List.nil_append] at HA) | (go_at_call 12; refine (camletref44_Same.calls 10 A1 c1 [0] 0 A3 c3 [0] 0 true _ (hown1.reads (l := [0]) HA (fun x hx => by simp [hx])).1 (hown1.reads (l := [0]) HA (fun x hx => by simp [hx])).2 (hown3.reads (l := [0]) HA (fun x hx => by simp [hx])).1 (hown3.reads (l := [0]) HA (fun x hx => by simp [hx])).2 kn_same).mono ?_; rintro e W_ ⟨rfl, hb_⟩; replace HA := HA.call hb_; clear hb_) | (go_at_call 15; refine (image_Right.calls A1 c1 [0] 0 true _ (hown1.reads (l := [0]) HA (fun x hx => by simp [hx])).1 (hown1.reads (l := [0]) HA (fun x hx => by simp [hx])).2 kn_right).mono ?_; rintro e W_ ⟨rfl, hb_⟩; replace HA := HA.call hb_; clear hb_) | ((with_reducible refine gate_dst (N := 67) rfl ?_); refine aw_slice Try.underlying32 rfl rfl ((print_take_of (P := Try.prog) (Value.int .u8) 0 32 5 .i64 Try.underlying32 hi hsz A2 c2 B 4 (by omega) (by have := HBL.out; omega) (hown2.reads HA (fun x hx => by simp [hx])).2).1 _) ?_; simp only [Act.put, List.setIfInBounds_toArray, List.set_cons_succ, List.set_cons_zero]) | ((with_reducible refine gate_dst (N := 68) rfl ?_); refine aw_conv rfl rfl rfl (Kd.C_string (P := Try.prog) (A := A2) (c := c2) Try.underlying32 Try.underlying5 Try.underlying9 (Kd.C_of_reads (h1 := fun _ => rfl) ((print_take_of (P := Try.prog) (Value.int .u8) 0 32 5 .i64 Try.underlying32 hi hsz A2 c2 B 4 (by omega) (by have := HBL.out; omega) (hown2.reads HA (fun x hx => by simp [hx])).2).2.1 _ (Kd.reads_of_C (hown2.reads HA (fun x hx => by simp [hx])).1)))) ?_; simp only [Act.put, List.setIfInBounds_toArray, List.set_cons_succ, List.set_cons_zero]; try rw [hM]) | ((with_reducible refine gate_ld rfl ?_); (first | refine aw_loadW 0 (t := 27) rfl rfl HA rfl rfl ?_ ?_ | refine aw_loadW 1 (t := 27) rfl rfl HA rfl rfl ?_ ?_ | refine aw_loadW 2 (t := 27) rfl rfl HA rfl rfl ?_ ?_ | refine aw_loadW 3 (t := 27) rfl rfl HA rfl rfl ?_ ?_ | refine aw_load 0 rfl rfl HA rfl rfl rfl ?_ ?_ | refine aw_load 1 rfl rfl HA rfl rfl rfl ?_ ?_ | refine aw_load 2 rfl rfl HA rfl rfl rfl ?_ ?_ | refine aw_load 3 rfl rfl HA rfl rfl rfl ?_ ?_); kernel_rfl; simp only [Act.put, List.setIfInBounds_toArray, List.set_cons_succ, List.set_cons_zero]) | ((with_reducible refine gate_st rfl ?_); (first | refine aw_storeW 0 (t := 27) rfl rfl rfl rfl HA rfl rfl rfl ?_ rfl ?_ | refine aw_storeW 1 (t := 27) rfl rfl rfl rfl HA rfl rfl rfl ?_ rfl ?_ | refine aw_storeW 2 (t := 27) rfl rfl rfl rfl HA rfl rfl rfl ?_ rfl ?_ | refine aw_storeW 3 (t := 27) rfl rfl rfl rfl HA rfl rfl rfl ?_ rfl ?_); kernel_rfl; clear HA; intro W_ HA; dsimp only [List.set, List.take, List.cons_append, List.nil_append] at HA))
  go_ret
  exact ⟨rfl, HA.below⟩
end Go.Proofs.Ytbjfchkfhbpclaa.Q
