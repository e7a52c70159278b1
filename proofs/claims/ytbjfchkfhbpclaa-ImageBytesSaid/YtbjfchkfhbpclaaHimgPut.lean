/- image.Put. By wip/gen/img.py. -/
import Derived.Test.YtbjfchkfhbpclaaQx0
import Derived.Test.YtbjfchkfhbpclaaQx2
import Derived.Test.YtbjfchkfhbpclaaAw
import Derived.Test.YtbjfchkfhbpclaaAwFix
import Derived.Test.YtbjfchkfhbpclaaAwFrame
import Derived.Test.YtbjfchkfhbpclaaAwSl
import Derived.Test.YtbjfchkfhbpclaaHimgSum
--@needs XAw
--@needs XAwSl
--@needs XAwFrame
--@needs XAwFix
--@needs XHimgSum
--@uses camlet/image.Right
import Derived.LoopTactic
import Derived.Deep.LoopGhost
import Derived.Lib.Hide
import Derived.Deep.QuietTactic
import Derived.BigQuiet
import Derived.IntWalk
namespace Go.Proofs.Ytbjfchkfhbpclaa.Q
open Go.RowKit Go.Proofs.YtbjfchkfhbpclaaW.PrintWords Go.Proofs.YtbjfchkfhbpclaaW.PrintLast Go.Proofs.YtbjfchkfhbpclaaW.PrintMore
attribute [local go_sem] max2_int min2_int max_two min_two max_three min_three max_four min_four   -- for this text's walks alone
set_option linter.unusedVariables false
set_option linter.unusedSimpArgs false

def imgRight (l : List Int) (a : Int) : Bool := decide (1 ≤ l.length ∧ l.length ≤ 16384 ∧ 0 ≤ a ∧ a < l.length)
theorem imgRight_eq (l : List Int) (a : Int) : image_Right.f l a = some (imgRight l a) := by
  unfold image_Right.f imgRight
  repeat' split
  all_goals (first | (congr 1; symm; rw [decide_eq_false_iff_not]; omega) | (congr 1; rw [decide_eq_decide]; omega))
theorem aw_pure {P : Program} {ops : Array Oper} {rest : List Oper} {o : Oper} {a : Act} {Q : Exit → Act → World → Prop} {W : World} (v : Value) (hw : Region.wanted o (yielded ops a.tmps) = true) (hrun : ∀ W : World, (execOp a.eval o).run P W = .ok (.value v) W) (h : wpList P ops Q rest (a.put o.dst v) W) : wpList P ops Q (o :: rest) a W := aw_ev hw (hrun W) h
def imgHead (l : List Int) (a : Int) : List Int := [67, 77, 76, 49] ++ putsB [(l.length : Int), a] ++ putsB l
def imgBytes (l : List Int) (a : Int) : List Int := imgHead l a ++ putsB [sumB 1 (imgHead l a)]
def image_Put.f (_k : Nat) (l0_0 : List Int) (a0_1 : Int) : Option (List Int × Int) := if imgRight l0_0 a0_1 = true then some (imgBytes l0_0 a0_1, 0) else some ([], 1)
theorem image_Put.mono (a0 : List Int) (a1 : Int) (k : Nat) : LeO (image_Put.f k a0 a1) (image_Put.f (k + 1) a0 a1) := LeO.refl _
theorem fourB_byte {n : Int} : ∀ x ∈ fourB n, 0 ≤ x ∧ x < 256 := by
  intro x hx
  simp only [fourB, List.mem_cons, List.not_mem_nil, or_false] at hx
  omega
theorem putsB_byte {l : List Int} : ∀ x ∈ putsB l, 0 ≤ x ∧ x < 256 := by
  intro x hx
  obtain ⟨n, _, h⟩ := List.mem_flatMap.1 hx
  exact fourB_byte x h
theorem imgHead_byte {l : List Int} {a : Int} : ∀ x ∈ imgHead l a, 0 ≤ x ∧ x < 256 := by
  intro x hx
  unfold imgHead at hx
  rw [List.mem_append, List.mem_append] at hx
  rcases hx with (h | h) | h
  · simp only [List.mem_cons, List.not_mem_nil, or_false] at h; omega
  · exact putsB_byte x h
  · exact putsB_byte x h
theorem imgHead_len (l : List Int) (a : Int) : (imgHead l a).length = 12 + 4 * l.length := by
  unfold imgHead
  rw [List.length_append, List.length_append, putsB_len, putsB_len]
  simp
theorem Own.reads {w W : World} {L : List (Nat × Blk)} {q : IntKind} {e : TypeId} {A : Option Addr} {c : Nat} {l : List Int} {Lv : List (Nat × Blk)} (h : Own e 1 (.slice A l.length c) l.length (l.map (Value.int q)) Lv) (HA : Aw noS w W L) (hs : ∀ x ∈ Lv, x ∈ L) : Kd.C (Kd.int q) W A l.length l ∧ l.length ≤ c := by
  have := Kd.R_reads' (h.kdR (ok := fun _ => True) HA hs (fun _ _ => trivial))
  exact ⟨this.2.2, this.2.1⟩
theorem img_put1 {w W : World} {g0 g1 bx : Nat} {B : Blk} (n a : Int) (HA : Aw noS w W [(g1, .c 50 [.int .u32 n, .int .u32 a]), (g0, Blk.fix 5 [.int .u8 67, .int .u8 77, .int .u8 76, .int .u8 49]), (bx, B)]) :
    Calls Try.prog 23 #[.slice (some ⟨g0, 0, none⟩) 4 4, .slice (some ⟨g1, 0, none⟩) 2 2] W fun e W' => ∃ v' Lv', e = .returned v' ∧ Own 5 1 v' ([67, 77, 76, 49] ++ putsB [n, a]).length (([67, 77, 76, 49] ++ putsB [n, a]).map (Value.int .u8)) Lv' ∧ Aw noS w W' ([(g0, Blk.fix 5 [.int .u8 67, .int .u8 77, .int .u8 76, .int .u8 49]), (bx, B), (g1, Blk.r 50 1 2 ([n, a].map (Value.int .u32)))] ++ Lv') := by
  have h2 : (2 : Nat) ≤ maxLen := by unfold maxLen; omega
  have H1 : Aw noS w W ([(g0, Blk.fix 5 [.int .u8 67, .int .u8 77, .int .u8 76, .int .u8 49]), (bx, B), (g1, Blk.r 50 1 2 ([n, a].map (Value.int .u32)))]) := HA.litLast (n := 2) (size := 1) rfl h2
  have o1 : Own 50 1 (.slice (some ⟨g1, 0, none⟩) ([n, a] : List Int).length 2) ([n, a] : List Int).length (([n, a] : List Int).map (Value.int .u32)) [(g1, Blk.r 50 1 2 (([n, a] : List Int).map (Value.int .u32)))] := Own.full rfl
  exact img_putF.calls 0 [67, 77, 76, 49] (some ⟨g1, 0, none⟩) 2 [n, a] rfl (fun W' Lv' h => (o1.reads h (by simp)).1) (Nat.le_refl _) (by simp) (by simp) (by simp) H1
theorem img_put3 {w W : World} {g2 : Nat} {R : List (Nat × Blk)} {v : Value} {Lv : List (Nat × Blk)} (b : List Int) (sm : Int) (hown : Own 5 1 v b.length (b.map (Value.int .u8)) Lv) (hb : b.length ≤ 1000000) (HA : Aw noS w W ((g2, .c 50 [.int .u32 sm]) :: (R ++ Lv))) :
    Calls Try.prog 23 #[v, .slice (some ⟨g2, 0, none⟩) 1 1] W fun e W' => ∃ v' Lv', e = .returned v' ∧ Own 5 1 v' (b ++ putsB [sm]).length ((b ++ putsB [sm]).map (Value.int .u8)) Lv' ∧ Aw noS w W' (((g2, Blk.r 50 1 1 ([sm].map (Value.int .u32))) :: R) ++ Lv') := by
  have h1 : (1 : Nat) ≤ maxLen := by unfold maxLen; omega
  have H1 := HA.litLast (n := 1) (size := 1) rfl h1
  have H2 : Aw noS w W (((g2, Blk.r 50 1 1 ([sm].map (Value.int .u32))) :: R) ++ Lv) := H1.perm List.perm_append_comm
  have o1 : Own 50 1 (.slice (some ⟨g2, 0, none⟩) ([sm] : List Int).length 1) ([sm] : List Int).length (([sm] : List Int).map (Value.int .u32)) [(g2, Blk.r 50 1 1 (([sm] : List Int).map (Value.int .u32)))] := Own.full rfl
  exact img_put.calls b (some ⟨g2, 0, none⟩) 1 [sm] hown (fun W' Lv' h => (o1.reads h (by simp)).1) (Nat.le_refl _) (by simp) hb H2
set_option maxHeartbeats 8000000 in
set_option maxRecDepth 100000 in
theorem image_Put.calls (k : Nat) (A0_0 : Option Addr) (c0_0 : Nat) (l0_0 : List Int) (a0_1 : Int) (r1 : List Int) (r2 : Int) (w : World) (hr0_0 : Kd.C (Kd.int .u32) w A0_0 l0_0.length l0_0) (hc0_0 : l0_0.length ≤ c0_0) (h : image_Put.f k l0_0 a0_1 = some (r1, r2)) :
    Calls Try.prog 13 #[.agg #[.slice A0_0 l0_0.length c0_0, .int .i64 a0_1]] w fun e w' => ∃ v0_ : Value, e = .returned (.tuple #[v0_, .int .i64 r2]) ∧ Kd.R (Kd.int .u8) 5 w' w.heap.size (fun _ => True) v0_ r1 ∧ Below w.heap.size w w' := by
  have HA := Aw.start noS w
  have HR0 := Aside0.mk hr0_0
  clear hr0_0
  have hright := imgRight_eq l0_0 a0_1
  unfold image_Put.f at h
  cases hR : imgRight l0_0 a0_1 with
  | false =>
    rw [hR] at h hright
    rw [if_neg (by decide)] at h
    obtain ⟨rfl, rfl⟩ := Prod.mk.inj (Option.some.inj h)
    clear h
    go_enter Try.func13, Try.ntmps13
    go_wp2_with (first | ((with_reducible refine gate_dst (N := 1) rfl ?_); refine aw_box rfl rfl rfl HA ?_; clear HA; intro bx W_ HA; simp only [Act.put, List.setIfInBounds_toArray, List.set_cons_succ, List.set_cons_zero]) | (go_at_call 15; refine (image_Right.calls A0_0 c0_0 l0_0 a0_1 _ _ (HA.1.reads HR0.out) hc0_0 hright).mono ?_; rintro e W_ ⟨rfl, hb_⟩; replace HA := HA.call hb_; clear hb_) | ((with_reducible refine gate_ld rfl ?_); (first | refine aw_loadW 0 (t := 27) rfl rfl HA rfl rfl ?_ ?_ | refine aw_load 0 rfl rfl HA rfl rfl rfl ?_ ?_ | refine aw_load 1 rfl rfl HA rfl rfl rfl ?_ ?_ | refine aw_load 2 rfl rfl HA rfl rfl rfl ?_ ?_ | refine aw_load 3 rfl rfl HA rfl rfl rfl ?_ ?_); kernel_rfl; simp only [Act.put, List.setIfInBounds_toArray, List.set_cons_succ, List.set_cons_zero]))
    go_ret2
    exact ⟨_, rfl, (Own.nil _ _).kdR (l := []) HA (by simp) (fun _ _ => trivial), HA.below⟩
  | true =>
    rw [hR] at h hright
    rw [if_pos rfl] at h
    obtain ⟨hr1, rfl⟩ := Prod.mk.inj (Option.some.inj h)
    have HR1 := Aside0.mk hr1
    have hb := of_decide_eq_true hR
    have hn1 : l0_0.length ≤ 16384 := hb.2.1
    have e1 : (l0_0.length : Int) % 4294967296 = l0_0.length := by omega
    have e2 : a0_1 % 4294967296 = a0_1 := by omega
    clear h hr1
    go_enter Try.func13, Try.ntmps13
    go_wp2_with (first | ((with_reducible refine gate_dst (N := 1) rfl ?_); refine aw_box rfl rfl rfl HA ?_; clear HA; intro bx W_ HA; simp only [Act.put, List.setIfInBounds_toArray, List.set_cons_succ, List.set_cons_zero]) | ((with_reducible refine gate_dst (N := 8) rfl ?_); refine aw_newv (fun g => .slice (some ⟨g, 0, none⟩) 4 4) 5 [.int .u8 67, .int .u8 77, .int .u8 76, .int .u8 49] rfl (fun W => by first | (go_simp; done) | (go_simp; rfl) | kernel_rfl) HA ?_; clear HA; intro g0 W_ HA; simp only [Act.put, List.setIfInBounds_toArray, List.set_cons_succ, List.set_cons_zero]) | ((with_reducible refine gate_dst (N := 9) rfl ?_); refine aw_mark 0 Try.underlying32 Try.underlying5 rfl rfl rfl HA rfl ?_; clear HA; intro W_ HA; dsimp only [List.set, List.take, List.cons_append, List.nil_append] at HA; simp only [Act.put, List.setIfInBounds_toArray, List.set_cons_succ, List.set_cons_zero]) | ((with_reducible refine gate_dst (N := 17) rfl ?_); refine aw_newv (fun g => .slice (some ⟨g, 0, none⟩) 2 2) 50 [.int .u32 (l0_0.length : Int), .int .u32 a0_1] rfl (fun W => by first | (go_simp; done) | (go_simp; rfl) | kernel_rfl) HA ?_; clear HA; intro g1 W_ HA; simp only [Act.put, List.setIfInBounds_toArray, List.set_cons_succ, List.set_cons_zero]) | ((with_reducible refine gate_dst (N := 27) rfl ?_); refine aw_newv (fun g => .slice (some ⟨g, 0, none⟩) 1 1) 50 [.int .u32 sm] rfl (fun W => by first | (go_simp; done) | (go_simp; rfl) | kernel_rfl) HA ?_; clear HA; intro g2 W_ HA; simp only [Act.put, List.setIfInBounds_toArray, List.set_cons_succ, List.set_cons_zero]) | (go_at_call 15; refine (image_Right.calls A0_0 c0_0 l0_0 a0_1 _ _ (HA.1.reads HR0.out) hc0_0 hright).mono ?_; rintro e W_ ⟨rfl, hb_⟩; replace HA := HA.call hb_; clear hb_) | (go_at_call 23; have hq := img_put1 (l0_0.length : Int) a0_1 HA; refine hq.mono ?_; clear hq; clear HA; rintro e W_ ⟨v1, Lv1, rfl, hown1, HA⟩; obtain ⟨b1, hb1⟩ : ∃ b, [67, 77, 76, 49] ++ putsB [(l0_0.length : Int), a0_1] = b := ⟨_, rfl⟩; rw [hb1] at hown1; have HB1 := Aside0.mk hb1; clear hb1; obtain ⟨A1_, c1_, rfl⟩ := img_form hown1; dsimp only [List.cons_append, List.nil_append] at HA) | (go_at_call 23; have hq := img_put.calls (R := [(g0, _), (bx, _), (g1, _)]) b1 A0_0 c0_0 l0_0 hown1 (fun W' Lv' h => h.1.reads HR0.out) hc0_0 (by omega) (by rw [← HB1.out]; simp [putsB_len]) HA; refine hq.mono ?_; clear hq; clear HA; rintro e W_ ⟨v2, Lv2, rfl, hown2, HA⟩; obtain ⟨b2, hb2⟩ : ∃ b, b1 ++ putsB l0_0 = b := ⟨_, rfl⟩; rw [hb2] at hown2; have HI := Aside0.mk (show b2 = imgHead l0_0 a0_1 by rw [← hb2, ← HB1.out]; rfl); clear hb2; obtain ⟨A2_, c2_, rfl⟩ := img_form hown2; dsimp only [List.cons_append, List.nil_append] at HA) | (go_at_call 23; have hq := img_put3 (R := [(gs, _), (g0, _), (bx, _), (g1, _)]) b2 sm hown2 (by rw [HI.out, imgHead_len]; omega) HA; refine hq.mono ?_; clear hq; clear HA; rintro e W_ ⟨v3, Lv3, rfl, hown3, HA⟩) | (go_at_call 24; refine (img_adder.calls _).mono ?_; rintro e W_ ⟨gs, rfl, hk_⟩; replace HA := HA.fresh hk_; clear hk_; dsimp only [List.cons_append, List.nil_append] at HA) | (go_at_call 32; have hq := img_sum.calls (S := noS) 1 (by omega) A2_ c2_ b2 (fun W' s' h => (hown2.reads h (fun x hx => by simp [hx])).1) (by rw [HI.out]; exact imgHead_byte) (hown2.reads HA (fun x hx => by simp [hx])).2 (by rw [HI.out, imgHead_len]; omega) HA; refine hq.mono ?_; clear hq; clear HA; rintro e W_ ⟨rfl, HA⟩; obtain ⟨sm, hsm⟩ : ∃ sm, sumB 1 b2 = sm := ⟨_, rfl⟩; rw [hsm] at HA ⊢; have HSM := Aside0.mk hsm; clear hsm) | ((with_reducible refine gate_ld rfl ?_); (first | refine aw_loadW 0 (t := 27) rfl rfl HA rfl rfl ?_ ?_ | refine aw_load 0 rfl rfl HA rfl rfl rfl ?_ ?_ | refine aw_load 1 rfl rfl HA rfl rfl rfl ?_ ?_ | refine aw_load 2 rfl rfl HA rfl rfl rfl ?_ ?_ | refine aw_load 3 rfl rfl HA rfl rfl rfl ?_ ?_); kernel_rfl; simp only [Act.put, List.setIfInBounds_toArray, List.set_cons_succ, List.set_cons_zero]))
    go_ret2
    refine ⟨_, rfl, ?_, HA.below⟩
    rw [← HR1.out]
    have e : imgBytes l0_0 a0_1 = b2 ++ putsB [sm] := by unfold imgBytes; rw [← HI.out, HSM.out]
    rw [e]
    exact hown3.kdR HA (fun x hx => by simp [hx]) (fun _ _ => trivial)
end Go.Proofs.Ytbjfchkfhbpclaa.Q
