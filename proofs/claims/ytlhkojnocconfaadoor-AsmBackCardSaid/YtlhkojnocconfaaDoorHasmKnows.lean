/- asm: the examples of the chapter hold. By wip/gen/asm_knows.py. -/
import Derived.Test.YtlhkojnocconfaaDoorQx0
import Derived.Test.YtlhkojnocconfaaDoorQx2
import Derived.Test.YtlhkojnocconfaaDoorQx3
import Derived.Test.YtlhkojnocconfaaDoorAw
import Derived.Test.YtlhkojnocconfaaDoorAwAll
import Derived.Test.YtlhkojnocconfaaDoorHasmOf
import Derived.Test.YtlhkojnocconfaaDoorHasmShow
import Derived.Test.YtlhkojnocconfaaDoorLaid
--@needs XAw
--@needs XAwSl
--@needs XAwFrame
--@needs XAwOut
--@needs XHasmOf
--@needs XHasmShow
--@needs XLaid
--@uses camlet/asm.Back
--@uses camlet/asm.Labels
import Derived.LoopTactic
import Derived.Lib.Hide
namespace Go.Proofs.YtlhkojnocconfaaDoor.Q
open Go.RowKit Go.Proofs.YtlhkojnocconfaaDoorW.PrintWords Go.Proofs.YtlhkojnocconfaaDoorW.PrintLast Go.Proofs.YtlhkojnocconfaaDoorW.PrintMore
attribute [local go_sem] max2_int min2_int max_two min_two max_three min_three max_four min_four   -- for this text's walks alone
set_option linter.unusedVariables false
set_option linter.unusedSimpArgs false

def camletlaw40_knows.f (_k : Nat) : Option (Bool) := some true
theorem camletlaw40_knows.mono (k : Nat) : LeO (camletlaw40_knows.f k) (camletlaw40_knows.f (k + 1)) := LeO.refl _
def knA1 : S36 := ⟨⟨#[115, 116, 97, 114, 116]⟩, ⟨1, 8, 0, 0, 0⟩, ⟨#[115, 116, 97, 114, 116]⟩⟩
def knA2 : S36 := ⟨⟨#[120]⟩, ⟨22, 0, 0, 0, 0⟩, ⟨#[120]⟩⟩
def knB1 : S36 := ⟨⟨#[]⟩, ⟨1, 8, 0, 0, 1⟩, ⟨#[]⟩⟩
def knB2 : S36 := ⟨⟨#[]⟩, ⟨22, 0, 0, 0, -1⟩, ⟨#[]⟩⟩
theorem kn_of : asm_Of.f [knA1, knA2] = some ([83886081, 1478492159], 0, 0) := by kernel_rfl
theorem kn_back : asm_Back.f 10 [83886081, 1478492159] = some ([knB1, knB2], 0, 0) := by kernel_rfl
theorem kn_show : asm_Show.f [knA1, knA2] = some ⟨#[115, 116, 97, 114, 116, 58, 32, 108, 105, 32, 56, 32, 48, 32, 62, 115, 116, 97, 114, 116, 10, 120, 58, 32, 106, 97, 108, 32, 48, 32, 48, 32, 62, 120, 10]⟩ := by kernel_rfl
theorem kn_labels : asm_Labels.f 10 [knA1, knA2] ⟨#[120]⟩ = some 1 := by kernel_rfl
def lineCells (x : S36) : List Value := [.string x.f0, .int .i64 x.f1.f0, .int .i64 x.f1.f1, .int .i64 x.f1.f2, .int .i64 x.f1.f3, .int .i64 x.f1.f4, .string x.f2]
theorem kn_reads2 {S : Nat → Prop} {w W : World} {L : List (Nat × Blk)} {i g : Nat} (x y : S36) (HA : Aw S w W L) (hi : L[i]? = some (g, .c 36 (lineCells x ++ lineCells y))) : Kd.C k36 W (some ⟨g, 0, none⟩) 2 [x, y] := by
  refine ⟨rfl, by decide, fun _ => ⟨_, rfl, ?_⟩⟩
  intro j p hp
  have hj := (List.getElem?_eq_some_iff.1 hp).1
  simp only [List.length_cons, List.length_nil] at hj
  match j, hj, hp with
  | 0, _, hp =>
    obtain rfl : x = p := by simpa using hp
    refine ⟨lineCells x, rfl, k36_mk W x, fun i u hu => ?_⟩
    rw [Addr.add_mid, Nat.zero_mul, Nat.zero_add, Nat.zero_add]
    refine HA.cell hi ?_
    rw [List.getElem?_append_left (List.getElem?_eq_some_iff.1 hu).1]
    exact hu
  | 1, _, hp =>
    obtain rfl : y = p := by simpa using hp
    refine ⟨lineCells y, rfl, k36_mk W y, fun i u hu => ?_⟩
    rw [Addr.add_mid, Nat.zero_add]
    refine HA.cell hi ?_
    have e : (lineCells x).length = 1 * k36.sz := rfl
    rw [← e, List.getElem?_append_right (Nat.le_add_right _ _), Nat.add_sub_cancel_left]
    exact hu
theorem kn_own {w W : World} {L : List (Nat × Blk)} {q : IntKind} {e : TypeId} {A : Option Addr} {c : Nat} {l : List Int} {Lv : List (Nat × Blk)} (h : Own e 1 (.slice A l.length c) l.length (l.map (Value.int q)) Lv) (HA : Aw noS w W L) (hs : ∀ x ∈ Lv, x ∈ L) : Kd.C (Kd.int q) W A l.length l ∧ l.length ≤ c := by
  have := Kd.R_reads' (h.kdR (ok := fun _ => True) HA hs (fun _ _ => trivial))
  exact ⟨this.2.2, this.2.1⟩
set_option maxHeartbeats 8000000 in
set_option maxRecDepth 100000 in
theorem camletlaw40_knows.calls (k : Nat) (r : Bool) (w : World) (hG : Laid w) (h : camletlaw40_knows.f k = some r) :
    Calls Tryd.prog 9 #[] w fun e w' => e = .returned (.bool r) ∧ Below w.heap.size w w' := by
  have HA := Aw.start noS w
  have HG := Aside0.mk hG
  obtain rfl : true = r := Option.some.inj h
  clear h hG
  go_enter Tryd.func9, Tryd.ntmps9
  go_wp2_with (first | ((with_reducible refine gate_dst (N := 12) rfl ?_); refine aw_newv (fun g => .slice (some ⟨g, 0, none⟩) 2 2) 36 (lineCells knA1 ++ lineCells knA2) rfl (fun W => by first | kernel_rfl | (go_simp; done) | (go_simp; rfl)) HA ?_; clear HA; intro g1 W_ HA; simp only [Act.put, List.setIfInBounds_toArray, List.set_cons_succ, List.set_cons_zero]) | (go_at_call 10; have hq := asm_Of.calls (some ⟨g1, 0, none⟩) 2 [knA1, knA2] [83886081, 1478492159] 0 0 _ (kn_reads2 (i := 0) knA1 knA2 HA rfl) (Nat.le_refl 2) kn_of; refine hq.mono ?_; clear hq; rintro e W_ ⟨v1, rfl, hR1, hb_⟩; obtain ⟨Lv1, hown1, HA1⟩ := HA.fromR hb_ hR1; clear hR1 hb_ HA; have HA := HA1; clear HA1; obtain ⟨A1, c1, rfl⟩ := own_form hown1; dsimp only [List.cons_append, List.nil_append] at HA) | (go_at_call 17; have hq := asm_Back.calls 10 A1 c1 [83886081, 1478492159] [knB1, knB2] 0 0 _ (kn_own hown1 HA (fun x hx => by simp [hx])).1 (kn_own hown1 HA (fun x hx => by simp [hx])).2 kn_back; refine hq.mono ?_; clear hq; rintro e W_ ⟨v2, rfl, hR2, hb_⟩; obtain ⟨gb, cb, rfl, _⟩ := Kd.R_form hR2 (by decide); have hC2 := (Kd.R_reads' hR2).2.2; obtain ⟨ad, ea, x0, x1, x2, x3, x4, x5, x6⟩ := at_T36 hC2 0 (by decide) (by decide); injection ea with ea; subst ea; obtain ⟨ad, ea, y0, y1, y2, y3, y4, y5, y6⟩ := at_T36 hC2 1 (by decide) (by decide); injection ea with ea; subst ea; clear hC2 hR2; replace HA := HA.call hb_; clear hb_; change W_.cell? ⟨gb, 1, none⟩ = some (Value.int .i64 1) at x1; change W_.cell? ⟨gb, 2, none⟩ = some (Value.int .i64 8) at x2; change W_.cell? ⟨gb, 3, none⟩ = some (Value.int .i64 0) at x3; change W_.cell? ⟨gb, 4, none⟩ = some (Value.int .i64 0) at x4; change W_.cell? ⟨gb, 5, none⟩ = some (Value.int .i64 1) at x5; change W_.cell? ⟨gb, 12, none⟩ = some (Value.int .i64 (-1)) at y5; clear x0 x6 y0 y1 y2 y3 y4 y6) | (go_at_call 19; have hq := asm_Show.calls (some ⟨g1, 0, none⟩) 2 [knA1, knA2] _ _ (kn_reads2 (i := 0) knA1 knA2 HA rfl) (Nat.le_refl 2) (HG.out.mono HA.below) kn_show; refine hq.mono ?_; clear hq; rintro e W_ ⟨rfl, hb_⟩; replace HA := HA.call hb_; clear hb_) | (go_at_call 13; have hq := asm_Labels.calls 10 (some ⟨g1, 0, none⟩) 2 [knA1, knA2] ⟨#[120]⟩ 1 _ (kn_reads2 (i := 0) knA1 knA2 HA rfl) (Nat.le_refl 2) kn_labels; refine hq.mono ?_; clear hq; rintro e W_ ⟨rfl, hb_⟩; replace HA := HA.call hb_; clear hb_))
  go_ret
  exact ⟨rfl, HA.below⟩
end Go.Proofs.YtlhkojnocconfaaDoor.Q
