/- ends.Show: an end's text (package-level array of words, numerals, a loop that adds to a string). -/
import Derived.Test.YtaijpfooobcdkaaDoorQx0
import Derived.Test.YtaijpfooobcdkaaDoorQx1
import Derived.Test.YtaijpfooobcdkaaDoorHnumShow
import Derived.Test.YtaijpfooobcdkaaDoorLaid
--@needs XLaid
--@uses camlet/ends.Right
--@uses camlet/num.Show
import Derived.Lib.ItoaLen
import Derived.RegionTactic
import Derived.Outline
namespace Go.Proofs.YtaijpfooobcdkaaDoor.Q
open Go.RowKit Go.Proofs.YtaijpfooobcdkaaDoorW.PrintWords Go.Proofs.YtaijpfooobcdkaaDoorW.PrintLast Go.Proofs.YtaijpfooobcdkaaDoorW.PrintMore
attribute [local go_sem] max2_int min2_int max_two min_two max_three min_three max_four min_four   -- for this text's walks alone
set_option linter.unusedVariables false
set_option linter.unusedSimpArgs false

def endWord (kind : Int) : List UInt8 :=
  if kind = 1 then [100, 111, 110, 101] else if kind = 2 then [114, 97, 105, 115, 101] else if kind = 3 then [102, 117, 101, 108] else if kind = 4 then [115, 116, 117, 99, 107] else if kind = 5 then [104, 101, 97, 112] else [115, 116, 97, 99, 107]
def endHead (kind n : Int) : List UInt8 := if kind = 2 then endWord kind ++ (32 :: Lib.itoa n) else endWord kind
def endTail : List Int → List UInt8
  | [] => []
  | l => 58 :: l.flatMap fun x => 32 :: Lib.itoa x
theorem endTail_snoc (l : List Int) (x : Int) : endTail (l ++ [x]) = if l = [] then 58 :: 32 :: Lib.itoa x else endTail l ++ (32 :: Lib.itoa x) := by
  cases l with
  | nil => simp [endTail]
  | cons y l => simp [endTail, List.flatMap_append]
theorem ba_app (a b : List UInt8) : (⟨a.toArray⟩ : ByteArray) ++ ⟨b.toArray⟩ = ⟨(a ++ b).toArray⟩ := by
  apply ByteArray.ext
  simp [ByteArray.data_append]
theorem show_of {x : Int} (h : -9223372036854775808 ≤ x ∧ x ≤ 9223372036854775807) : ∃ T : ByteArray, num_Show.f x = some T ∧ T.size ≤ 21 ∧ T = ⟨(Lib.itoa x).toArray⟩ :=
  ⟨⟨(Lib.itoa x).toArray⟩, if_pos h, by show (Lib.itoa x).toArray.size ≤ 21; rw [List.size_toArray]; exact Lib.itoa_length_le x h.1 h.2, rfl⟩
theorem endTail_length (l : List Int) (h : ∀ x ∈ l, -9223372036854775808 ≤ x ∧ x ≤ 9223372036854775807) : (endTail l).length ≤ 1 + 22 * l.length := by
  have h2 : ∀ m : List Int, (∀ x ∈ m, -9223372036854775808 ≤ x ∧ x ≤ 9223372036854775807) → (m.flatMap fun x => 32 :: Lib.itoa x).length ≤ 22 * m.length := by
    intro m
    induction m with
    | nil => intro _; simp
    | cons y m ih =>
      intro hm
      have h1 := Lib.itoa_length_le y (hm y (by simp)).1 (hm y (by simp)).2
      have h3 := ih (fun x hx => hm x (by simp [hx]))
      simp only [List.flatMap_cons, List.length_append, List.length_cons] at *
      omega
  cases l with
  | nil => simp [endTail]
  | cons y l =>
    have := h2 (y :: l) h
    simp only [endTail, List.length_cons] at *
    omega
theorem endWord_length (k : Int) : (endWord k).length ≤ 5 := by
  unfold endWord
  repeat' split
  all_goals simp
theorem end_size (k n : Int) (l : List Int) (j : Nat) (hn : -9223372036854775808 ≤ n ∧ n ≤ 9223372036854775807) (h : ∀ x ∈ l, -9223372036854775808 ≤ x ∧ x ≤ 9223372036854775807) : (⟨(endHead k n ++ endTail (l.take j)).toArray⟩ : ByteArray).size ≤ 60 + 22 * j := by
  show (endHead k n ++ endTail (l.take j)).toArray.size ≤ _
  rw [List.size_toArray, List.length_append]
  have h1 := endTail_length (l.take j) (fun x hx => h x (List.mem_of_mem_take hx))
  have h2 : (l.take j).length ≤ j := List.length_take_le _ _
  have h3 : (endHead k n).length ≤ 30 := by
    unfold endHead
    have := endWord_length k
    have := Lib.itoa_length_le n hn.1 hn.2
    split <;> simp <;> omega
  omega
theorem ba_space : (⟨#[32]⟩ : ByteArray) = ⟨([32] : List UInt8).toArray⟩ := rfl
theorem ba_colon : (⟨#[58]⟩ : ByteArray) = ⟨([58] : List UInt8).toArray⟩ := rfl
theorem end_start {k n : Int} {l : List Int} (h : ¬ k = 2) : (⟨(endWord k).toArray⟩ : ByteArray) = ⟨(endHead k n ++ endTail (l.take 0)).toArray⟩ := by
  simp [endHead, h, endTail]
theorem end_start2 {n : Int} {l : List Int} {Wd T : ByteArray} (hW : Wd = ⟨(endWord 2).toArray⟩) (hT : T = ⟨(Lib.itoa n).toArray⟩) : Wd ++ ((⟨#[32]⟩ : ByteArray) ++ T) = ⟨(endHead 2 n ++ endTail (l.take 0)).toArray⟩ := by
  rw [hW, hT, ba_space, ba_app, ba_app]
  simp [endHead, endTail]
theorem end_step0 {H : List UInt8} {l : List Int} {S T : ByteArray} {hlt : 0 < l.length} (hS : S = ⟨(H ++ endTail (l.take 0)).toArray⟩) (hT : T = ⟨(Lib.itoa l[0]).toArray⟩) (_ : 0 < l.length) : (S ++ (⟨#[58]⟩ : ByteArray)) ++ ((⟨#[32]⟩ : ByteArray) ++ T) = ⟨(H ++ endTail (l.take 1)).toArray⟩ := by
  rw [hS, hT, ba_space, ba_colon, ba_app, ba_app, ba_app]
  cases l with
  | nil => simp at hlt
  | cons y l => simp [endTail]
theorem end_step {H : List UInt8} {l : List Int} {j : Nat} {S T : ByteArray} {hlt : j < l.length} (hS : S = ⟨(H ++ endTail (l.take j)).toArray⟩) (hT : T = ⟨(Lib.itoa l[j]).toArray⟩) (_ : j < l.length) (h0 : ¬ j = 0) : S ++ ((⟨#[32]⟩ : ByteArray) ++ T) = ⟨(H ++ endTail (l.take (j + 1))).toArray⟩ := by
  rw [hS, hT, ba_space, ba_app, ba_app, List.take_succ_eq_append_getElem hlt, endTail_snoc, if_neg]
  · simp
  · intro h
    have := congrArg List.length h
    rw [List.length_take, List.length_nil] at this
    omega
theorem words_at {w : World} {k : Int} (hG : Laid w) (h1 : 1 ≤ k) (h6 : k ≤ 6) : w.cell? ⟨0, k.toNat - 1, none⟩ = some (.string ⟨(endWord k).toArray⟩) := by
  have hc := fun i => World.var?_cell gWords hG.2.1 i
  have hk : k = 1 ∨ k = 2 ∨ k = 3 ∨ k = 4 ∨ k = 5 ∨ k = 6 := by omega
  rcases hk with rfl | rfl | rfl | rfl | rfl | rfl
  · exact hc 0
  · exact hc 1
  · exact hc 2
  · exact hc 3
  · exact hc 4
  · exact hc 5
theorem Addr.add_zero_ (ad : Addr) : ad.add 0 = ad := by cases ad; unfold Addr.add; split <;> simp_all
def ends_Show.f (k : Nat) (a0_0 : Int) (a0_1 : Int) (l0_2 : List Int) (a0_3 : Int) : Option (ByteArray) :=
  (ends_Right.f k a0_0 a0_1 l0_2 a0_3).bind fun t => if t = true then
    (if l0_2.length * 22 + 100 ≤ 9223372036854775807 ∧ 1 ≤ a0_0 ∧ a0_0 ≤ 6 ∧ (-9223372036854775808 ≤ a0_1 ∧ a0_1 ≤ 9223372036854775807) ∧ (∀ x ∈ l0_2, -9223372036854775808 ≤ x ∧ x ≤ 9223372036854775807) then some ⟨(endHead a0_0 a0_1 ++ endTail l0_2).toArray⟩ else none) else some ⟨#[]⟩
theorem ends_Show.mono : ∀ a0 a1 a2 a3 k, LeO (ends_Show.f k a0 a1 a2 a3) (ends_Show.f (k + 1) a0 a1 a2 a3) := by
  intro a0 a1 a2 a3 k
  unfold ends_Show.f
  exact LeO.bind (ends_Right.mono _ _ _ _ _) (fun _ => LeO.refl _)
set_option maxHeartbeats 4000000 in
set_option maxRecDepth 100000 in
theorem ends_Show.calls (k : Nat) (a0_0 : Int) (a0_1 : Int) (A0_2 : Option Addr) (c0_2 : Nat) (l0_2 : List Int) (a0_3 : Int) (r : ByteArray) (w : World) (hr0_2 : Kd.C (Kd.int .i64) w A0_2 l0_2.length l0_2) (hc0_2 : l0_2.length ≤ c0_2) (hG : Laid w) (h : ends_Show.f k a0_0 a0_1 l0_2 a0_3 = some r) :
    Calls Tryd.prog 13 #[.agg #[.int .i64 a0_0, .int .i64 a0_1, .slice A0_2 l0_2.length c0_2, .int .i64 a0_3]] w fun e w' => e = .returned (.string r) ∧ Below w.heap.size w w' := by
  have hu := Tryd.underlying25
  unfold ends_Show.f at h
  obtain ⟨t, h1, h⟩ := Option.bind_eq_some_iff.mp h
  have HRt := Lib.hid h1
  clear h1
  have HR := Lib.hid hr0_2
  have HC := Lib.hid hc0_2
  have HG := Lib.hid hG
  clear hr0_2 hc0_2 hG
  have HB := Aside0.mk (Below.refl w.heap.size w)
  cases t with
  | false =>
    obtain rfl := Option.some.inj h
    go_enter Tryd.func13, Tryd.ntmps13
    go_wp2_with (go_at_call 7; refine (ends_Right.calls k a0_0 a0_1 A0_2 c0_2 l0_2 a0_3 false _ ?side1 HC.out HRt.out).mono ?_; (case side1 => exact Kd.C_below HR.out (by repeat (first | exact HB.out | apply below_alloc | apply pw_below_drewN | apply below_drew1))); rintro e w1 ⟨rfl, hb⟩; have n0_ := Aside0.mk (below_step (by repeat (first | exact HB.out | apply below_alloc | apply pw_below_drewN | apply below_drew1)) hb); clear HB; have HB := n0_; clear n0_; clear hb)
    go_ret
    exact ⟨rfl, ‹Aside0 (Below w.heap.size w _)›.out⟩
  | true =>
    rw [if_pos rfl] at h
    by_cases hb : l0_2.length * 22 + 100 ≤ 9223372036854775807 ∧ 1 ≤ a0_0 ∧ a0_0 ≤ 6 ∧ (-9223372036854775808 ≤ a0_1 ∧ a0_1 ≤ 9223372036854775807) ∧ (∀ x ∈ l0_2, -9223372036854775808 ≤ x ∧ x ≤ 9223372036854775807)
    · rw [if_pos hb] at h
      obtain rfl := Option.some.inj h
      obtain ⟨hlen, hk1, hk2, hn, hxs⟩ := hb
      have HN := Lib.hid hn
      have HX := Lib.hid hxs
      have HL := Lib.hid hlen
      clear hn hxs hlen
      have HW : ∀ W, Below w.heap.size w W → W.cell? ⟨0, a0_0.toNat - 1, none⟩ = some (.string ⟨(endWord a0_0).toArray⟩) := fun W hb => words_at (HG.out.mono hb) hk1 hk2
      have HW2 := Aside0.mk HW
      clear HW
      by_cases h2 : a0_0 = 2
      · subst h2
        have HW3 : ∀ W, Below w.heap.size w W → W.cell? ⟨0, 1, none⟩ = some (.string ⟨(endWord 2).toArray⟩) := HW2.out
        clear HW2
        have HW2 := Aside0.mk HW3
        clear HW3
        obtain ⟨T, hT1, hT2, hT3⟩ := show_of HN.out
        have HT := Aside0.mk hT1
        have HT3 := Aside0.mk hT3
        clear hT1 hT3
        obtain ⟨Wd, hWd⟩ : ∃ Wd : ByteArray, Wd = ⟨(endWord 2).toArray⟩ := ⟨_, rfl⟩
        have hws : Wd.size = 5 := by rw [hWd]; rfl
        rw [← hWd] at HW2
        have HWd := Aside0.mk hWd
        clear hWd
        have q0_ : 1 + T.size ≤ 9223372036854775807 := (by omega)
        have q1_ : Wd.size + (1 + T.size) ≤ 9223372036854775807 := (by omega)
        have q0a := eq_true q0_
        have q0b := decide_eq_true q0_
        have q0c : (9223372036854775807 < 1 + T.size) = False := eq_false (Nat.not_lt.2 q0_)
        clear q0_
        have q1a := eq_true q1_
        have q1b := decide_eq_true q1_
        have q1c : (9223372036854775807 < Wd.size + (1 + T.size)) = False := eq_false (Nat.not_lt.2 q1_)
        clear q1_
        clear hT2 hws
        go_enter Tryd.func13, Tryd.ntmps13
        go_wp2_with (first | (go_at_call 7; refine (ends_Right.calls k 2 a0_1 A0_2 c0_2 l0_2 a0_3 true _ ?side1 HC.out HRt.out).mono ?_; (case side1 => exact Kd.C_below HR.out (by repeat (first | exact HB.out | apply below_alloc | apply pw_below_drewN | apply below_drew1))); rintro e w1 ⟨rfl, hb⟩; have n0_ := Aside0.mk (below_step (by repeat (first | exact HB.out | apply below_alloc | apply pw_below_drewN | apply below_drew1)) hb); clear HB; have HB := n0_; clear n0_; have cw := HW2.out _ HB.out; have cc0 := hb.cell (p := ⟨w.heap.size, 0, none⟩) (by simp); have cc1 := hb.cell (p := ⟨w.heap.size, 1, none⟩) (by simp); have cc2 := hb.cell (p := ⟨w.heap.size, 2, none⟩) (by simp); have HZ := Aside0.mk hb.size; clear hb) | (go_at_call 22; refine (num_Show.calls a0_1 T _ (HG.out.mono HB.out) HT.out).mono ?_; rintro e w2 ⟨rfl, hb⟩; have n0_ := Aside0.mk (below_step (by repeat (first | exact HB.out | apply below_alloc | apply pw_below_drewN | apply below_drew1)) hb); clear HB; have HB := n0_; clear n0_; have cd2 := hb.cell (p := ⟨w.heap.size, 2, none⟩) (by have := HZ.out; simp at this ⊢; omega); clear hb))
        go_loopw [3, 26] (fun s i wr => ∃ (j : Nat) (S : ByteArray), j ≤ l0_2.length ∧ i = .int .i64 j ∧ s = .string S ∧ Aside0 (S = ⟨(endHead 2 a0_1 ++ endTail (l0_2.take j)).toArray⟩) ∧ Aside0 (Below w.heap.size w wr)) (fun _ i _ => l0_2.length - (intOf i).toNat)
        case atStart => exact ⟨0, _, Nat.zero_le _, rfl, rfl, Aside0.mk (end_start2 HWd.out HT3.out), HB⟩
        case round =>
          obtain ⟨j, S, hj, rfl, rfl, HS, HB⟩ := hrel
          by_cases hlt : j < l0_2.length
          · obtain ⟨ad, rfl, hc⟩ := Kd.at_int (Kd.C_below HR.out HB.out) (j : Int) (by omega) (by omega)
            have hrd : rd l0_2 (j : Int) = l0_2[j] := by unfold rd; simp [hlt]
            rw [hrd, Int.toNat_natCast] at hc
            obtain ⟨T, hT1, hT2, hT3⟩ := show_of (HX.out l0_2[j] (List.getElem_mem hlt))
            have HT := Aside0.mk hT1
            have HT3 := Aside0.mk hT3
            clear hT1 hT3 hrd
            have hbd : j + 1 ≤ 9223372036854775807 := by have := HL.out; omega
            have hS : S.size ≤ 60 + 22 * j := by rw [HS.out]; exact end_size _ _ _ _ HN.out HX.out
            have hS2 : S.size + 24 ≤ 9223372036854775807 := by have := HL.out; omega
            by_cases hz : j = 0
            · subst hz
              have hc0 : wr.cell? ad = _ := (congrArg wr.cell? (Addr.add_zero_ ad)).symm.trans hc
              clear hc
              have q0_ : S.size + 1 ≤ 9223372036854775807 := (by omega)
              have q1_ : 1 + T.size ≤ 9223372036854775807 := (by omega)
              have q2_ : S.size + 1 + (1 + T.size) ≤ 9223372036854775807 := (by omega)
              have q0a := eq_true q0_
              have q0b := decide_eq_true q0_
              have q0c : (9223372036854775807 < S.size + 1) = False := eq_false (Nat.not_lt.2 q0_)
              clear q0_
              have q1a := eq_true q1_
              have q1b := decide_eq_true q1_
              have q1c : (9223372036854775807 < 1 + T.size) = False := eq_false (Nat.not_lt.2 q1_)
              clear q1_
              have q2a := eq_true q2_
              have q2b := decide_eq_true q2_
              have q2c : (9223372036854775807 < S.size + 1 + (1 + T.size)) = False := eq_false (Nat.not_lt.2 q2_)
              clear q2_
              clear hS hS2 hT2
              go_wp2_with (go_at_call 22; refine (num_Show.calls l0_2[0] T _ (HG.out.mono HB.out) HT.out).mono ?_; rintro e w2 ⟨rfl, hb⟩; have n0_ := Aside0.mk (below_step (by repeat (first | exact HB.out | apply below_alloc | apply pw_below_drewN | apply below_drew1)) hb); clear HB; have HB := n0_; clear n0_; clear hb)
              go_roundw
              case rel => exact ⟨1, _, by omega, by go_num, rfl, Aside0.mk (end_step0 HS.out HT3.out hlt), HB⟩
              case measure => simp [intOf]; omega
            · have hz2 : ((j : Int) == 0) = false := beq_eq_false_iff_ne.mpr (by omega)
              have HZ0 := Aside0.mk hz
              clear hz
              have q0_ : 1 + T.size ≤ 9223372036854775807 := (by omega)
              have q1_ : S.size + (1 + T.size) ≤ 9223372036854775807 := (by omega)
              have q0a := eq_true q0_
              have q0b := decide_eq_true q0_
              have q0c : (9223372036854775807 < 1 + T.size) = False := eq_false (Nat.not_lt.2 q0_)
              clear q0_
              have q1a := eq_true q1_
              have q1b := decide_eq_true q1_
              have q1c : (9223372036854775807 < S.size + (1 + T.size)) = False := eq_false (Nat.not_lt.2 q1_)
              clear q1_
              clear hS hS2 hT2
              go_wp2_with (go_at_call 22; refine (num_Show.calls l0_2[j] T _ (HG.out.mono HB.out) HT.out).mono ?_; rintro e w2 ⟨rfl, hb⟩; have n0_ := Aside0.mk (below_step (by repeat (first | exact HB.out | apply below_alloc | apply pw_below_drewN | apply below_drew1)) hb); clear HB; have HB := n0_; clear n0_; clear hb)
              go_roundw
              case rel => exact ⟨j + 1, _, by omega, by go_num, rfl, Aside0.mk (end_step HS.out HT3.out hlt HZ0.out), HB⟩
              case measure => simp [intOf]; omega
          · obtain rfl : j = l0_2.length := by omega
            have HS2 := HS.out
            rw [List.take_length] at HS2
            subst HS2
            go_wp2
            go_ret
            exact ⟨rfl, HB.out⟩
      · have e2 : (a0_0 == 2) = false := beq_eq_false_iff_ne.mpr h2
        have HE2 := Aside0.mk h2
        clear h2
        go_enter Tryd.func13, Tryd.ntmps13
        go_wp2_with (first | (go_at_call 7; refine (ends_Right.calls k a0_0 a0_1 A0_2 c0_2 l0_2 a0_3 true _ ?side1 HC.out HRt.out).mono ?_; (case side1 => exact Kd.C_below HR.out (by repeat (first | exact HB.out | apply below_alloc | apply pw_below_drewN | apply below_drew1))); rintro e w1 ⟨rfl, hb⟩; have n0_ := Aside0.mk (below_step (by repeat (first | exact HB.out | apply below_alloc | apply pw_below_drewN | apply below_drew1)) hb); clear HB; have HB := n0_; clear n0_; have cw := HW2.out _ HB.out; have cc0 := hb.cell (p := ⟨w.heap.size, 0, none⟩) (by simp); have cc1 := hb.cell (p := ⟨w.heap.size, 1, none⟩) (by simp); have cc2 := hb.cell (p := ⟨w.heap.size, 2, none⟩) (by simp); have HZ := Aside0.mk hb.size; clear hb))
        go_loopw [3, 26] (fun s i wr => ∃ (j : Nat) (S : ByteArray), j ≤ l0_2.length ∧ i = .int .i64 j ∧ s = .string S ∧ Aside0 (S = ⟨(endHead a0_0 a0_1 ++ endTail (l0_2.take j)).toArray⟩) ∧ Aside0 (Below w.heap.size w wr)) (fun _ i _ => l0_2.length - (intOf i).toNat)
        case atStart => exact ⟨0, _, Nat.zero_le _, rfl, rfl, Aside0.mk (end_start HE2.out), HB⟩
        case round =>
          obtain ⟨j, S, hj, rfl, rfl, HS, HB⟩ := hrel
          by_cases hlt : j < l0_2.length
          · obtain ⟨ad, rfl, hc⟩ := Kd.at_int (Kd.C_below HR.out HB.out) (j : Int) (by omega) (by omega)
            have hrd : rd l0_2 (j : Int) = l0_2[j] := by unfold rd; simp [hlt]
            rw [hrd, Int.toNat_natCast] at hc
            obtain ⟨T, hT1, hT2, hT3⟩ := show_of (HX.out l0_2[j] (List.getElem_mem hlt))
            have HT := Aside0.mk hT1
            have HT3 := Aside0.mk hT3
            clear hT1 hT3 hrd
            have hbd : j + 1 ≤ 9223372036854775807 := by have := HL.out; omega
            have hS : S.size ≤ 60 + 22 * j := by rw [HS.out]; exact end_size _ _ _ _ HN.out HX.out
            have hS2 : S.size + 24 ≤ 9223372036854775807 := by have := HL.out; omega
            by_cases hz : j = 0
            · subst hz
              have hc0 : wr.cell? ad = _ := (congrArg wr.cell? (Addr.add_zero_ ad)).symm.trans hc
              clear hc
              have q0_ : S.size + 1 ≤ 9223372036854775807 := (by omega)
              have q1_ : 1 + T.size ≤ 9223372036854775807 := (by omega)
              have q2_ : S.size + 1 + (1 + T.size) ≤ 9223372036854775807 := (by omega)
              have q0a := eq_true q0_
              have q0b := decide_eq_true q0_
              have q0c : (9223372036854775807 < S.size + 1) = False := eq_false (Nat.not_lt.2 q0_)
              clear q0_
              have q1a := eq_true q1_
              have q1b := decide_eq_true q1_
              have q1c : (9223372036854775807 < 1 + T.size) = False := eq_false (Nat.not_lt.2 q1_)
              clear q1_
              have q2a := eq_true q2_
              have q2b := decide_eq_true q2_
              have q2c : (9223372036854775807 < S.size + 1 + (1 + T.size)) = False := eq_false (Nat.not_lt.2 q2_)
              clear q2_
              clear hS hS2 hT2
              go_wp2_with (go_at_call 22; refine (num_Show.calls l0_2[0] T _ (HG.out.mono HB.out) HT.out).mono ?_; rintro e w2 ⟨rfl, hb⟩; have n0_ := Aside0.mk (below_step (by repeat (first | exact HB.out | apply below_alloc | apply pw_below_drewN | apply below_drew1)) hb); clear HB; have HB := n0_; clear n0_; clear hb)
              go_roundw
              case rel => exact ⟨1, _, by omega, by go_num, rfl, Aside0.mk (end_step0 HS.out HT3.out hlt), HB⟩
              case measure => simp [intOf]; omega
            · have hz2 : ((j : Int) == 0) = false := beq_eq_false_iff_ne.mpr (by omega)
              have HZ0 := Aside0.mk hz
              clear hz
              have q0_ : 1 + T.size ≤ 9223372036854775807 := (by omega)
              have q1_ : S.size + (1 + T.size) ≤ 9223372036854775807 := (by omega)
              have q0a := eq_true q0_
              have q0b := decide_eq_true q0_
              have q0c : (9223372036854775807 < 1 + T.size) = False := eq_false (Nat.not_lt.2 q0_)
              clear q0_
              have q1a := eq_true q1_
              have q1b := decide_eq_true q1_
              have q1c : (9223372036854775807 < S.size + (1 + T.size)) = False := eq_false (Nat.not_lt.2 q1_)
              clear q1_
              clear hS hS2 hT2
              go_wp2_with (go_at_call 22; refine (num_Show.calls l0_2[j] T _ (HG.out.mono HB.out) HT.out).mono ?_; rintro e w2 ⟨rfl, hb⟩; have n0_ := Aside0.mk (below_step (by repeat (first | exact HB.out | apply below_alloc | apply pw_below_drewN | apply below_drew1)) hb); clear HB; have HB := n0_; clear n0_; clear hb)
              go_roundw
              case rel => exact ⟨j + 1, _, by omega, by go_num, rfl, Aside0.mk (end_step HS.out HT3.out hlt HZ0.out), HB⟩
              case measure => simp [intOf]; omega
          · obtain rfl : j = l0_2.length := by omega
            have HS2 := HS.out
            rw [List.take_length] at HS2
            subst HS2
            go_wp2
            go_ret
            exact ⟨rfl, HB.out⟩
    · rw [if_neg hb] at h
      cases h
end Go.Proofs.YtaijpfooobcdkaaDoor.Q
