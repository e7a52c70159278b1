/- value.Right and heap.may. By wip/gen/val_right.py. -/
--@needs XHvalR
import Derived.Test.YtaddjeegplfjiaaQx0
import Derived.Test.YtaddjeegplfjiaaHvalR
import Derived.LoopTactic
import Derived.Deep.LoopGhost
import Derived.Lib.Hide
import Derived.IntWalk
import Derived.Outline
namespace Go.Proofs.Ytaddjeegplfjiaa.Q
open Go.RowKit Go.Proofs.YtaddjeegplfjiaaW.PrintWords Go.Proofs.YtaddjeegplfjiaaW.PrintLast Go.Proofs.YtaddjeegplfjiaaW.PrintMore
attribute [local go_sem] max2_int min2_int max_two min_two max_three min_three max_four min_four   -- for this text's walks alone
set_option linter.unusedVariables false
set_option linter.unusedSimpArgs false


set_option maxRecDepth 100000 in
theorem valRight.calls {x : S34} {A : Option Addr} {c : Nat} {w : World} (hC : Kd.C k34 w A x.f2.length x.f2) (hc : x.f2.length ≤ c) :
    Calls Try.prog 26 #[.agg #[.int .i64 x.f0, .int .i64 x.f1, .slice A x.f2.length c]] w fun e w' => e = .returned (.bool (valR 100 x)) ∧ Below w.heap.size w w' := by
  have hu := Try.underlying34
  have HE := Aside0.mk (valR.calls 100 x A c (w.alloc (.cells #[.int .i64 x.f0, .int .i64 x.f1, .slice A x.f2.length c] 34)) (by decide) (Kd.C_alloc hC _) hc)
  go_enter Try.func26, Try.ntmps26
  go_wp2_with (first | (go_at_call 42; refine HE.out.mono ?_; rintro e w2 ⟨rfl, hb⟩))
  go_ret
  exact ⟨rfl, below_step ((Below.refl _ _).alloc (Nat.le_refl _) _) hb⟩
theorem valShape_len {k N n : Int} (h : valShape k N n = true) (h0 : 0 ≤ n) : n ≤ 255 := by
  unfold valShape at h
  repeat' split at h
  all_goals simp at h
  all_goals omega
theorem valR_len {d : Nat} {x : S34} (h : valR d x = true) : x.f2.length ≤ 255 := by
  cases d with
  | zero => simp [valR] at h
  | succ d =>
    simp only [valR, Bool.and_eq_true] at h
    have := valShape_len h.1 (by omega)
    omega
theorem valR_kid {d : Nat} {x : S34} (h : valR (d + 1) x = true) : ∀ y ∈ x.f2, valR d y = true := by
  intro y hy
  simp only [valR, Bool.and_eq_true] at h
  have h2 := h.2
  rcases hv : valR d y with _ | _
  · have : x.f2.any (fun y => !valR d y) = true := List.any_eq_true.mpr ⟨y, hy, by rw [hv]; rfl⟩
    rw [this] at h2
    simp at h2
  · rfl
/-- what heap.may computes of a value that is right, so deep at most -/
def mayM : Nat → S34 → Bool
  | 0, _ => false
  | d + 1, x => !(decide (x.f0 = 4) || decide (x.f0 = 3) && (decide (x.f1 ≥ 16384) || decide ((x.f2.length : Int) > 255))) && x.f2.any (fun y => !mayM d y) == false

set_option maxHeartbeats 8000000 in
set_option maxRecDepth 100000 in
theorem mayM.idx {p : S34 → Bool} {w : World} {A : Option Addr} {c : Nat} {l : List S34} (hC : Kd.C k34 w A l.length l) (hlen : l.length ≤ 4611686018427387904)
    (HE : ∀ (x : S34) (A : Option Addr) (c : Nat) (w' : World), x ∈ l → Below w.heap.size w w' → Kd.C k34 w' A x.f2.length x.f2 → x.f2.length ≤ c → Calls Try.prog 44 (#[.agg #[.int .i64 x.f0, .int .i64 x.f1, .slice A x.f2.length c]] ++ #[]) w' fun e w2 => e = .returned (.bool (p x)) ∧ Below w'.heap.size w' w2) :
    Calls Try.prog 57 #[.slice A l.length c, .func (.func 44) #[] #[]] w fun e w' => (∃ j : Int, e = .returned (.int .i64 j) ∧ decide (j ≥ 0) = l.any p) ∧ Below w.heap.size w w' := by
  obtain ⟨P, HP⟩ : ∃ P : Ending → World → Prop, Aside0 (P = fun e w' => (∃ j : Int, e = .returned (.int .i64 j) ∧ decide (j ≥ 0) = l.any p) ∧ Below w.heap.size w w') := ⟨_, ⟨rfl⟩⟩
  rw [← HP.out]
  have HB := Aside0.mk (Below.refl w.heap.size w)
  have HC := Aside0.mk hC
  have HEE := Aside0.mk HE
  clear hC HE
  go_enter Try.func57, Try.ntmps57
  go_wp2
  go_loopg [8] (l.length) (fun g v wx => ∃ (k : Nat), k + g = l.length ∧ v = .int .i64 k ∧ Aside0 ((l.take k).any p = false) ∧ Aside0 (Below w.heap.size w wx))
  case atStart => exact ⟨0, by omega, rfl, ⟨by simp⟩, HB⟩
  case round =>
    clear HB
    obtain ⟨k, hk, rfl, Hno, HB⟩ := hrel
    by_cases hlt : k < l.length
    · have ck : decide ((k : Int) < (l.length : Int)) = true := decide_eq_true (by omega)
      have ck2 : decide (k < l.length) = true := decide_eq_true hlt
      have hw : IntKind.i64.wrap ((k : Int) + 1) = ((k + 1 : Nat) : Int) := by rw [IntWalk.i64_in _ (by omega)]; rfl
      obtain ⟨x, HX⟩ : ∃ x, Aside0 (l[k] = x) := ⟨_, ⟨rfl⟩⟩
      have hrd : rd_T34 l (k : Int) = x := by have h := HX.out; rw [← h]; show l.getD k _ = _; rw [List.getD_eq_getElem?_getD, List.getElem?_eq_getElem hlt]; rfl
      obtain ⟨ad, A2, c2, he, hx0, hx1, hx2, hl2, hi2⟩ := at_T34 HC.out (k : Int) (by omega) (by omega)
      rw [hrd] at hx0 hx1 hx2 hl2 hi2
      cases he
      replace hx0 := (HB.out.cell (World.block_lt_of_cell? w _ hx0)).trans hx0
      replace hx1 := (HB.out.cell (World.block_lt_of_cell? w _ hx1)).trans hx1
      replace hx2 := (HB.out.cell (World.block_lt_of_cell? w _ hx2)).trans hx2
      have hx0' : wr.cell? (ad.add (k * 3)) = some (.int .i64 x.f0) := hx0
      have hx1' : wr.cell? ⟨(ad.add (k * 3)).block, (ad.add (k * 3)).off + 1, none⟩ = some (.int .i64 x.f1) := hx1
      have hx2' : wr.cell? ⟨(ad.add (k * 3)).block, (ad.add (k * 3)).off + 2, none⟩ = some (.slice A2 x.f2.length c2) := hx2
      clear hx0 hx1 hx2 hrd
      have p0 : (0 ≤ (k : Int)) = True := eq_true (by omega)
      have q0 : ((k : Int) < (l.length : Int)) = True := eq_true (by omega)
      have hmem : x ∈ l := by rw [← HX.out]; exact List.getElem_mem hlt
      have HL2 := Aside0.mk hl2
      have HI2 := Aside0.mk (Kd.C_below hi2 HB.out)
      clear hl2 hi2
      have HCALL := Aside0.mk (HEE.out x A2 c2 wr hmem HB.out HI2.out HL2.out)
      have hsn : (l.take (k + 1)).any p = p x := by
        rw [List.take_succ_eq_append_getElem hlt, List.any_append, Hno.out, HX.out]; simp
      have HSN := Aside0.mk hsn
      clear hsn
      rcases hpx : p x with _ | _
      · rw [hpx] at HCALL HSN
        go_wp2_with (first | (go_at_call 44; refine HCALL.out.mono ?_; rintro e w2 ⟨rfl, hb⟩; replace HB := Aside0.mk (below_step HB.out hb); clear hb))
        go_roundg (l.length - (k + 1))
        case measure => omega
        case rel => exact ⟨k + 1, by omega, rfl, HSN, HB⟩
      · rw [hpx] at HCALL HSN
        go_wp2_with (first | (go_at_call 44; refine HCALL.out.mono ?_; rintro e w2 ⟨rfl, hb⟩; replace HB := Aside0.mk (below_step HB.out hb); clear hb))
        rw [HP.out]
        refine ⟨⟨(k : Int), rfl, ?_⟩, HB.out⟩
        rw [decide_eq_true (show (k : Int) ≥ 0 by omega)]
        refine (List.any_eq_true.mpr ⟨x, hmem, hpx⟩).symm
    · have ck : decide ((k : Int) < (l.length : Int)) = false := decide_eq_false (by omega)
      have ck2 : decide (k < l.length) = false := decide_eq_false hlt
      go_wp2
      rw [HP.out]
      refine ⟨⟨-1, rfl, ?_⟩, HB.out⟩
      have h := Hno.out
      rw [List.take_of_length_le (by omega)] at h
      rw [h]; rfl
set_option maxHeartbeats 8000000 in
set_option maxRecDepth 100000 in
theorem mayM.has {p : S34 → Bool} {w : World} {A : Option Addr} {c : Nat} {l : List S34} (hC : Kd.C k34 w A l.length l) (hlen : l.length ≤ 4611686018427387904)
    (HE : ∀ (x : S34) (A : Option Addr) (c : Nat) (w' : World), x ∈ l → Below w.heap.size w w' → Kd.C k34 w' A x.f2.length x.f2 → x.f2.length ≤ c → Calls Try.prog 44 (#[.agg #[.int .i64 x.f0, .int .i64 x.f1, .slice A x.f2.length c]] ++ #[]) w' fun e w2 => e = .returned (.bool (p x)) ∧ Below w'.heap.size w' w2) :
    Calls Try.prog 43 #[.slice A l.length c, .func (.func 44) #[] #[]] w fun e w' => e = .returned (.bool (l.any p)) ∧ Below w.heap.size w w' := by
  have HI := Aside0.mk (@mayM.idx p w A c l hC hlen HE)
  clear hC HE
  go_enter Try.func43, Try.ntmps43
  go_wp2_with (first | (go_at_call 57; refine HI.out.mono ?_; rintro e w2 ⟨⟨j, rfl, hj⟩, hb⟩))
  go_ret
  exact ⟨rfl, hb⟩

set_option maxHeartbeats 8000000 in
set_option maxRecDepth 100000 in
theorem mayM.one {d : Nat} {x : S34} {A : Option Addr} {c : Nat} {w : World} (hC : Kd.C k34 w A x.f2.length x.f2) (hc : x.f2.length ≤ c) (hv : valR d x = true)
    (ih : ∀ (x : S34) (A : Option Addr) (c : Nat) (w : World) (hC : Kd.C k34 w A x.f2.length x.f2) (hc : x.f2.length ≤ c) (hv : valR d x = true),
      Calls Try.prog 27 #[.agg #[.int .i64 x.f0, .int .i64 x.f1, .slice A x.f2.length c]] w fun e w' => e = .returned (.bool (mayM d x)) ∧ Below w.heap.size w w') :
    Calls Try.prog 44 #[.agg #[.int .i64 x.f0, .int .i64 x.f1, .slice A x.f2.length c]] w fun e w' => e = .returned (.bool (!mayM d x)) ∧ Below w.heap.size w w' := by
  have hu := Try.underlying34
  have HE := Aside0.mk (ih x A c (w.alloc (.cells #[.int .i64 x.f0, .int .i64 x.f1, .slice A x.f2.length c] 34)) (Kd.C_alloc hC _) hc hv)
  clear hC hc ih
  go_enter Try.func44, Try.ntmps44
  go_wp2_with (first | (go_at_call 27; refine HE.out.mono ?_; rintro e w2 ⟨rfl, hb⟩))
  go_ret
  exact ⟨rfl, below_step ((Below.refl _ _).alloc (Nat.le_refl _) _) hb⟩
set_option maxHeartbeats 16000000 in
set_option maxRecDepth 100000 in
theorem mayM.calls (d : Nat) : ∀ (x : S34) (A : Option Addr) (c : Nat) (w : World) (hC : Kd.C k34 w A x.f2.length x.f2) (hc : x.f2.length ≤ c) (hv : valR d x = true),
    Calls Try.prog 27 #[.agg #[.int .i64 x.f0, .int .i64 x.f1, .slice A x.f2.length c]] w fun e w' => e = .returned (.bool (mayM d x)) ∧ Below w.heap.size w w' := by
  have hu := Try.underlying34
  induction d with
  | zero => intro x A c w hC hc hv; simp [valR] at hv
  | succ d ih =>
    intro x A c w hC hc hv
    have hB : Below w.heap.size w (w.alloc (.cells #[.int .i64 x.f0, .int .i64 x.f1, .slice A x.f2.length c] 34)) := (Below.refl _ _).alloc (Nat.le_refl _) _
    have hl := valR_len hv
    have HE := Aside0.mk (mayM.has (p := fun y => !mayM d y) (c := c) (Kd.C_alloc hC (.cells #[.int .i64 x.f0, .int .i64 x.f1, .slice A x.f2.length c] 34)) (by omega) (fun y A2 c2 w' hy hb hC2 hc2 => mayM.one hC2 hc2 (valR_kid hv y hy) ih))
    obtain ⟨n, hn⟩ : ∃ n : Nat, x.f2.length = n := ⟨_, rfl⟩
    obtain ⟨r, hr⟩ : ∃ r : Bool, (x.f2.any (fun y => !mayM d y)) = r := ⟨_, rfl⟩
    obtain ⟨q, hq⟩ : ∃ q : Bool, mayM (d + 1) x = q := ⟨_, rfl⟩
    obtain ⟨k, hk⟩ : ∃ k : Int, x.f0 = k := ⟨_, rfl⟩
    rw [hn] at hl
    rw [hn, hk] at HE hB
    rw [hr] at HE
    rw [hn, hq, hk]
    have HK := Aside0.mk hk
    have HQ := Aside0.mk hq
    have HN := Aside0.mk hn
    have HR := Aside0.mk hr
    have HB := Aside0.mk hB
    clear hq hn hr hC hc hv ih hB hk
    have z0 : decide ((n : Int) > 255) = false := decide_eq_false (by omega)
    obtain ⟨m, hm⟩ : ∃ m : Int, x.f1 = m := ⟨_, rfl⟩
    rw [hm] at HE HB
    rw [hm]
    have HM := Aside0.mk hm
    clear hm
    have hcase : k = 4 ∨ (k ≠ 4 ∧ k = 3 ∧ m ≥ 16384) ∨ (k ≠ 4 ∧ k = 3 ∧ ¬ m ≥ 16384) ∨ (k ≠ 4 ∧ k ≠ 3) := by omega
    rcases hcase with rfl | ⟨k4, rfl, km⟩ | ⟨k4, rfl, km⟩ | ⟨k4, k3⟩
    rotate_left
    have y1 : decide (m ≥ 16384) = true := decide_eq_true km
    rotate_left
    have y1 : decide (m ≥ 16384) = false := decide_eq_false km
    rotate_left
    have y1 : (k == 4) = false := beq_eq_false_iff_ne.mpr k4
    have y2 : (k == 3) = false := beq_eq_false_iff_ne.mpr k3
    all_goals
     obtain ⟨P, HP⟩ : ∃ P : Ending → World → Prop, Aside0 (P = fun e w' => e = .returned (.bool q) ∧ Below w.heap.size w w') := ⟨_, ⟨rfl⟩⟩
     rw [← HP.out]
     go_enter Try.func27, Try.ntmps27
     go_wp2_with (first | (go_at_call 43; refine HE.out.mono ?_; rintro e w2 ⟨rfl, hb⟩))
     all_goals (try go_ret)
     all_goals rw [HP.out]
     all_goals refine ⟨congrArg (fun b => Ending.returned (Value.bool b)) (?_ : _ = q), by first | exact below_step HB.out hb | exact HB.out⟩
     all_goals (have h1 := HQ.out; have h2 := HN.out; have h3 := HR.out; have h4 := HK.out; have h5 := HM.out; rw [← h1]; clear h1; simp only [mayM, h2, h3, h4, h5]; first | (simp_all; done) | (simp_all; intros; exfalso; omega))
