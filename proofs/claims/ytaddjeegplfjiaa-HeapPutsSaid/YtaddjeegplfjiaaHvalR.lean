/- value.right: its closure by slices.ContainsFunc. By wip/gen/val_right.py. -/
import Derived.Test.YtaddjeegplfjiaaQx0
import Derived.LoopTactic
import Derived.Deep.LoopGhost
import Derived.Lib.Hide
import Derived.IntWalk
import Derived.Outline
namespace Go.Proofs.Ytaddjeegplfjiaa.Q
open Go.RowKit Go.Proofs.YtaddjeegplfjiaaW.PrintWords Go.Proofs.YtaddjeegplfjiaaW.PrintLast Go.Proofs.YtaddjeegplfjiaaW.PrintMore
attribute [local go_sem] max2_int min2_int max_two min_two max_three min_three max_four min_four   -- for this text's walks alone
set_option linter.unusedVariables false
set_option linter.unusedSimpArgs false


set_option maxHeartbeats 8000000 in
set_option maxRecDepth 100000 in
theorem valR.idx {ca : Addr} {p : S34 → Bool} {w : World} {A : Option Addr} {c : Nat} {l : List S34} (hC : Kd.C k34 w A l.length l) (hlen : l.length ≤ 4611686018427387904)
    (HE : ∀ (x : S34) (A : Option Addr) (c : Nat) (w' : World), x ∈ l → Below w.heap.size w w' → Kd.C k34 w' A x.f2.length x.f2 → x.f2.length ≤ c → Calls Try.prog 56 (#[.agg #[.int .i64 x.f0, .int .i64 x.f1, .slice A x.f2.length c]] ++ #[.pointer (some ca)]) w' fun e w2 => e = .returned (.bool (p x)) ∧ Below w'.heap.size w' w2) :
    Calls Try.prog 57 #[.slice A l.length c, .func (.func 56) #[] #[.pointer (some ca)]] w fun e w' => (∃ j : Int, e = .returned (.int .i64 j) ∧ decide (j ≥ 0) = l.any p) ∧ Below w.heap.size w w' := by
  obtain ⟨P, HP⟩ : ∃ P : Ending → World → Prop, Aside0 (P = fun e w' => (∃ j : Int, e = .returned (.int .i64 j) ∧ decide (j ≥ 0) = l.any p) ∧ Below w.heap.size w w') := ⟨_, ⟨rfl⟩⟩
  rw [← HP.out]
  have HB := Aside0.mk (Below.refl w.heap.size w)
  have HC := Aside0.mk hC
  have HEE := Aside0.mk HE
  clear hC HE
  go_enter Try.func57, Try.ntmps57
  go_wp2
  go_loopg [8] (l.length) (fun g v wx => ∃ (k : Nat), k + g = l.length ∧ v = .int .i64 k ∧ Aside0 ((l.take k).any p = false) ∧ Aside0 (Below w.heap.size w wx))
  case atStart => exact ⟨0, by omega, rfl, ⟨by simp⟩, HB⟩
  case round =>
    clear HB
    obtain ⟨k, hk, rfl, Hno, HB⟩ := hrel
    by_cases hlt : k < l.length
    · have ck : decide ((k : Int) < (l.length : Int)) = true := decide_eq_true (by omega)
      have ck2 : decide (k < l.length) = true := decide_eq_true hlt
      have hw : IntKind.i64.wrap ((k : Int) + 1) = ((k + 1 : Nat) : Int) := by rw [IntWalk.i64_in _ (by omega)]; rfl
      obtain ⟨x, HX⟩ : ∃ x, Aside0 (l[k] = x) := ⟨_, ⟨rfl⟩⟩
      have hrd : rd_T34 l (k : Int) = x := by have h := HX.out; rw [← h]; show l.getD k _ = _; rw [List.getD_eq_getElem?_getD, List.getElem?_eq_getElem hlt]; rfl
      obtain ⟨ad, A2, c2, he, hx0, hx1, hx2, hl2, hi2⟩ := at_T34 HC.out (k : Int) (by omega) (by omega)
      rw [hrd] at hx0 hx1 hx2 hl2 hi2
      cases he
      replace hx0 := (HB.out.cell (World.block_lt_of_cell? w _ hx0)).trans hx0
      replace hx1 := (HB.out.cell (World.block_lt_of_cell? w _ hx1)).trans hx1
      replace hx2 := (HB.out.cell (World.block_lt_of_cell? w _ hx2)).trans hx2
      have hx0' : wr.cell? (ad.add (k * 3)) = some (.int .i64 x.f0) := hx0
      have hx1' : wr.cell? ⟨(ad.add (k * 3)).block, (ad.add (k * 3)).off + 1, none⟩ = some (.int .i64 x.f1) := hx1
      have hx2' : wr.cell? ⟨(ad.add (k * 3)).block, (ad.add (k * 3)).off + 2, none⟩ = some (.slice A2 x.f2.length c2) := hx2
      clear hx0 hx1 hx2 hrd
      have p0 : (0 ≤ (k : Int)) = True := eq_true (by omega)
      have q0 : ((k : Int) < (l.length : Int)) = True := eq_true (by omega)
      have hmem : x ∈ l := by rw [← HX.out]; exact List.getElem_mem hlt
      have HL2 := Aside0.mk hl2
      have HI2 := Aside0.mk (Kd.C_below hi2 HB.out)
      clear hl2 hi2
      have HCALL := Aside0.mk (HEE.out x A2 c2 wr hmem HB.out HI2.out HL2.out)
      have hsn : (l.take (k + 1)).any p = p x := by
        rw [List.take_succ_eq_append_getElem hlt, List.any_append, Hno.out, HX.out]; simp
      have HSN := Aside0.mk hsn
      clear hsn
      rcases hpx : p x with _ | _
      · rw [hpx] at HCALL HSN
        go_wp2_with (first | (go_at_call 56; refine HCALL.out.mono ?_; rintro e w2 ⟨rfl, hb⟩; replace HB := Aside0.mk (below_step HB.out hb); clear hb))
        go_roundg (l.length - (k + 1))
        case measure => omega
        case rel => exact ⟨k + 1, by omega, rfl, HSN, HB⟩
      · rw [hpx] at HCALL HSN
        go_wp2_with (first | (go_at_call 56; refine HCALL.out.mono ?_; rintro e w2 ⟨rfl, hb⟩; replace HB := Aside0.mk (below_step HB.out hb); clear hb))
        rw [HP.out]
        refine ⟨⟨(k : Int), rfl, ?_⟩, HB.out⟩
        rw [decide_eq_true (show (k : Int) ≥ 0 by omega)]
        refine (List.any_eq_true.mpr ⟨x, hmem, hpx⟩).symm
    · have ck : decide ((k : Int) < (l.length : Int)) = false := decide_eq_false (by omega)
      have ck2 : decide (k < l.length) = false := decide_eq_false hlt
      go_wp2
      rw [HP.out]
      refine ⟨⟨-1, rfl, ?_⟩, HB.out⟩
      have h := Hno.out
      rw [List.take_of_length_le (by omega)] at h
      rw [h]; rfl
set_option maxHeartbeats 8000000 in
set_option maxRecDepth 100000 in
theorem valR.has {ca : Addr} {p : S34 → Bool} {w : World} {A : Option Addr} {c : Nat} {l : List S34} (hC : Kd.C k34 w A l.length l) (hlen : l.length ≤ 4611686018427387904)
    (HE : ∀ (x : S34) (A : Option Addr) (c : Nat) (w' : World), x ∈ l → Below w.heap.size w w' → Kd.C k34 w' A x.f2.length x.f2 → x.f2.length ≤ c → Calls Try.prog 56 (#[.agg #[.int .i64 x.f0, .int .i64 x.f1, .slice A x.f2.length c]] ++ #[.pointer (some ca)]) w' fun e w2 => e = .returned (.bool (p x)) ∧ Below w'.heap.size w' w2) :
    Calls Try.prog 43 #[.slice A l.length c, .func (.func 56) #[] #[.pointer (some ca)]] w fun e w' => e = .returned (.bool (l.any p)) ∧ Below w.heap.size w w' := by
  have HI := Aside0.mk (@valR.idx ca p w A c l hC hlen HE)
  clear hC HE
  go_enter Try.func43, Try.ntmps43
  go_wp2_with (first | (go_at_call 57; refine HI.out.mono ?_; rintro e w2 ⟨⟨j, rfl, hj⟩, hb⟩))
  go_ret
  exact ⟨rfl, hb⟩

/-- what value.right computes, so deep at most -/
def valShape (k N n : Int) : Bool :=
  if k = 1 then decide (N ≥ -1073741824) && decide (N ≤ 1073741823) && decide (n = 0)
  else if k = 2 then decide (N ≥ 0) && decide (N ≤ 1023) && decide (n ≥ 1) && decide (n ≤ 8)
  else if k = 3 then decide (N ≥ 0) && decide (n ≤ 255)
  else if k = 4 then decide (N ≥ 0) && decide (n = 0) else false
def valR : Nat → S34 → Bool
  | 0, _ => false
  | d + 1, x => valShape x.f0 x.f1 x.f2.length && x.f2.any (fun y => !valR d y) == false
set_option maxHeartbeats 8000000 in
set_option maxRecDepth 100000 in
theorem valR.one {d : Nat} (hd : d + 1 ≤ 1000) {ca : Addr} {x : S34} {A : Option Addr} {c : Nat} {w : World} (hcell : w.cell? ca = some (.int .i64 ((d + 1 : Nat) : Int))) (hC : Kd.C k34 w A x.f2.length x.f2) (hc : x.f2.length ≤ c)
    (ih : ∀ (x : S34) (A : Option Addr) (c : Nat) (w : World) (hd : d ≤ 1000) (hC : Kd.C k34 w A x.f2.length x.f2) (hc : x.f2.length ≤ c),
      Calls Try.prog 42 #[.agg #[.int .i64 x.f0, .int .i64 x.f1, .slice A x.f2.length c], .int .i64 d] w fun e w' => e = .returned (.bool (valR d x)) ∧ Below w.heap.size w w') :
    Calls Try.prog 56 #[.agg #[.int .i64 x.f0, .int .i64 x.f1, .slice A x.f2.length c], .pointer (some ca)] w fun e w' => e = .returned (.bool (!valR d x)) ∧ Below w.heap.size w w' := by
  have hu := Try.underlying34
  have hcell2 : (w.alloc (.cells #[.int .i64 x.f0, .int .i64 x.f1, .slice A x.f2.length c] 34)).cell? ca = some (.int .i64 ((d + 1 : Nat) : Int)) := (World.cell?_alloc_lt w _ ca (World.block_lt_of_cell? _ _ hcell)).trans hcell
  have HC := Aside0.mk (Kd.C_alloc hC (.cells #[.int .i64 x.f0, .int .i64 x.f1, .slice A x.f2.length c] 34))
  have HL := Aside0.mk hc
  have IH := Aside0.mk ih
  have hw : IntKind.i64.wrap (((d + 1 : Nat) : Int) - 1) = (d : Int) := by rw [IntWalk.i64_in _ (by omega)]; omega
  clear hC hc ih
  go_enter Try.func56, Try.ntmps56
  go_wp2_with (first | (go_at_call 42; refine (IH.out x A c _ (by omega) HC.out HL.out).mono ?_; rintro e w2 ⟨rfl, hb⟩))
  go_ret
  exact ⟨rfl, below_step ((Below.refl _ _).alloc (Nat.le_refl _) _) hb⟩
set_option maxRecDepth 100000 in
theorem valR.all {d : Nat} (hd : d + 1 ≤ 1000) {x : S34} {A : Option Addr} {c : Nat} {w : World} (hC : Kd.C k34 w A x.f2.length x.f2) (hc : x.f2.length ≤ c)
    (ih : ∀ (x : S34) (A : Option Addr) (c : Nat) (w : World) (hd : d ≤ 1000) (hC : Kd.C k34 w A x.f2.length x.f2) (hc : x.f2.length ≤ c),
      Calls Try.prog 42 #[.agg #[.int .i64 x.f0, .int .i64 x.f1, .slice A x.f2.length c], .int .i64 d] w fun e w' => e = .returned (.bool (valR d x)) ∧ Below w.heap.size w w')
    (hn : x.f2.length ≤ 255) :
    Calls Try.prog 43 #[.slice A x.f2.length c, .func (.func 56) #[] #[.pointer (some ⟨w.heap.size + 1, 0, none⟩)]] ((w.alloc (.cells #[.int .i64 x.f0, .int .i64 x.f1, .slice A x.f2.length c] 34)).alloc (.cells #[.int .i64 ((d + 1 : Nat) : Int)] 3)) fun e w' => e = .returned (.bool (x.f2.any (fun y => !valR d y))) ∧ Below w.heap.size w w' := by
  obtain ⟨W, HW⟩ : ∃ W, W = (w.alloc (.cells #[.int .i64 x.f0, .int .i64 x.f1, .slice A x.f2.length c] 34)).alloc (.cells #[.int .i64 ((d + 1 : Nat) : Int)] 3) := ⟨_, rfl⟩
  have hcell : W.cell? ⟨w.heap.size + 1, 0, none⟩ = some (.int .i64 ((d + 1 : Nat) : Int)) := by rw [HW]; simp [go_sem]
  have hB : Below w.heap.size w W := by rw [HW]; exact ((Below.refl _ _).alloc (Nat.le_refl _) _).alloc (by simp) _
  have hCW : Kd.C k34 W A x.f2.length x.f2 := by rw [HW]; exact Kd.C_alloc (Kd.C_alloc hC _) _
  rw [← HW]
  refine (valR.has (p := fun y => !valR d y) hCW (by omega) (fun y A2 c2 w' hy hb hC2 hc2 => valR.one hd ((hb.cell (World.block_lt_of_cell? _ _ hcell)).trans hcell) hC2 hc2 ih)).mono ?_
  rintro e w' ⟨rfl, hb⟩
  exact ⟨rfl, below_step hB hb⟩
set_option maxHeartbeats 16000000 in
set_option maxRecDepth 100000 in
theorem valR.calls (d : Nat) : ∀ (x : S34) (A : Option Addr) (c : Nat) (w : World) (hd : d ≤ 1000) (hC : Kd.C k34 w A x.f2.length x.f2) (hc : x.f2.length ≤ c),
    Calls Try.prog 42 #[.agg #[.int .i64 x.f0, .int .i64 x.f1, .slice A x.f2.length c], .int .i64 d] w fun e w' => e = .returned (.bool (valR d x)) ∧ Below w.heap.size w w' := by
  have hmf : ∀ (fn : Fn) (first cap : Array Value) (w : World), (Instr.makeFunc fn first cap).run Try.prog w = .ok (.func fn first cap) w := fun _ _ _ _ => rfl
  have hu := Try.underlying34
  induction d with
  | zero =>
    intro x A c w hd hC hc
    go_enter Try.func42, Try.ntmps42
    go_wp2
    all_goals (go_ret; exact ⟨rfl, ((Below.refl _ _).alloc (Nat.le_refl _) _).alloc (by simp) _⟩)
  | succ d ih =>
    intro x A c w hd hC hc
    have IH := Aside0.mk ih
    have HC := Aside0.mk hC
    have HL := Aside0.mk hc
    clear ih hC hc
    have HE := Aside0.mk (valR.all hd HC.out HL.out IH.out)
    obtain ⟨D, hD⟩ : ∃ D : Int, ((d + 1 : Nat) : Int) = D := ⟨_, rfl⟩
    have hd1 : decide (D ≥ 1) = true := decide_eq_true (by omega)
    obtain ⟨n, hn⟩ : ∃ n : Nat, x.f2.length = n := ⟨_, rfl⟩
    obtain ⟨r, hr⟩ : ∃ r : Bool, (x.f2.any (fun y => !valR d y)) = r := ⟨_, rfl⟩
    obtain ⟨q, hq⟩ : ∃ q : Bool, valR (d + 1) x = q := ⟨_, rfl⟩
    rw [hD, hn, hr] at HE
    rw [hD, hn, hq]
    have HQ := Aside0.mk hq
    have HN := Aside0.mk hn
    have HR := Aside0.mk hr
    clear hq hn hr HC HL IH hD
    rcases Nat.eq_zero_or_pos n with rfl | hpos
    rotate_left
    have z1 : ((n : Int) == 0) = false := beq_eq_false_iff_ne.mpr (by omega)
    have z2 : ((n : Int) = 0) = False := eq_false (by omega)
    have z3 : (n = 0) = False := eq_false (by omega)
    all_goals
     obtain ⟨P, HP⟩ : ∃ P : Ending → World → Prop, Aside0 (P = fun e w' => e = .returned (.bool q) ∧ Below w.heap.size w w') := ⟨_, ⟨rfl⟩⟩
     rw [← HP.out]
     go_enter Try.func42, Try.ntmps42
     go_wp2_with (first | (go_at_call 43; refine (HE.out (by omega)).mono ?_; rintro e w2 ⟨rfl, hb⟩))
     all_goals (try go_ret)
     all_goals rw [HP.out]
     all_goals refine ⟨congrArg (fun b => Ending.returned (Value.bool b)) (?_ : _ = q), by first | exact hb | exact ((Below.refl _ _).alloc (Nat.le_refl _) _).alloc (by simp) _⟩
     all_goals (have h1 := HQ.out; have h2 := HN.out; have h3 := HR.out; rw [← h1]; clear h1; simp only [valR, valShape, h2, h3]; first | (simp_all; done) | (simp_all; intros; exfalso; omega))
