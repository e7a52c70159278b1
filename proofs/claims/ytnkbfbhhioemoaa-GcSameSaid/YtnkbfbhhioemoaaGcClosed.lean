/- gc: the law's Closed; what Collect says when nothing is wrong. -/
import Derived.Test.YtnkbfbhhioemoaaQx0
import Derived.Test.YtnkbfbhhioemoaaQx5
import Derived.Test.YtnkbfbhhioemoaaGcBlk
import Derived.Test.YtnkbfbhhioemoaaGcModel
import Derived.Test.YtnkbfbhhioemoaaGcRef
import Derived.Test.YtnkbfbhhioemoaaGcRefE
import Derived.Test.YtnkbfbhhioemoaaGcSim
import Derived.Test.YtnkbfbhhioemoaaGcSim2
import Derived.Test.YtnkbfbhhioemoaaHeapPlain
import Derived.Test.YtnkbfbhhioemoaaHgcCollE
import Derived.Test.YtnkbfbhhioemoaaHgcRoom
--@needs XGcSim2
namespace Go.Proofs.Ytnkbfbhhioemoaa.Q
open Go.RowKit Go.Proofs.YtnkbfbhhioemoaaW.PrintWords Go.Proofs.YtnkbfbhhioemoaaW.PrintLast Go.Proofs.YtnkbfbhhioemoaaW.PrintMore
attribute [local go_sem] max2_int min2_int max_two min_two max_three min_three max_four min_four   -- for this text's walks alone
set_option linter.unusedVariables false
set_option linter.unusedSimpArgs false

def gWithin (F T : Int) (ws : List Int) : Bool := ws.all (fun x => decide (x % 2 = 1) || (decide (4 * F ≤ x) && decide (x < 4 * T)))
theorem gCollect_ok {m roots : List Int} {F T t : Int} (h : (gCollect m F T t roots).2.2.2 = 0) : ¬ (F < 0 ∨ T < F ∨ (m.length : Int) < T) ∧ ¬ (t < 0 ∨ (m.length : Int) < t) ∧ gRoomOk m.length F T t = true ∧ ∃ l, gReach m F T (gBlk m T) roots = some l ∧ ¬ gRoom m.length F T t < gWords (gBlk m T) l ∧ gCollect m F T t roots = (gNew m F T t l, roots.map (gChg m F T t l), gEnd m T t l, 0) := by
  unfold gCollect at h ⊢
  by_cases h1 : F < 0 ∨ T < F ∨ (m.length : Int) < T
  · rw [if_pos h1] at h; cases h
  rw [if_neg h1] at h ⊢
  by_cases h2 : t < 0 ∨ (m.length : Int) < t
  · rw [if_pos h2] at h; cases h
  rw [if_neg h2] at h ⊢
  by_cases h3 : gRoomOk m.length F T t = false
  · rw [if_pos h3] at h; cases h
  rw [if_neg h3] at h ⊢
  cases hg : gReach m F T (gBlk m T) roots with
  | none => rw [hg] at h; cases h
  | some l =>
    rw [hg] at h
    dsimp only at h ⊢
    by_cases h4 : gRoom m.length F T t < gWords (gBlk m T) l
    · rw [if_pos h4] at h; cases h
    · rw [if_neg h4]
      exact ⟨h1, h2, by simpa using h3, l, rfl, h4, rfl⟩
section
variable {F T : Int} (hF : 0 ≤ F) (hFT : F ≤ T) (hT : T ≤ 1000000)
include hF hFT hT
theorem ref_within {ws : List Int} (hl : ws.length ≤ 1000000) (hv : ∀ x ∈ ws, 0 ≤ x ∧ x < 4294967296) : Ev (fun k => camletlaw42_within.f k ws F T) (gWithin F T ws) := by
  have : ∀ (d i : Nat), i + d = ws.length → Ev (fun k => camletlaw42_within.l0 k ws F T (i : Int)) (gWithin F T (ws.drop i)) := by
    intro d
    induction d with
    | zero =>
      intro i hi
      rw [List.drop_eq_nil_of_le (by omega)]
      exact Ev.some 1 (fun k => by rw [camletlaw42_within.l0, if_neg (by omega)]; rfl)
    | succ d ih =>
      intro i hi
      have hil : i < ws.length := by omega
      have hxm : rd ws i ∈ ws := by
        have h := rd_cons_drop hil
        exact List.mem_of_mem_drop (h ▸ List.mem_cons_self)
      have hx := hv _ hxm
      have ih2 := ih (i + 1) (by omega)
      rw [rd_cons_drop hil]
      have hb : gWithin F T (rd ws i :: ws.drop (i + 1)) = ((decide (rd ws i % 2 = 1) || (decide (4 * F ≤ rd ws i) && decide (rd ws i < 4 * T))) && gWithin F T (ws.drop (i + 1))) := rfl
      refine Ev.step (fun k => by rw [camletlaw42_within.l0, if_pos (show (i : Int) < (ws.length : Int) by omega), if_pos (show (0 : Int) ≤ (i : Int) by omega)]) ?_
      rw [Int.tmod_eq_emod_of_nonneg hx.1, wr64 (n := rd ws i) (by omega), wr64 (n := 4 * F) (by omega), wr64 (n := 4 * T) (by omega), wr64 (n := (i : Int) + 1) (by omega)]
      refine Ev.ite (fun h1 => Ev.ite (fun h2 => ?_) (fun h2 => Ev.ite (fun h3 => ?_) (fun h3 => ?_))) (fun h1 => ?_)
      · rw [hb, decide_eq_false (show ¬ rd ws i % 2 = 1 by omega), decide_eq_false (show ¬ 4 * F ≤ rd ws i by omega)]
        exact Ev.now _
      · rw [hb, decide_eq_false (show ¬ rd ws i % 2 = 1 by omega), decide_eq_false (show ¬ rd ws i < 4 * T by omega), Bool.and_false]
        exact Ev.now _
      · rw [hb, decide_eq_true (show 4 * F ≤ rd ws i by omega), decide_eq_true (show rd ws i < 4 * T by omega), Bool.and_true, Bool.or_true, Bool.true_and]
        exact ih2
      · rw [hb, decide_eq_true (show rd ws i % 2 = 1 by omega), Bool.true_or, Bool.true_and]
        exact ih2
  have h0 := this ws.length 0 (by omega)
  simpa [camletlaw42_within.f] using h0
end
theorem gWithin_mem {F T : Int} {ws : List Int} (h : gWithin F T ws = true) : ∀ x ∈ ws, x % 2 = 1 ∨ (4 * F ≤ x ∧ x < 4 * T) := by
  intro x hx
  have := List.all_eq_true.1 h x hx
  simp only [Bool.or_eq_true, Bool.and_eq_true, decide_eq_true_eq] at this
  exact this
def gClosed (m : List Int) (F T : Int) (roots l : List Int) : Bool := gWithin F T roots && l.all (fun b => gWithin F T (gKids m (gBlk m T) b))
theorem ref_Closed {m : List Int} {F T : Int} {roots l : List Int} (hv : ∀ x ∈ m, 0 ≤ x ∧ x < 4294967296) (hlen : m.length ≤ 1000000) (hF : 0 ≤ F) (hFT : F ≤ T) (hT : T ≤ m.length) (hrl : roots.length ≤ 1000000) (hrv : ∀ x ∈ roots, 0 ≤ x ∧ x < 4294967296) (hg : gReach m F T (gBlk m T) roots = some l) :
    Ev (fun k => camletlaw42_Closed.f k m F T roots) (gClosed m F T roots l) := by
  have hi := gReach_inv (gBlk_ok m F T) hFT hF hT hg
  have hll := hi.len hFT
  have hR := ref_Reach hv hlen (F := F) (T := T) hrl hrv
  rw [if_neg (by omega), hg] at hR
  unfold camletlaw42_Closed.f gClosed
  refine Ev.bind hR (Ev.pos rfl ?_)
  refine Ev.bind (ref_within hF hFT (by omega) hrl hrv) ?_
  cases hw : gWithin F T roots with
  | false => exact Ev.some 1 (fun k => by rw [camletlaw42_Closed.j0, if_pos (show (!false) = true from rfl)]; rfl)
  | true =>
    refine Ev.step (fun k => by rw [camletlaw42_Closed.j0, if_neg (show ¬ (!true) = true by decide)]) ?_
    have hRd := ref_Reached hv hlen hF hFT hT hrl hrv
    rw [hg] at hRd
    refine Ev.bind hRd ?_
    rw [Bool.true_and]
    have : ∀ (d i : Nat), i + d = l.length → Ev (fun k => camletlaw42_Closed.l0 k m F T l (i : Int)) ((l.drop i).all (fun b => gWithin F T (gKids m (gBlk m T) b))) := by
      intro d
      induction d with
      | zero =>
        intro i hd
        rw [List.drop_eq_nil_of_le (by omega)]
        exact Ev.some 1 (fun k => by rw [camletlaw42_Closed.l0, if_neg (by omega)]; rfl)
      | succ d ih =>
        intro i hd
        have hil : i < l.length := by omega
        have hrm : rd l i ∈ l := by
          have h := rd_cons_drop hil
          exact List.mem_of_mem_drop (h ▸ List.mem_cons_self)
        have hm := hi.mem _ hrm
        have ih2 := ih (i + 1) (by omega)
        rw [rd_cons_drop hil, List.all_cons]
        refine Ev.step (fun k => by rw [camletlaw42_Closed.l0, if_pos (show (i : Int) < (l.length : Int) by omega), if_pos (show (0 : Int) ≤ (i : Int) by omega)]) ?_
        refine Ev.bind (ref_Block hv hlen hF hFT hT (by omega) (by omega)) ?_
        rw [wr64 (n := rd l i + 1) (by omega), wr64 (n := rd l i + gBlk m T (rd l i)) (by omega), wr64 (n := (i : Int) + 1) (by omega)]
        refine Ev.pos (by omega) (Ev.pos (by omega) (Ev.pos (by omega) ?_))
        refine Ev.bind (ref_within hF hFT (by omega) (ws := gKids m (gBlk m T) (rd l i)) (by unfold gKids; simp; omega) (fun x hx => hv x (List.mem_of_mem_take (List.mem_of_mem_drop hx)))) ?_
        cases hk : gWithin F T (gKids m (gBlk m T) (rd l i)) with
        | false => exact Ev.neg (by decide) (Ev.now _)
        | true => exact Ev.pos rfl (by rw [Bool.true_and]; exact ih2)
    have h0 := this l.length 0 (by omega)
    simpa [gTold] using h0
theorem gClosed_cop {m : List Int} {F T t : Int} {roots l : List Int} (hv : ∀ x ∈ m, 0 ≤ x ∧ x < 4294967296) (hlen : m.length ≤ 1000000) (hb : ¬ (F < 0 ∨ T < F ∨ (m.length : Int) < T)) (ht : ¬ (t < 0 ∨ (m.length : Int) < t)) (hg : gReach m F T (gBlk m T) roots = some l) (hw : ¬ gRoom m.length F T t < gWords (gBlk m T) l) (hc : gClosed m F T roots l = true) :
    GCop m F T t l ∧ ∀ x ∈ roots, x % 2 = 1 ∨ (gLeads F T x = true ∧ x / 4 ∈ l) := by
  have hi := gReach_inv (gBlk_ok m F T) (by omega) (by omega) (by omega) hg
  have hcl := gReach_closed (gBlk_ok m F T) (by omega) (by omega) (by omega) hg
  have hrb : gRoom m.length F T t ≤ m.length - t := by unfold gRoom; split <;> omega
  unfold gClosed at hc
  rw [Bool.and_eq_true] at hc
  have key : ∀ x : Int, (x % 2 = 1 ∨ (4 * F ≤ x ∧ x < 4 * T)) → (gLeads F T x = true → x / 4 ∈ l) → x % 2 = 1 ∨ (gLeads F T x = true ∧ x / 4 ∈ l) := by
    intro x h1 h2
    by_cases ho : x % 2 = 1
    · exact .inl ho
    · have hl : gLeads F T x = true := by
        unfold gLeads
        simp only [Bool.and_eq_true, decide_eq_true_eq]
        omega
      exact .inr ⟨hl, h2 hl⟩
  refine ⟨⟨hv, hlen, by omega, by omega, by omega, by omega, by omega, hi, ?_⟩, ?_⟩
  · intro b hbl x hx
    exact key x (gWithin_mem (List.all_eq_true.1 hc.2 b hbl) x hx) (hcl.2 b hbl x hx)
  · intro x hx
    exact key x (gWithin_mem hc.1 x hx) (hcl.1 x hx)
end Go.Proofs.Ytnkbfbhhioemoaa.Q
