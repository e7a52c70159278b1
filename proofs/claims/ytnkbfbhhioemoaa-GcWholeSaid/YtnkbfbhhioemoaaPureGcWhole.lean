/- What was copied stands block behind block, and as many words are reached anew (at most 300 words, 60 roots). -/
import Derived.Test.YtnkbfbhhioemoaaGcRight
import Derived.Test.YtnkbfbhhioemoaaStGcWhole
namespace Go.Proofs.Ytnkbfbhhioemoaa.Q
open Go.RowKit Go.Proofs.YtnkbfbhhioemoaaW.PrintWords Go.Proofs.YtnkbfbhhioemoaaW.PrintLast Go.Proofs.YtnkbfbhhioemoaaW.PrintMore
set_option linter.unusedVariables false
set_option linter.unusedSimpArgs false

theorem gc_Reach_val {m roots : List Int} {F T : Int} {l : List Int} (hm : w32 m) (hr : w32 roots) (hb : ¬ (F < 0 ∨ T < F ∨ (m.length : Int) < T)) (hg : gReach m F T (gBlk m T) roots = some l) : gc_Reach.f m F T roots = some (gWords (gBlk m T) l, 0) := by
  unfold gc_Reach.f
  rw [if_pos ⟨hm, hr⟩, if_neg hb, hg]
theorem GcWhole.proved : GcWhole.Pure := by
  intro m k roots ⟨H, y0, y1, y2, h0, h1, h2⟩
  refine Ev.rounds ?_
  have hv := u32_val h0
  have hrv := u32_val h2
  have hkn : Ev (fun k => (camletlaw42_knows.f k).bind fun t => some t) true := Ev.bind gc_knows_ev (Ev.now _)
  unfold camletlaw42_GcWhole.f
  by_cases hf : (m.length : Int) ≤ 300 ∧ (roots.length : Int) ≤ 60
  case neg => exact Ev.val (gc_few_false hf) (Ev.neg (by decide) hkn)
  refine Ev.val (gc_few_true hf) (Ev.pos rfl ?_)
  have hm32 : w32 m := ⟨by omega, hv⟩
  have hr32 : w32 roots := ⟨by omega, hrv⟩
  have hc : gc_Collect.f m k.f0 k.f1 k.f2 roots = some (gCollect m k.f0 k.f1 k.f2 roots) := by
    unfold gc_Collect.f
    rw [if_pos ⟨hm32, hr32⟩]
  refine Ev.val hc ?_
  have hj : ∀ a b c, Ev (fun n => camletlaw42_GcWhole.j0 n m roots a b c true k.f0 k.f1 k.f2) true := fun a b c => Ev.step (fun n => by rw [camletlaw42_GcWhole.j0, if_pos rfl]) hkn
  by_cases he : (gCollect m k.f0 k.f1 k.f2 roots).2.2.2 = 0
  case neg => exact Ev.neg he (hj _ _ _)
  refine Ev.pos he ?_
  obtain ⟨hb, ht, hro, l, hg, hw, hcol⟩ := gCollect_ok he
  refine Ev.bind (ref_Closed hv (by omega) (by omega) (by omega) (by omega) (by omega) hrv hg) ?_
  cases hcl : gClosed m k.f0 k.f1 roots l with
  | false => exact hj _ _ _
  | true =>
    obtain ⟨HC, hrr⟩ := gClosed_cop hv (by omega) hb ht hg hw hcl
    have hsame := gReach_same HC hg hrr
    have hws := gWords_same HC
    have hnl := HC.new_len
    have ht0 := HC.t0
    have ht1 := HC.t1
    have hw0 := gWords_nonneg HC.inv.nonneg
    have hn32 : w32 (gNew m k.f0 k.f1 k.f2 l) := ⟨by rw [hnl]; omega, HC.new_vals⟩
    have hrn32 : w32 (roots.map (gChg m k.f0 k.f1 k.f2 l)) := ⟨by rw [List.length_map]; omega, fun x hx => by
      obtain ⟨y, hy, rfl⟩ := List.mem_map.1 hx
      exact HC.chg_val (hrv y hy) (hrr y hy)⟩
    have hR1 := gc_Reach_val hm32 hr32 hb hg
    have hend : gEnd m k.f1 k.f2 l = k.f2 + gWords (gBlk m k.f1) l := rfl
    have hR2 := gc_Reach_val hn32 hrn32 (F := k.f2) (T := gEnd m k.f1 k.f2 l) (by rw [hnl]; omega) hsame
    rw [hws] at hR2
    rw [hcol]
    dsimp only
    refine Ev.step (fun n => by rw [camletlaw42_GcWhole.j0, if_neg (by decide), hR1]) ?_
    refine Ev.neg (by omega) (Ev.neg (by omega) (Ev.pos rfl ?_))
    have hne : (gWords (gBlk m k.f1) l != wrap64 (gEnd m k.f1 k.f2 l - k.f2)) = false := by
      rw [wr64 (by omega), hend]
      exact bne_eq_false_iff_eq.mpr (by omega)
    refine Ev.step (fun n => by rw [hne, camletlaw42_GcWhole.j1, if_neg (by decide), hR2]) ?_
    refine Ev.pos rfl ?_
    exact Ev.bind HC.ref_Right (Ev.pos rfl hkn)
end Go.Proofs.Ytnkbfbhhioemoaa.Q
