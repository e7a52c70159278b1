/- Collected back, as many words come, block by block in the same order, and the roots stand where they stood (at most 300 words, 60 roots). -/
import Derived.Test.YtnkbfbhhioemoaaGcBack
import Derived.Test.YtnkbfbhhioemoaaStGcBack
namespace Go.Proofs.Ytnkbfbhhioemoaa.Q
open Go.RowKit Go.Proofs.YtnkbfbhhioemoaaW.PrintWords Go.Proofs.YtnkbfbhhioemoaaW.PrintLast Go.Proofs.YtnkbfbhhioemoaaW.PrintMore
set_option linter.unusedVariables false
set_option linter.unusedSimpArgs false

theorem gCollect_is {m roots : List Int} {F T t : Int} {l : List Int} (h1 : ¬ (F < 0 ∨ T < F ∨ (m.length : Int) < T)) (h2 : ¬ (t < 0 ∨ (m.length : Int) < t)) (h3 : gRoomOk m.length F T t = true) (hg : gReach m F T (gBlk m T) roots = some l) (h4 : ¬ gRoom m.length F T t < gWords (gBlk m T) l) :
    gCollect m F T t roots = (gNew m F T t l, roots.map (gChg m F T t l), gEnd m T t l, 0) := by
  unfold gCollect
  rw [if_neg h1, if_neg h2, if_neg (by rw [h3]; decide), hg]
  dsimp only
  rw [if_neg h4]
set_option maxHeartbeats 1000000 in
theorem GcBack.proved : GcBack.Pure := by
  intro m k roots ⟨H, y0, y1, y2, h0, h1, h2⟩
  refine Ev.rounds ?_
  have hv := u32_val h0
  have hrv := u32_val h2
  have hkn : Ev (fun k => (camletlaw42_knows.f k).bind fun t => some t) true := Ev.bind gc_knows_ev (Ev.now _)
  obtain ⟨F, T, t⟩ := k
  dsimp only
  unfold camletlaw42_GcBack.f
  by_cases hf : (m.length : Int) ≤ 300 ∧ (roots.length : Int) ≤ 60
  case neg => exact Ev.val (gc_few_false hf) (Ev.neg (by decide) hkn)
  refine Ev.val (gc_few_true hf) (Ev.pos rfl ?_)
  have hm32 : w32 m := ⟨by omega, hv⟩
  have hr32 : w32 roots := ⟨by omega, hrv⟩
  have hc : gc_Collect.f m F T t roots = some (gCollect m F T t roots) := by
    unfold gc_Collect.f
    rw [if_pos ⟨hm32, hr32⟩]
  refine Ev.val hc ?_
  have hj : ∀ a b c, Ev (fun n => camletlaw42_GcBack.j0 n a b c true F T t) true := fun a b c => Ev.step (fun n => by rw [camletlaw42_GcBack.j0, if_pos rfl]) hkn
  by_cases he : (gCollect m F T t roots).2.2.2 = 0
  case neg => exact Ev.neg he (hj _ _ _)
  refine Ev.pos he ?_
  obtain ⟨hb, ht, hro, l, hg, hw, hcol⟩ := gCollect_ok he
  refine Ev.bind (ref_Closed hv (by omega) (by omega) (by omega) (by omega) (by omega) hrv hg) ?_
  cases hcl : gClosed m F T roots l with
  | false => exact hj _ _ _
  | true =>
    obtain ⟨HC, hrr⟩ := gClosed_cop hv (by omega) hb ht hg hw hcl
    have hsame := gReach_same HC hg hrr
    have hws := gWords_same HC
    have hnl := HC.new_len
    have ht0 := HC.t0
    have ht1 := HC.t1
    have hF := HC.hF
    have hFT := HC.hFT
    have hT := HC.hT
    have hw0 := gWords_nonneg HC.inv.nonneg
    have hend : gEnd m T t l = t + gWords (gBlk m T) l := rfl
    have hroom : gRoom m.length F T t ≤ T - F ∧ gRoom m.length F T t ≤ m.length - t := by unfold gRoom; split <;> omega
    have H2 := HC.again hg hrr (by omega)
    have hn32 : w32 (gNew m F T t l) := ⟨by rw [hnl]; omega, HC.new_vals⟩
    have hrn32 : w32 (roots.map (gChg m F T t l)) := ⟨by rw [List.length_map]; omega, fun x hx => by
      obtain ⟨y, hy, rfl⟩ := List.mem_map.1 hx
      exact HC.chg_val (hrv y hy) (hrr y hy)⟩
    have hr2 : gRoom (gNew m F T t l).length t (gEnd m T t l) F = gWords (gBlk m T) l := by
      unfold gRoom
      rw [hnl, hend]
      split <;> omega
    have hok : gRoomOk (gNew m F T t l).length t (gEnd m T t l) F = true := by
      unfold gRoomOk
      rw [hr2, hend]
      unfold gRoomOk at hro
      simp only [Bool.or_eq_true, decide_eq_true_eq] at hro ⊢
      omega
    have hcol2 := gCollect_is (m := gNew m F T t l) (F := t) (T := gEnd m T t l) (t := F) (by rw [hnl]; omega) (by rw [hnl]; omega) hok hsame (by rw [hr2, hws]; omega)
    have hc2 : gc_Collect.f (gNew m F T t l) t (gEnd m T t l) F (roots.map (gChg m F T t l)) = some (gCollect (gNew m F T t l) t (gEnd m T t l) F (roots.map (gChg m F T t l))) := by
      unfold gc_Collect.f
      rw [if_pos ⟨hn32, hrn32⟩]
    rw [hcol2] at hc2
    have hnl2 := H2.new_len
    have hend2 : gEnd (gNew m F T t l) (gEnd m T t l) F (l.map (gPos m T t l)) = F + gWords (gBlk m T) l := by
      show F + gWords _ _ = _
      rw [hws]
    have hat := fun (i : Int) h0 h1 => HC.back_at hg hrr (by omega) (i := i) h0 h1
    have hbe := fun (y : Int) hy0 hy => HC.back_eq (y := y) hy0 hy
    have hcc := fun (x : Int) hx => HC.chg_cases (x := x) hx
    have hcv := hrn32.2
    rw [hcol]
    dsimp only
    generalize gNew (gNew m F T t l) t (gEnd m T t l) F (l.map (gPos m T t l)) = B at hc2 hnl2 hat
    generalize gEnd (gNew m F T t l) (gEnd m T t l) F (l.map (gPos m T t l)) = E2 at hc2 hend2
    generalize gChg (gNew m F T t l) t (gEnd m T t l) F (l.map (gPos m T t l)) = C2 at hc2 hbe
    generalize gNew m F T t l = A at hc2 hnl2 hat hnl ⊢
    generalize hW : gWords (gBlk m T) l = W at hend hend2 hat hw0 hroom ht1
    refine Ev.step (fun n => by rw [camletlaw42_GcBack.j0, if_neg (by decide), if_neg (by omega), if_neg (by omega), if_neg (by omega), decide_eq_false (show ¬ gEnd m T t l > (A.length : Int) by omega)]) ?_
    refine Ev.step (fun n => by rw [camletlaw42_GcBack.j1, if_neg (by decide), hc2]) ?_
    refine Ev.neg (show ¬ E2 > (B.length : Int) by omega) ?_
    dsimp only
    rw [wr64 (n := E2 - F) (by omega), wr64 (n := gEnd m T t l - t) (by omega)]
    refine Ev.pos (by omega) (Ev.pos (by omega) ?_)
    have hle : ((((roots.map (gChg m F T t l)).map C2).length : Int) != ((roots.map (gChg m F T t l)).length : Int)) = false := by
      rw [List.length_map]; simp
    refine Ev.step (fun n => by rw [hle, camletlaw42_GcBack.j2, if_neg (by decide)]) ?_
    generalize hby : wrap64 (4 * wrap64 (t - F)) = by_ at hat hbe
    generalize hRL : roots.map (gChg m F T t l) = R at hcv ⊢
    have hRl : R.length ≤ 1000 := by rw [← hRL, List.length_map]; omega
    have hRc : ∀ i : Nat, i < R.length → camletlaw42_back.f (rd R i) t (gEnd m T t l) by_ = some (C2 (rd R i)) := by
      intro i hi
      have hm : rd R i ∈ R := by
        have h := rd_cons_drop hi
        exact List.mem_of_mem_drop (h ▸ List.mem_cons_self)
      refine hbe _ (hcv _ hm) ?_
      rw [← hRL] at hm
      obtain ⟨x, hx, e⟩ := List.mem_map.1 hm
      have := hcc x (hrr x hx)
      rw [e] at this
      rw [hRL] at this
      exact this
    generalize gEnd m T t l = Q at hat hend hRc ⊢
    have l1 : ∀ (d i : Nat), i + d = R.length → Ev (fun n => camletlaw42_GcBack.l1 n R Q (R.map C2) by_ (i : Int) F T t) true := by
      intro d
      induction d with
      | zero => intro i hd; exact Ev.step (fun n => by rw [camletlaw42_GcBack.l1, if_neg (by omega)]) hkn
      | succ d ih =>
        intro i hd
        have hil : i < R.length := by omega
        have hrm : rd (R.map C2) (i : Int) = C2 (rd R i) := by
          unfold rd
          rw [List.getD_eq_getElem?_getD, List.getD_eq_getElem?_getD, Int.toNat_natCast, List.getElem?_map, List.getElem?_eq_getElem hil]; rfl
        refine Ev.step (fun n => by rw [camletlaw42_GcBack.l1, if_pos (show (i : Int) < (R.length : Int) by omega), if_pos (show (0 : Int) ≤ (i : Int) by omega), hRc i hil]) ?_
        refine Ev.val rfl (Ev.pos (by rw [List.length_map]; omega) (Ev.pos hrm.symm ?_))
        rw [wr64 (n := (i : Int) + 1) (by omega)]
        exact ih (i + 1) (by omega)
    have l0 : ∀ (d i : Nat), (i : Int) + d = W → Ev (fun n => camletlaw42_GcBack.l0 n A R Q B (R.map C2) by_ (i : Int) F T t) true := by
      intro d
      induction d with
      | zero =>
        intro i hd
        refine Ev.step (fun n => by rw [camletlaw42_GcBack.l0, wr64 (n := Q - t) (by omega), if_neg (by omega)]) ?_
        exact l1 R.length 0 (by omega)
      | succ d ih =>
        intro i hd
        have hh := hat i (by omega) (by omega)
        refine Ev.step (fun n => by rw [camletlaw42_GcBack.l0, wr64 (n := Q - t) (by omega), if_pos (by omega), wr64 (n := t + i) (by omega), wr64 (n := F + i) (by omega), if_pos (by omega), if_pos (by omega), hh]) ?_
        refine Ev.val rfl (Ev.pos (by omega) (Ev.pos (by omega) (Ev.pos rfl ?_)))
        rw [wr64 (n := (i : Int) + 1) (by omega)]
        exact ih (i + 1) (by omega)
    exact l0 W.toNat 0 (by omega)
end Go.Proofs.Ytnkbfbhhioemoaa.Q
