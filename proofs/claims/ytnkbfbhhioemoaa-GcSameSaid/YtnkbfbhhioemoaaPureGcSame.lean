/- Where all that the roots lead to lies in the half, each root anew has the value over the memory anew that the root had (at most 300 words, 60 roots, values of 200 parts). -/
import Derived.Test.YtnkbfbhhioemoaaGcTake
import Derived.Test.YtnkbfbhhioemoaaHrefTake
import Derived.Test.YtnkbfbhhioemoaaStGcSame
namespace Go.Proofs.Ytnkbfbhhioemoaa.Q
open Go.RowKit Go.Proofs.YtnkbfbhhioemoaaW.PrintWords Go.Proofs.YtnkbfbhhioemoaaW.PrintLast Go.Proofs.YtnkbfbhhioemoaaW.PrintMore
set_option linter.unusedVariables false
set_option linter.unusedSimpArgs false

theorem gs_take {m : List Int} (hm : w32 m) {x : Int} (hx : 0 ≤ x ∧ x < 4294967296) (n : Nat) : camletref41_Take.f n m x 200 = some ((takeV m 200 (200, []) x).1.1.f0, (takeV m 200 (200, []) x).1.1.f1, (takeV m 200 (200, []) x).1.1.f2, (takeV m 200 (200, []) x).1.2) := by
  unfold camletref41_Take.f
  rw [if_pos ⟨hm, hx, by decide⟩]
  rfl
theorem gs_loop {m roots l : List Int} {F T t : Int} (H : GCop m F T t l) (hm : w32 m) (hn : w32 (gNew m F T t l)) (hr : roots.length ≤ 1000000) (hrv : ∀ x ∈ roots, 0 ≤ x ∧ x < 4294967296) (hcv : ∀ x ∈ roots, 0 ≤ gChg m F T t l x ∧ gChg m F T t l x < 4294967296) (h4 : ∀ b ∈ l, ∀ x ∈ gKids m (gBlk m T) b, gtW F T l x) (hrW : ∀ x ∈ roots, gtW F T l x)
    (hkn : Ev (fun k => (camletlaw42_knows.f k).bind fun t => some t) true) : ∀ (d i : Nat), i + d = roots.length → Ev (fun n => camletlaw42_GcSame.l0 n m roots (gNew m F T t l) (roots.map (gChg m F T t l)) (i : Int)) true := by
  intro d
  induction d with
  | zero =>
    intro i hi
    exact Ev.step (fun n => by rw [camletlaw42_GcSame.l0, if_neg (by rw [List.length_map]; omega)]) hkn
  | succ d ih =>
    intro i hi
    have hlt : i < roots.length := by omega
    have hw : wrap64 ((i : Int) + 1) = ((i + 1 : Nat) : Int) := by unfold wrap64; omega
    have e1 : rd roots (i : Int) = roots[i] := by
      unfold rd
      rw [Int.toNat_natCast, List.getD_eq_getElem?_getD, List.getElem?_eq_getElem hlt]
      rfl
    have e2 : rd (roots.map (gChg m F T t l)) (i : Int) = gChg m F T t l roots[i] := by
      unfold rd
      rw [Int.toNat_natCast, List.getD_eq_getElem?_getD, List.getElem?_map, List.getElem?_eq_getElem hlt]
      rfl
    have hmem := List.getElem_mem hlt
    have t1 := gs_take hm (hrv _ hmem)
    have t2 := gs_take hn (hcv _ hmem)
    obtain ⟨hs, _⟩ := H.tk_sim h4 200 (200, []) (200, []) roots[i] ⟨rfl, rfl, fun c hc => by simp at hc⟩ (hrW _ hmem)
    rw [hs] at t2
    have hsame := same_refl 201 (takeV m 200 (200, []) roots[i]).1.1 (takeV_TB m hm.1 200 _ _)
    obtain ⟨m1, a1⟩ := hsame
    obtain ⟨m2, a2⟩ := ih (i + 1) (by omega)
    refine ⟨m1 + m2 + 1, fun n hn2 => ?_⟩
    obtain ⟨j, rfl⟩ : ∃ j, n = j + 1 := ⟨n - 1, by omega⟩
    have b1 : camletref17_Same.f j _ _ _ _ _ _ = _ := a1 j (by omega)
    have b2 : camletlaw42_GcSame.l0 j _ _ _ _ _ = _ := a2 j (by omega)
    show camletlaw42_GcSame.l0 (j + 1) _ _ _ _ _ = _
    rw [camletlaw42_GcSame.l0, if_pos (by rw [List.length_map]; omega), if_pos (by omega), if_pos (by omega), e1, e2, t1, Option.bind_some, t2, Option.bind_some, if_pos rfl, b1, Option.bind_some, if_pos rfl, hw]
    exact b2
theorem GcSame.proved : GcSame.Pure := by
  intro m k roots ⟨H, y0, y1, y2, h0, h1, h2⟩
  refine Ev.rounds ?_
  have hv := u32_val h0
  have hrv := u32_val h2
  have hkn : Ev (fun k => (camletlaw42_knows.f k).bind fun t => some t) true := Ev.bind gc_knows_ev (Ev.now _)
  unfold camletlaw42_GcSame.f
  by_cases hf : (m.length : Int) ≤ 300 ∧ (roots.length : Int) ≤ 60
  case neg => exact Ev.val (gc_few_false hf) (Ev.neg (by decide) hkn)
  refine Ev.val (gc_few_true hf) (Ev.pos rfl ?_)
  have hm32 : w32 m := ⟨by omega, hv⟩
  have hr32 : w32 roots := ⟨by omega, hrv⟩
  have hc : gc_Collect.f m k.f0 k.f1 k.f2 roots = some (gCollect m k.f0 k.f1 k.f2 roots) := by
    unfold gc_Collect.f
    rw [if_pos ⟨hm32, hr32⟩]
  refine Ev.val hc ?_
  have hj : ∀ a b, Ev (fun n => camletlaw42_GcSame.j0 n m roots a b true) true := fun a b => Ev.step (fun n => by rw [camletlaw42_GcSame.j0, if_pos rfl]) hkn
  by_cases he : (gCollect m k.f0 k.f1 k.f2 roots).2.2.2 = 0
  case neg => exact Ev.neg he (hj _ _)
  refine Ev.pos he ?_
  obtain ⟨hb, ht, hro, l, hg, hw, hcol⟩ := gCollect_ok he
  refine Ev.bind (ref_Closed hv (by omega) (by omega) (by omega) (by omega) (by omega) hrv hg) ?_
  cases hcl : gClosed m k.f0 k.f1 roots l with
  | false => exact hj _ _
  | true =>
    obtain ⟨HC, hrr⟩ := gClosed_cop hv (by omega) hb ht hg hw hcl
    have hfour := gReach_four (gBlk_ok m k.f0 k.f1) (by omega) (by omega) (by omega) hg
    have h4 : ∀ b ∈ l, ∀ x ∈ gKids m (gBlk m k.f1) b, gtW k.f0 k.f1 l x := fun b hbl x hx => (HC.kids b hbl x hx).imp id (fun h => ⟨h.1, hfour.2 b hbl x hx h.1, h.2⟩)
    have hrW : ∀ x ∈ roots, gtW k.f0 k.f1 l x := fun x hx => (hrr x hx).imp id (fun h => ⟨h.1, hfour.1 x hx h.1, h.2⟩)
    have hnl := HC.new_len
    have hn32 : w32 (gNew m k.f0 k.f1 k.f2 l) := ⟨by rw [hnl]; omega, HC.new_vals⟩
    have hloop := gs_loop HC hm32 hn32 (by omega) hrv (fun x hx => HC.chg_val (hrv x hx) (hrr x hx)) h4 hrW hkn roots.length 0 (by omega)
    rw [hcol]
    dsimp only
    refine Ev.step (fun n => by rw [camletlaw42_GcSame.j0, if_neg (by decide), if_pos (by rw [List.length_map])]) ?_
    have hne : (((gNew m k.f0 k.f1 k.f2 l).length : Int) != (m.length : Int)) = false := by
      rw [hnl]; simp
    refine Ev.step (fun n => by rw [hne, camletlaw42_GcSame.j1, if_neg (by decide)]; rfl) hloop
end Go.Proofs.Ytnkbfbhhioemoaa.Q
