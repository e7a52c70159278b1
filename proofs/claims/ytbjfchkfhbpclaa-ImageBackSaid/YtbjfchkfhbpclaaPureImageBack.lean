/- Take inverts Put, and one changed byte is found. -/
import Derived.Test.YtbjfchkfhbpclaaImgPlain
import Derived.Test.YtbjfchkfhbpclaaImgRef
import Derived.Test.YtbjfchkfhbpclaaStImageBack
namespace Go.Proofs.Ytbjfchkfhbpclaa.Q
open Go.RowKit Go.Proofs.YtbjfchkfhbpclaaW.PrintWords Go.Proofs.YtbjfchkfhbpclaaW.PrintLast Go.Proofs.YtbjfchkfhbpclaaW.PrintMore
set_option linter.unusedVariables false
set_option linter.unusedSimpArgs false

theorem u32_val {H : Type} {l : List Int} {y : DataW H} (h : (Dsl (Dint .u32)) H l y) : ∀ x ∈ l, 0 ≤ x ∧ x < 4294967296 := by
  intro x hx
  obtain ⟨es, sp, _, hl, _, he⟩ := h
  obtain ⟨i, hi, rfl⟩ := List.getElem_of_mem hx
  have h1 := (he i _ _ (List.getElem?_eq_getElem hi) (List.getElem?_eq_getElem (by omega))).2
  have h2 : IntKind.u32.min = 0 := by decide
  have h3 : IntKind.u32.max = 4294967295 := by decide
  have h4 : (decide (IntKind.u32.min ≤ l[i]) && decide (l[i] ≤ IntKind.u32.max)) = true := h1
  rw [h2, h3] at h4
  simp only [Bool.and_eq_true, decide_eq_true_eq] at h4
  omega
theorem u8_one {H : Type} {x : Int} {y : DataW H} (h : (Dint .u8) H x y) : 0 ≤ x ∧ x < 256 := by
  have h1 := h.2
  have h2 : IntKind.u8.min = 0 := by decide
  have h3 : IntKind.u8.max = 255 := by decide
  have h4 : (decide (IntKind.u8.min ≤ x) && decide (x ≤ IntKind.u8.max)) = true := h1
  rw [h2, h3] at h4
  simp only [Bool.and_eq_true, decide_eq_true_eq] at h4
  omega
theorem ImageBack.proved : ImageBack.Pure := by
  intro x at_ to_ ⟨H, y0, y1, y2, h0, h1, h2⟩
  refine Ev.rounds ?_
  obtain ⟨z0, z1, _, hz0, _⟩ := h0
  have hc := u32_val hz0
  have hto := u8_one h2
  have k : camletlaw44_knows.f = some true := rfl
  have kn : ∀ (b : Bool) l a, b = true → Ev (fun k => camletlaw44_ImageBack.j0 k at_ to_ b l a) true := by
    intro b l a hb
    subst hb
    refine Ev.step (f := fun _ => some true) (fun n => ?_) (Ev.now _)
    rw [camletlaw44_ImageBack.j0]
    rw [if_pos rfl, k]; rfl
  unfold camletlaw44_ImageBack.f
  by_cases h : (x.f0.length : Int) > 2000
  · exact Ev.pos h (kn _ _ _ rfl)
  refine Ev.neg h (Ev.val (imgRight_eq _ _) ?_)
  cases hr : imgRight x.f0 x.f1 with
  | false => exact kn _ _ _ rfl
  | true =>
  have hp : ∀ n, image_Put.f n x.f0 x.f1 = some (imgBytes x.f0 x.f1, 0) := by
    intro n
    unfold image_Put.f
    rw [if_pos hr]
  have hbl := imgBytes_len x.f0 x.f1
  have ht : image_Take.f (imgBytes x.f0 x.f1) = some (x.f0, x.f1, 0) := by
    unfold image_Take.f
    rw [if_pos ⟨by omega, imgBytes_byte⟩, imgTake_put hr hc]
  have htk : ∀ i, image_Take.f ((imgBytes x.f0 x.f1).set i to_) = some (imgTake ((imgBytes x.f0 x.f1).set i to_)) := by
    intro i
    unfold image_Take.f
    rw [if_pos]
    refine ⟨by rw [List.length_set]; omega, ?_⟩
    intro y hy
    rcases List.mem_or_eq_of_mem_set hy with h | h
    · exact imgBytes_byte y h
    · rw [h]; exact hto
  have hset := fun i hi hne => imgTake_set (c := x.f0) (e := x.f1) i to_ hi hto hne
  generalize imgBytes x.f0 x.f1 = b at *
  refine Ev.step (f := fun k => (image_Put.f k x.f0 x.f1).bind fun bt239 => ((image_Take.f bt239.1).bind fun bt243 => (if bt239.2 = 0 then (if bt243.2.2 = 0 then ((camletref44_Same.f k x.f0 x.f1 bt243.1 bt243.2.1).bind fun t249 => (camletlaw44_ImageBack.j1 k at_ to_ bt239.1 (!t249))) else (camletlaw44_ImageBack.j1 k at_ to_ bt239.1 true)) else (camletlaw44_ImageBack.j1 k at_ to_ bt239.1 true)))) (fun n => ?_) ?_
  · rw [camletlaw44_ImageBack.j0]
    rw [if_neg (by decide)]
  refine Ev.bind ⟨0, fun n _ => hp n⟩ (Ev.val ht (Ev.pos rfl (Ev.pos rfl (Ev.bind (img_same44 x.f0 x.f1 (by omega)) ?_))))
  have j2t : ∀ bb : Bool, bb = true → Ev (fun k => camletlaw44_ImageBack.j2 k at_ to_ b bb) true := by
    intro bb hb
    subst hb
    refine Ev.step (f := fun _ => some true) (fun n => ?_) (Ev.now _)
    rw [camletlaw44_ImageBack.j2]
    rw [if_pos rfl, k]; rfl
  refine Ev.step (f := fun k => if at_ < 0 then (camletlaw44_ImageBack.j2 k at_ to_ b true) else (if at_ ≥ (b.length : Int) then (camletlaw44_ImageBack.j2 k at_ to_ b true) else (if 0 ≤ at_ then (if at_ < (b.length : Int) then (camletlaw44_ImageBack.j2 k at_ to_ b ((rd b at_) == to_)) else (none)) else (none)))) (fun n => ?_) ?_
  · rw [camletlaw44_ImageBack.j1]
    rw [if_neg (by decide)]
  by_cases ha : at_ < 0
  · exact Ev.pos ha (j2t _ rfl)
  refine Ev.neg ha ?_
  by_cases ha2 : at_ ≥ (b.length : Int)
  · exact Ev.pos ha2 (j2t _ rfl)
  refine Ev.neg ha2 (Ev.pos (by omega) (Ev.pos (by omega) ?_))
  obtain ⟨i, rfl⟩ := Int.eq_ofNat_of_zero_le (show 0 ≤ at_ by omega)
  have hi : i < b.length := by omega
  have erd : rd b (i : Int) = b[i] := by
    unfold rd
    rw [Int.toNat_natCast, List.getD_eq_getElem?_getD, List.getElem?_eq_getElem hi]
    rfl
  rw [erd]
  by_cases hne : b[i] = to_
  · exact j2t _ (beq_iff_eq.mpr hne)
  have herr := hset i hi hne
  have hn := imgTake_none herr
  refine Ev.some 1 (fun n => ?_)
  rw [camletlaw44_ImageBack.j2]
  rw [if_neg (by rw [Bool.not_eq_true]; exact beq_eq_false_iff_ne.mpr hne), if_pos (by simp only [List.length_nil]; omega)]
  simp only [List.nil_append, Option.bind_some]
  rw [if_pos (by omega), if_pos (by omega), Int.toNat_natCast, htk]
  simp only [Option.bind_some]
  rw [if_neg herr, hn.1, hn.2, k]
  rfl
end Go.Proofs.Ytbjfchkfhbpclaa.Q
