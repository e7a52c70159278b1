/- Link agrees with the reference, including errors. -/
import Derived.Test.YtbjfchkfhbpclaaAsmRefs
import Derived.Test.YtbjfchkfhbpclaaStImageLinks
namespace Go.Proofs.Ytbjfchkfhbpclaa.Q
open Go.RowKit Go.Proofs.YtbjfchkfhbpclaaW.PrintWords Go.Proofs.YtbjfchkfhbpclaaW.PrintLast Go.Proofs.YtbjfchkfhbpclaaW.PrintMore
set_option linter.unusedVariables false
set_option linter.unusedSimpArgs false

def startS : ByteArray := ⟨#[115, 116, 97, 114, 116]⟩
theorem startS_ne : ¬ startS.toList = [] := by rw [toList_nil]; decide
theorem startS_list : startS.toList = ([115, 116, 97, 114, 116] : List UInt8) := by rw [ByteArray.toList_eq]; rfl
theorem img_few (l : List S44) (hl : l.length ≤ 9223372036854775807) : ∃ b : Bool, Ev (fun k => camletlaw44_few.f k l) b ∧ (b = true → l.length ≤ 300) := by
  have go : ∀ (d i : Nat), i + d = l.length → ∃ b : Bool, Ev (fun k => camletlaw44_few.l0 k l (l.length : Int) (i : Int)) b ∧ (b = true → l.length ≤ 300) := by
    intro d
    induction d with
    | zero =>
      intro i hi
      refine ⟨decide ((l.length : Int) ≤ 300), Ev.step (f := fun _ => some (decide ((l.length : Int) ≤ 300))) (fun k => ?_) (Ev.now _), fun h => by have := of_decide_eq_true h; omega⟩
      rw [camletlaw44_few.l0]
      rw [if_neg (by omega)]
    | succ d ih =>
      intro i hi
      have hw : wrap64 ((i : Int) + 1) = ((i + 1 : Nat) : Int) := by rw [aw64 (by omega) (by omega)]; omega
      by_cases h : wrap64 ((((rd_T44 l (i : Int)).f0).size : Int) + (((rd_T44 l (i : Int)).f2).size : Int)) > 200
      · refine ⟨false, Ev.step (f := fun _ => some false) (fun k => ?_) (Ev.now _), fun h => by cases h⟩
        rw [camletlaw44_few.l0]
        rw [if_pos (by omega), if_pos (by omega), if_pos (by omega), if_pos h]
      · obtain ⟨b, hb, hb2⟩ := ih (i + 1) (by omega)
        refine ⟨b, Ev.step (f := fun k => camletlaw44_few.l0 k l (l.length : Int) ((i + 1 : Nat) : Int)) (fun k => ?_) hb, hb2⟩
        rw [camletlaw44_few.l0]
        rw [if_pos (by omega), if_pos (by omega), if_pos (by omega), if_neg h, hw]
  exact go l.length 0 (by omega)
theorem ref44_Link_go (l : List S44) (hl : l.length ≤ 300) (c : List Int) : ∀ (d i : Nat), i + d = l.length → Ev (fun k => camletref44_Link.l0 k l c (l.length : Int) (i : Int)) (if goOn l startS i < 0 then ([], 0, (l.length : Int), 25) else (c, goOn l startS i, 0, 0)) := by
  intro d
  induction d with
  | zero =>
    intro i hi
    rw [goOn_end (by omega), if_pos (by decide)]
    refine Ev.step (f := fun _ => some ([], 0, (l.length : Int), 25)) (fun k => ?_) (Ev.now _)
    rw [camletref44_Link.l0]
    rw [if_neg (by omega)]
  | succ d ih =>
    intro i hi
    have hlt : i < l.length := by omega
    have hw : wrap64 ((i : Int) + 1) = ((i + 1 : Nat) : Int) := by rw [aw64 (by omega) (by omega)]; omega
    by_cases he : l[i].f0.toList = startS.toList
    · rw [goOn_hit hlt he, if_neg (by omega)]
      refine Ev.step (f := fun _ => some (c, (i : Int), 0, 0)) (fun k => ?_) (Ev.now _)
      rw [camletref44_Link.l0]
      rw [if_pos (by omega), if_pos (by omega), if_pos (by omega), rd_line hlt, if_pos (by rw [he, startS_list])]
    · rw [goOn_miss hlt he]
      refine Ev.step (f := fun k => camletref44_Link.l0 k l c (l.length : Int) ((i + 1 : Nat) : Int)) (fun k => ?_) (ih (i + 1) (by omega))
      rw [camletref44_Link.l0]
      rw [if_pos (by omega), if_pos (by omega), if_pos (by omega), rd_line hlt, if_neg (by rw [← startS_list]; exact he), hw]
theorem ImageLinks.proved : ImageLinks.Pure := by
  intro l ⟨H, y0, es, sp, _, hel, hll, he⟩
  refine Ev.rounds ?_
  have hok : asmOk l := by
    intro x hx
    obtain ⟨i, hi, rfl⟩ := List.getElem_of_mem hx
    obtain ⟨z0, z1, z2, _, h0, _, h2⟩ := he i _ _ (List.getElem?_eq_getElem hi) (List.getElem?_eq_getElem (by omega))
    exact ⟨h0.2, h2.2⟩
  have k : camletlaw44_knows.f = some true := rfl
  unfold camletlaw44_ImageLinks.f
  obtain ⟨b, hb, hb2⟩ := img_few l hll
  refine Ev.bind hb ?_
  cases b with
  | false => exact Ev.neg (by decide) (Ev.val k (Ev.now _))
  | true =>
  refine Ev.pos rfl ?_
  have hl := hb2 rfl
  have hof : asm_Of.f l = some (asmGo l l 0 []) := by
    unfold asm_Of.f
    rw [if_pos hok, if_neg (by omega)]
  have href := ref40_Of_eq l hok
  rw [if_neg (by omega)] at href
  have hlen := asmGo_len l l 0 []
  have hlab := asm_Labels_eq l (by omega) startS
  rw [← goOn_zero startS_ne] at hlab
  have hgo := ref44_Link_go l hl (asmGo l l 0 []).1 l.length 0 (by omega)
  obtain ⟨V, hV⟩ : ∃ V, asmGo l l 0 [] = V := ⟨_, rfl⟩
  rw [hV] at hof href hlen hgo
  have V1 : ∃ W : List Int × Int × Int × Int, W.1.length ≤ 300 ∧ Ev (fun k => image_Link.f k l) W ∧ Ev (fun k => camletref44_Link.f k l) W := by
    by_cases h0 : V.2.2 = 0
    · by_cases hg : goOn l startS 0 < 0
      · rw [if_pos hg] at hgo
        refine ⟨([], 0, (l.length : Int), 25), by simp, ?_, ?_⟩
        rotate_left
        · unfold camletref44_Link.f
          exact Ev.bind href (Ev.pos h0 hgo)
        · unfold image_Link.f
          exact Ev.val hof (Ev.pos h0 (Ev.bind hlab (Ev.pos hg (Ev.now _))))
      · rw [if_neg hg] at hgo
        refine ⟨(V.1, goOn l startS 0, 0, 0), ?_, ?_, ?_⟩
        rotate_left 2
        · unfold camletref44_Link.f
          exact Ev.bind href (Ev.pos h0 hgo)
        · simp at hlen ⊢
          omega
        · unfold image_Link.f
          exact Ev.val hof (Ev.pos h0 (Ev.bind hlab (Ev.neg hg (Ev.now _))))
    · refine ⟨([], 0, V.2.1, V.2.2), by simp, ?_, ?_⟩
      · unfold image_Link.f
        exact Ev.val hof (Ev.neg h0 (Ev.now _))
      · unfold camletref44_Link.f
        exact Ev.bind href (Ev.neg h0 (Ev.now _))
  obtain ⟨W, hW, h1, h2⟩ := V1
  exact Ev.bind h1 (Ev.bind h2 (Ev.pos rfl (Ev.pos rfl (Ev.bind (img_same44 _ _ (by omega)) (Ev.pos rfl (Ev.val k (Ev.now _)))))))
end Go.Proofs.Ytbjfchkfhbpclaa.Q
