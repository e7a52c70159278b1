/- Back, Read and Show are one another's turnings back. -/
import Derived.Test.YtlhkojnocconfaaDoorAsmLw
import Derived.Test.YtlhkojnocconfaaDoorAsmBk
import Derived.Test.YtlhkojnocconfaaDoorIsaTP
import Derived.Test.YtlhkojnocconfaaDoorStAsmBack
namespace Go.Proofs.YtlhkojnocconfaaDoor.Q
open Go.RowKit Go.Proofs.YtlhkojnocconfaaDoorW.PrintWords Go.Proofs.YtlhkojnocconfaaDoorW.PrintLast Go.Proofs.YtlhkojnocconfaaDoorW.PrintMore
set_option linter.unusedVariables false
set_option linter.unusedSimpArgs false

theorem ab_u32 {H : Type} {l : List Int} {y : DataW H} (h : (Dsl (Dint .u32)) H l y) : ∀ x ∈ l, 0 ≤ x ∧ x < 4294967296 := by
  intro x hx
  obtain ⟨es, sp, _, hl, _, he⟩ := h
  obtain ⟨i, hi, rfl⟩ := List.getElem_of_mem hx
  have h1 := (he i _ _ (List.getElem?_eq_getElem hi) (List.getElem?_eq_getElem (by omega))).2
  have h2 : IntKind.u32.min = 0 := by decide
  have h3 : IntKind.u32.max = 4294967295 := by decide
  have h4 : (decide (IntKind.u32.min ≤ l[i]) && decide (l[i] ≤ IntKind.u32.max)) = true := h1
  rw [h2, h3] at h4
  simp only [Bool.and_eq_true, decide_eq_true_eq] at h4
  omega
theorem put_range {k D A B N : Int} (hr : isaRight k D A B N = true) : 0 ≤ isaPut k D A B N ∧ isaPut k D A B N < 4294967296 := by
  have h := takePut k D A B N hr
  unfold isa_Take.f at h
  by_cases hz : 0 ≤ isaPut k D A B N ∧ isaPut k D A B N < 4294967296
  · exact hz
  · rw [if_neg hz] at h; cases h
theorem same_lines (l : List S36) (hl : l.length ≤ 1000) : Ev (fun k => camletref40_Same.f k l l) true := by
  have go : ∀ (d i : Nat), i + d = l.length → Ev (fun k => camletref40_Same.l0 k l l (i : Int)) true := by
    intro d
    induction d with
    | zero =>
      intro i hi
      refine Ev.some 1 (fun n => ?_)
      rw [camletref40_Same.l0, if_neg (by omega)]
    | succ d ih =>
      intro i hi
      have hw : wrap64 ((i : Int) + 1) = ((i + 1 : Nat) : Int) := by unfold wrap64; omega
      refine Ev.step (fun n => ?_) (ih (i + 1) (by omega))
      rw [camletref40_Same.l0, if_pos (by omega), if_pos (by omega), if_pos (by omega), hw]
      simp
  unfold camletref40_Same.f
  exact Ev.pos rfl (go l.length 0 (by omega))
theorem back_j4 (l : List S36) (W : List Int) (hW : ∀ x ∈ W, ∃ k D A B N, isaRight k D A B N = true ∧ x = isaPut k D A B N) (hl : W.length = l.length) (hn : l.length ≤ 16384) : Ev (fun k => camletlaw40_AsmBack.j4 k l W false) true := by
  refine Ev.step (f := fun k => (asm_Back.f k W).bind fun bt186 => (if bt186.2.2 = 0 then (if (bt186.1.length : Int) = (l.length : Int) then ((camletlaw40_knows.f k).bind fun t191 => (some t191)) else (some false)) else (some false))) (fun k => by rw [camletlaw40_AsmBack.j4, if_neg (by decide)]) ?_
  have hr : ∀ x ∈ W, 0 ≤ x ∧ x < 4294967296 := fun x hx => by
    obtain ⟨k, D, A, B, N, h, rfl⟩ := hW x hx
    exact put_range h
  obtain ⟨r, e1, e2, e3⟩ := ab_back W hr (by omega)
  have hz : r.2.2 = 0 := e3 (fun x hx => by
    obtain ⟨k, D, A, B, N, h, rfl⟩ := hW x hx
    rw [takePut k D A B N h]
    simp)
  obtain ⟨_, p2⟩ := e2 hz
  have hlen : r.1.length = W.length := by rw [← p2, List.length_map]
  exact Ev.bind e1 (Ev.pos hz (Ev.pos (by omega) (Ev.bind asm_knows (Ev.now _))))
def rightL (x : S36) : Bool := isaRight x.f1.f0 x.f1.f1 x.f1.f2 x.f1.f3 x.f1.f4
theorem of_one (x : S36) : ∃ r, asm_Of.f [(⟨(⟨#[]⟩ : ByteArray), ⟨x.f1.f0, x.f1.f1, x.f1.f2, x.f1.f3, x.f1.f4⟩, (⟨#[]⟩ : ByteArray)⟩ : S36)] = some r ∧ (r.2.2 == 0) = rightL x := by
  obtain ⟨y, hy⟩ : ∃ y : S36, y = ⟨(⟨#[]⟩ : ByteArray), ⟨x.f1.f0, x.f1.f1, x.f1.f2, x.f1.f3, x.f1.f4⟩, (⟨#[]⟩ : ByteArray)⟩ := ⟨_, rfl⟩
  rw [← hy]
  cases hr : rightL x with
  | true =>
    refine ⟨_, ab_of [y] (fun z hz => ?_) (by simp), rfl⟩
    obtain rfl := List.mem_singleton.1 hz
    subst hy
    exact ⟨rfl, rfl, hr⟩
  | false =>
    have hok : asmOk [y] := fun z hz => by
      obtain rfl := List.mem_singleton.1 hz
      subst hy
      exact ⟨by show (0 : Nat) ≤ _; omega, by show (0 : Nat) ≤ _; omega⟩
    refine ⟨([], 0, 26), ?_, by decide⟩
    rw [asm_of (by simp) hok]
    have e0 : asmWrong [y] 0 y = 0 := by
      subst hy
      unfold asmWrong
      have hm : mayB (⟨#[]⟩ : ByteArray) = true := by unfold mayB; rw [if_pos (by rw [toList_nil])]
      have hk : skey (⟨#[]⟩ : ByteArray) = .string [] := rfl
      have ht : (⟨#[]⟩ : ByteArray).toList = [] := by rw [toList_nil]
      dsimp only
      rw [hm, hk, firstF_nil, ht]
      simp
    have e1 : asmNum [y] 0 y = x.f1.f4 := by
      subst hy
      unfold asmNum
      rw [if_pos (by rw [toList_nil])]
    have e2 : isaRight y.f1.f0 y.f1.f1 y.f1.f2 y.f1.f3 x.f1.f4 = false := by subst hy; exact hr
    rw [asmGo, e0, if_neg (by simp), e1, e2, if_neg (by decide)]
    rfl
theorem back_l0 (l : List S36) (W : List Int) (hl : l.length ≤ 100) (hs : ∀ x ∈ l, x.f0.size ≤ 60 ∧ x.f2.size ≤ 60) (hm : ∀ x ∈ l, mayB x.f0 = true ∧ mayB x.f2 = true) (h4 : Ev (fun k => camletlaw40_AsmBack.j4 k l W false) true) :
    ∀ (d i : Nat), i + d = l.length → Ev (fun k => camletlaw40_AsmBack.l0 k l W ((l.take i).all rightL) l (l.length : Int) (i : Int)) true := by
  intro d
  induction d with
  | zero =>
    intro i hi
    obtain rfl : i = l.length := by omega
    rw [List.take_length]
    refine Ev.step (f := fun k => (asm_Show.f l).bind fun t179 => ((asm_Read.f t179).bind fun bt180 => (if (l.all rightL) = true then (if bt180.2.2 = 0 then ((camletref40_Same.f k bt180.1 l).bind fun t185 => (camletlaw40_AsmBack.j4 k l W (!t185))) else (camletlaw40_AsmBack.j4 k l W true)) else (camletlaw40_AsmBack.j4 k l W false)))) (fun k => by rw [camletlaw40_AsmBack.l0, if_neg (by omega)]) ?_
    cases hp : l.all rightL with
    | true =>
      obtain ⟨s, e1, e2, e3⟩ := show_read l (fun x hx => ⟨(hm x hx).1, (hm x hx).2, List.all_eq_true.1 hp x hx, hs x hx⟩) hl
      have e4 : asm_Read.f s = some (l, 0, 0) := by unfold asm_Read.f; rw [if_pos e2, e3]
      exact Ev.val e1 (Ev.val e4 (Ev.pos rfl (Ev.pos rfl (Ev.bind (same_lines l (by omega)) h4))))
    | false =>
      obtain ⟨s, e1, e2⟩ := show_any l hs hl
      have e4 : asm_Read.f s = some (asmRead s) := by unfold asm_Read.f; rw [if_pos e2]
      exact Ev.val e1 (Ev.val e4 (Ev.neg (by decide) h4))
  | succ d ih =>
    intro i hi
    have hlt : i < l.length := by omega
    have hw : wrap64 ((i : Int) + 1) = ((i + 1 : Nat) : Int) := by unfold wrap64; omega
    have hx : rd_T36 l (i : Int) = l[i] := by
      unfold rd_T36
      rw [Int.toNat_natCast, List.getD_eq_getElem?_getD, List.getElem?_eq_getElem hlt]
      rfl
    obtain ⟨r, e1, e2⟩ := of_one l[i]
    have ih2 := ih (i + 1) (by omega)
    rw [List.take_succ_eq_append_getElem hlt, List.all_append] at ih2
    refine Ev.step (fun n => ?_) ih2
    rw [camletlaw40_AsmBack.l0, if_pos (by omega), if_pos (by omega), if_pos (by omega), hx, e1, Option.bind_some, e2, hw]
    cases hp : (l.take i).all rightL with
    | true => rw [if_pos rfl]; simp
    | false => rw [if_neg (by decide)]; simp
theorem AsmBack.proved : AsmBack.Pure := by
  intro l s code ⟨H, y0, y1, y2, h0, h1, h2⟩ hsz0
  refine Ev.rounds ?_
  unfold camletlaw40_AsmBack.f
  obtain ⟨b, hb, hb2⟩ := asm_few l
  have kn : Ev (fun k => camletlaw40_AsmBack.j0 k l s code true) true := by
    refine Ev.step (f := fun k => (camletlaw40_knows.f k).bind fun t146 => (some t146)) (fun k => ?_) (Ev.bind asm_knows (Ev.now _))
    rw [camletlaw40_AsmBack.j0]
    rw [if_pos rfl]
  refine Ev.bind hb ?_
  cases b with
  | false => exact Ev.neg (by decide) kn
  | true =>
  refine Ev.pos rfl ?_
  by_cases hsz : (s.size : Int) > 3000
  · exact Ev.pos hsz kn
  refine Ev.neg hsz ?_
  by_cases hcl : (code.length : Int) > 200
  · rw [decide_eq_true hcl]; exact kn
  rw [decide_eq_false hcl]
  obtain ⟨hl, hls⟩ := hb2 rfl
  have hcode := ab_u32 h2
  have J2 : Ev (fun k => camletlaw40_AsmBack.j2 k l false) true := by
    refine Ev.step (f := fun k => (asm_Of.f l).bind fun bt164 => (if bt164.2.2 = 0 then (camletlaw40_AsmBack.l0 k l bt164.1 true l (l.length : Int) 0) else ((camletlaw40_knows.f k).bind fun t192 => (some t192)))) (fun k => by rw [camletlaw40_AsmBack.j2, if_neg (by decide)]) ?_
    refine Ev.val (asm_of (by omega) (asm_ok hls)) ?_
    by_cases hz : (asmGo l l 0 []).2.2 = 0
    · refine Ev.pos hz ?_
      obtain ⟨D, g1, g2, g3⟩ := asmGo_ok l l 0 [] hz
      rw [g1, List.nil_append]
      have hW : ∀ x ∈ D, ∃ k D A B N, isaRight k D A B N = true ∧ x = isaPut k D A B N := by
        intro x hx
        obtain ⟨j, hj, rfl⟩ := List.getElem_of_mem hx
        obtain ⟨_, q2, q3⟩ := g3 j (by omega) hj
        exact ⟨_, _, _, _, _, q2, q3⟩
      have hm : ∀ x ∈ l, mayB x.f0 = true ∧ mayB x.f2 = true := by
        intro x hx
        obtain ⟨j, hj, rfl⟩ := List.getElem_of_mem hx
        obtain ⟨q1, _⟩ := g3 j hj (by omega)
        unfold asmWrong at q1
        split at q1
        · exact absurd q1 (by decide)
        · rename_i hq
          simp only [not_or, Bool.not_eq_false] at hq
          exact hq
      have := back_l0 l D hl hls hm (back_j4 l D hW (by omega) (by omega)) l.length 0 (by omega)
      simpa using this
    · exact Ev.neg hz (Ev.bind asm_knows (Ev.now _))
  have J1 : Ev (fun k => camletlaw40_AsmBack.j1 k l s) true := by
    refine Ev.step (f := fun k => (asm_Read.f s).bind fun bt158 => (if bt158.2.2 = 0 then ((asm_Show.f bt158.1).bind fun t163 => (camletlaw40_AsmBack.j2 k l (t163.toList != s.toList))) else (camletlaw40_AsmBack.j2 k l false))) (fun k => by rw [camletlaw40_AsmBack.j1]) ?_
    have hrd : asm_Read.f s = some (asmRead s) := by unfold asm_Read.f; rw [if_pos (by omega)]
    refine Ev.val hrd ?_
    by_cases hz : (asmRead s).2.2 = 0
    · have hsh : asm_Show.f (asmRead s).1 = some s := read_show (s := s) (by omega) (l := (asmRead s).1) (n := (asmRead s).2.1) (by rw [← hz])
      refine Ev.pos hz (Ev.val hsh ?_)
      rw [show (s.toList != s.toList) = false by simp]
      exact J2
    · exact Ev.neg hz J2
  refine Ev.step (f := fun k => (asm_Back.f k code).bind fun bt147 => (if bt147.2.2 = 0 then ((asm_Of.f bt147.1).bind fun bt152 => (if bt152.2.2 = 0 then ((camletref40_SameWords.f k bt152.1 code).bind fun t157 => (if t157 = true then (camletlaw40_AsmBack.j1 k l s) else (some false))) else (some false))) else (camletlaw40_AsmBack.j1 k l s))) (fun k => by rw [camletlaw40_AsmBack.j0]; rw [if_neg (by decide)]) ?_
  obtain ⟨r, e1, e2, _⟩ := ab_back code hcode (by omega)
  refine Ev.bind e1 ?_
  by_cases hr : r.2.2 = 0
  · obtain ⟨p1, p2⟩ := e2 hr
    have hlen : r.1.length = code.length := by rw [← p2, List.length_map]
    have hof := ab_of r.1 p1 (by omega)
    rw [p2] at hof
    exact Ev.pos hr (Ev.val hof (Ev.pos rfl (Ev.bind (asm_same code (by omega)) (Ev.pos rfl J1))))
  · exact Ev.neg hr J1
end Go.Proofs.YtlhkojnocconfaaDoor.Q
