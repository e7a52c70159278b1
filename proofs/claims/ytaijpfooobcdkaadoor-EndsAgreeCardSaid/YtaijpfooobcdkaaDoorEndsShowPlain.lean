/- Both texts of an end are one; the examples come out. -/
import Derived.Test.YtaijpfooobcdkaaDoorQx0
import Derived.Test.YtaijpfooobcdkaaDoorQx3
import Derived.Test.YtaijpfooobcdkaaDoorQx4
import Derived.Test.YtaijpfooobcdkaaDoorQx5
import Derived.Test.YtaijpfooobcdkaaDoorEndsPlain
import Derived.Test.YtaijpfooobcdkaaDoorHendsShow
import Derived.Test.YtaijpfooobcdkaaDoorReads
import Derived.Test.YtaijpfooobcdkaaDoorShowPlain
import Derived.Test.YtaijpfooobcdkaaDoorRd
namespace Go.Proofs.YtaijpfooobcdkaaDoor.Q
open Go.RowKit Go.Proofs.YtaijpfooobcdkaaDoorW.PrintWords Go.Proofs.YtaijpfooobcdkaaDoorW.PrintLast Go.Proofs.YtaijpfooobcdkaaDoorW.PrintMore
attribute [local go_sem] max2_int min2_int max_two min_two max_three min_three max_four min_four   -- for this text's walks alone
set_option linter.unusedVariables false
set_option linter.unusedSimpArgs false

abbrev I64 (x : Int) : Prop := -9223372036854775808 ≤ x ∧ x ≤ 9223372036854775807
theorem w31_i64 {x : Int} (h : W31 x = x) : I64 x := by unfold W31 at h; exact ⟨by omega, by omega⟩
theorem right_facts {a n : Int} {l : List Int} {s : Int} (h : eRight a n l s = true) : 1 ≤ a ∧ a ≤ 6 ∧ (∀ x ∈ l, I64 x) := by
  unfold eRight at h
  have := of_decide_eq_true h
  exact ⟨this.1, this.2.1, fun x hx => w31_i64 (this.2.2.2.2.2 x hx)⟩
def eShow (a n : Int) (l : List Int) (s : Int) : ByteArray := if eRight a n l s = true then ⟨(endHead a n ++ endTail l).toArray⟩ else ⟨#[]⟩
theorem show_ev (a n : Int) (l : List Int) (s : Int) (hl : l.length ≤ 300) (hn : I64 n) : Ev (fun k => ends_Show.f k a n l s) (eShow a n l s) := by
  unfold ends_Show.f eShow
  refine Ev.bind (right_ev a n l s (show l.length ≤ _ by omega)) ?_
  cases h : eRight a n l s with
  | false => simpa using Ev.now _
  | true =>
    obtain ⟨h1, h2, h3⟩ := right_facts h
    simp only [if_true]
    rw [if_pos ⟨by omega, h1, h2, hn, h3⟩]
    exact Ev.now _
theorem refshow_l0 (a n : Int) (l : List Int) (s : Int) (H : List UInt8) (hH : H.length ≤ 100) (hl : l.length ≤ 300) (hx : ∀ x ∈ l, I64 x) (d : Nat) : ∀ i : Nat, l.length - i = d → i ≤ l.length →
    Ev (fun k => camletref02_Show.l0 k ⟨(H ++ endTail (l.take i)).toArray⟩ (i : Int) a n l s) ⟨(H ++ endTail l).toArray⟩ := by
  have hsz : ∀ i, (⟨(H ++ endTail (l.take i)).toArray⟩ : ByteArray).size ≤ 10000 := by
    intro i
    rw [ba_size0, List.length_append]
    have h1 := endTail_length (l.take i) (fun x hx' => hx x (List.mem_of_mem_take hx'))
    have h2 : (l.take i).length ≤ 300 := by rw [List.length_take]; omega
    omega
  induction d with
  | zero =>
    intro i hd hi
    have : i = l.length := by omega
    subst this
    refine Ev.step (f := fun _ => some _) (fun k => ?_) (Ev.now _)
    simp only [camletref02_Show.l0]
    rw [if_neg (by omega), List.take_length]
  | succ d ih =>
    intro i hd hi
    have hlt : i < l.length := by omega
    obtain ⟨T, hT1, hT2, hT3⟩ := show_of (hx l[i] (List.getElem_mem hlt))
    have hs := refshow l[i] (hx l[i] (List.getElem_mem hlt)).1 (hx l[i] (List.getElem_mem hlt)).2
    rw [← hT3] at hs
    have hz := hsz i
    by_cases h0 : i = 0
    · subst h0
      have e : (((⟨(H ++ endTail (l.take 0)).toArray⟩ : ByteArray) ++ (⟨#[58]⟩ : ByteArray)) ++ (⟨#[32]⟩ : ByteArray)) ++ T = ⟨(H ++ endTail (l.take 1)).toArray⟩ := by
        rw [← end_step0 (hlt := hlt) rfl hT3 hlt, ByteArray.append_assoc]
      refine Ev.step (f := fun k => (camletref01_Show.f k l[0]).bind fun t => if ((((⟨(H ++ endTail (l.take 0)).toArray⟩ : ByteArray) ++ (⟨#[58]⟩ : ByteArray)) ++ (⟨#[32]⟩ : ByteArray)).size + t.size ≤ 9223372036854775807) then camletref02_Show.l0 k ((((⟨(H ++ endTail (l.take 0)).toArray⟩ : ByteArray) ++ (⟨#[58]⟩ : ByteArray)) ++ (⟨#[32]⟩ : ByteArray)) ++ t) ((1 : Nat) : Int) a n l s else none) (fun k => ?_) ?_
      · simp only [camletref02_Show.l0]
        rw [if_pos (by omega), if_pos (by omega), if_pos (by omega), if_pos (by rw [ByteArray.size_append]; show _ + 1 + 1 ≤ _; omega), if_pos (by omega), rd_at l 0 hlt, wrap_succ hlt (by omega)]
      · refine Ev.bind hs ?_
        refine Ev.ifp (by rw [ByteArray.size_append, ByteArray.size_append]; show _ + 1 + 1 + _ ≤ _; omega) ?_
        rw [e]
        exact ih 1 (by omega) (by omega)
    · have e : ((⟨(H ++ endTail (l.take i)).toArray⟩ : ByteArray) ++ (⟨#[32]⟩ : ByteArray)) ++ T = ⟨(H ++ endTail (l.take (i + 1))).toArray⟩ := by
        rw [← end_step (hlt := hlt) rfl hT3 hlt h0, ByteArray.append_assoc]
      refine Ev.step (f := fun k => (camletref01_Show.f k l[i]).bind fun t => if (((⟨(H ++ endTail (l.take i)).toArray⟩ : ByteArray) ++ (⟨#[32]⟩ : ByteArray)).size + t.size ≤ 9223372036854775807) then camletref02_Show.l0 k (((⟨(H ++ endTail (l.take i)).toArray⟩ : ByteArray) ++ (⟨#[32]⟩ : ByteArray)) ++ t) ((i + 1 : Nat) : Int) a n l s else none) (fun k => ?_) ?_
      · simp only [camletref02_Show.l0]
        rw [if_pos (by omega), if_neg (by omega), if_pos (by omega), if_pos (by omega), rd_at l i hlt, wrap_succ hlt (by omega)]
      · refine Ev.bind hs ?_
        refine Ev.ifp (by rw [ByteArray.size_append]; show _ + 1 + _ ≤ _; omega) ?_
        rw [e]
        exact ih (i + 1) (by omega) (by omega)
theorem refshow_ev (a n : Int) (l : List Int) (s : Int) (hl : l.length ≤ 300) (hn : I64 n) : Ev (fun k => camletref02_Show.f k a n l s) (eShow a n l s) := by
  unfold camletref02_Show.f eShow
  refine Ev.bind (refright_ev a n l s (show l.length ≤ _ by omega)) ?_
  cases h : eRight a n l s with
  | false => simpa using Ev.now _
  | true =>
    obtain ⟨h1, h2, h3⟩ := right_facts h
    simp only [if_true]
    obtain ⟨T, hT1, hT2, hT3⟩ := show_of hn
    have hs := refshow n hn.1 hn.2
    rw [← hT3] at hs
    refine Ev.bind hs ?_
    refine Ev.ifp (by omega) ?_
    simp only [Option.bind_some]
    have hlen : (endHead a n).length ≤ 100 := by
      unfold endHead
      have := endWord_length a
      have := Lib.itoa_length_le n hn.1 hn.2
      split <;> simp <;> omega
    have key := refshow_l0 a n l s (endHead a n) hlen hl h3 _ 0 rfl (Nat.zero_le _)
    have e0 : (⟨(endHead a n ++ endTail (l.take 0)).toArray⟩ : ByteArray) = ⟨(endHead a n).toArray⟩ := by simp [endTail]
    rw [e0] at key
    have hw : wrap64 (a - 1) = a - 1 := by unfold wrap64; omega
    rw [hw]
    refine Ev.ifp (by omega) ?_
    refine Ev.ifp (by simp; omega) ?_
    have hr : rdOf ByteArray.empty ([(⟨#[100, 111, 110, 101]⟩ : ByteArray), (⟨#[114, 97, 105, 115, 101, 32]⟩ : ByteArray) ++ T, (⟨#[102, 117, 101, 108]⟩ : ByteArray), (⟨#[115, 116, 117, 99, 107]⟩ : ByteArray), (⟨#[104, 101, 97, 112]⟩ : ByteArray), (⟨#[115, 116, 97, 99, 107]⟩ : ByteArray)] : List ByteArray) (a - 1) = ⟨(endHead a n).toArray⟩ := by
      have hk : a = 1 ∨ a = 2 ∨ a = 3 ∨ a = 4 ∨ a = 5 ∨ a = 6 := by omega
      rcases hk with rfl | rfl | rfl | rfl | rfl | rfl
      · rfl
      · show (⟨#[114, 97, 105, 115, 101, 32]⟩ : ByteArray) ++ T = _
        rw [hT3, show (⟨#[114, 97, 105, 115, 101, 32]⟩ : ByteArray) = ⟨([114, 97, 105, 115, 101, 32] : List UInt8).toArray⟩ from rfl, ba_app]
        simp [endHead, endWord]
      · rfl
      · rfl
      · rfl
      · rfl
    rw [hr]
    exact key
theorem knows_ev : Ev (fun k => camletlaw02_knows.f k) true := by
  unfold camletlaw02_knows.f
  simp only [Option.bind_some]
  have b2 : (7 : Int) = 7 := rfl
  have r1 : eRight 2 2 [7, 8] 0 = true := by decide +kernel
  refine Ev.bind (show_ev 2 2 [7, 8] 0 (by decide) ⟨by decide, by decide⟩) ?_
  have e : (eShow 2 2 [7, 8] 0).toList = ([114, 97, 105, 115, 101, 32, 50, 58, 32, 55, 32, 56] : List UInt8) := by
    unfold eShow
    rw [if_pos r1]
    have i2 : Lib.itoa 2 = [50] := by simp [Lib.itoa, Lib.decDigits]
    have i7 : Lib.itoa 7 = [55] := by simp [Lib.itoa, Lib.decDigits]
    have i8 : Lib.itoa 8 = [56] := by simp [Lib.itoa, Lib.decDigits]
    rw [show endHead 2 2 ++ endTail [7, 8] = [114, 97, 105, 115, 101, 32, 50, 58, 32, 55, 32, 56] by simp [endHead, endTail, endWord, i2, i7, i8]]
    decide +kernel
  refine Ev.ifp e ?_
  refine Ev.bind (right_ev 2 2 [7, 8] 0 (by decide)) ?_
  rw [r1]
  refine Ev.ifp rfl ?_
  refine Ev.bind (agree_ev 3 0 [7] 0 2 2 [7, 8] 0 (by decide) (by decide)) ?_
  rw [show eAgree 3 0 [7] 0 2 2 [7, 8] 0 = true by decide +kernel]
  refine Ev.ifp rfl ?_
  refine Ev.bind (agree_ev 1 0 [7, 8] 0 2 2 [7, 8] 0 (by decide) (by decide)) ?_
  rw [show eAgree 1 0 [7, 8] 0 2 2 [7, 8] 0 = false by decide +kernel]
  exact Ev.now _
theorem int_i64 {H : Type} {x : Int} {y : DataW H} (h : Dint .i64 H x y) : I64 x := by
  have h2 : IntKind.i64.min ≤ x ∧ x ≤ IntKind.i64.max := by simpa [Lit.wf] using h.2
  rw [show IntKind.i64.min = -9223372036854775808 from rfl, show IntKind.i64.max = 9223372036854775807 from rfl] at h2
  exact h2
theorem end_facts {H : Type} {x : S25} {y : DataW H} (h : D25 H x y) : BD x.f2 ∧ I64 x.f1 := by
  obtain ⟨y0, y1, y2, y3, _, _, h1, ⟨_, _, _, _, h2, _⟩, _⟩ := h
  exact ⟨h2, int_i64 h1⟩
end Go.Proofs.YtaijpfooobcdkaaDoor.Q
