/- asm.Show: lines as a text. By wip/gen/asm_show.py. -/
import Derived.Test.YtlhkojnocconfaaDoorQx0
import Derived.Test.YtlhkojnocconfaaDoorQx4
import Derived.Test.YtlhkojnocconfaaDoorAw
import Derived.Test.YtlhkojnocconfaaDoorAwAll
import Derived.Test.YtlhkojnocconfaaDoorHsb
import Derived.Test.YtlhkojnocconfaaDoorLaid
--@needs XAw
--@needs XAwSl
--@needs XAwFrame
--@needs XAwRow
--@needs XHsb
--@needs XLaid
--@uses camlet/asm.line
import Derived.Test.YtlhkojnocconfaaDoorShelf
import Derived.LoopTactic
import Derived.Deep.LoopGhost
import Derived.Lib.Hide
namespace Go.Proofs.YtlhkojnocconfaaDoor.Q
open Go.RowKit Go.Proofs.YtlhkojnocconfaaDoorW.PrintWords Go.Proofs.YtlhkojnocconfaaDoorW.PrintLast Go.Proofs.YtlhkojnocconfaaDoorW.PrintMore
attribute [local go_sem] max2_int min2_int max_two min_two max_three min_three max_four min_four   -- for this text's walks alone
set_option linter.unusedVariables false
set_option linter.unusedSimpArgs false

def asmLineF (x : S36) : Option ByteArray := asm_line.f x.f0 x.f1.f0 x.f1.f1 x.f1.f2 x.f1.f3 x.f1.f4 x.f2
def asmShow : List S36 → Option (List UInt8)
  | [] => some []
  | x :: r => (asmLineF x).bind fun s => (asmShow r).bind fun t => some (s.data.toList ++ 10 :: t)
def asm_Show.f (l0 : List S36) : Option (ByteArray) := (asmShow l0).bind fun b => if b.length ≤ 140737488355328 then some ⟨b.toArray⟩ else none
theorem show_zero (W : World) : (Instr.alloc 36 true (.tuple #[])).run Tryd.prog W = .ok (.pointer (some ⟨W.heap.size, 0, none⟩)) (W.alloc (.cells [.string ⟨#[]⟩, .int .i64 0, .int .i64 0, .int .i64 0, .int .i64 0, .int .i64 0, .string ⟨#[]⟩].toArray 36 (0, 0))) := by kernel_rfl
theorem sbz_zero (W : World) : (Instr.alloc 70 true (.tuple #[])).run Tryd.prog W = .ok (.pointer (some ⟨W.heap.size, 0, none⟩)) (W.alloc (.cells [.pointer none, .slice none 0 0].toArray 70 (0, 0))) := by kernel_rfl
theorem show_take {l : List S36} {k : Nat} (h : k < l.length) : l.drop k = rd_T36 l k :: l.drop (k + 1) := by
  have e : rd_T36 l k = l[k] := by
    unfold rd_T36
    rw [Int.toNat_natCast, List.getD_eq_getElem?_getD, List.getElem?_eq_getElem h]
    rfl
  rw [e]
  exact List.drop_eq_getElem_cons h
section
variable {w W : World} {T e b : Nat} {p v : Value} {bs : List Value} {R Lv : List (Nat × Blk)}
theorem sb_of_aw (hp : p = .pointer none ∨ p = .pointer (some ⟨b, 0, none⟩)) (HA : Aw noS w W ((b, .c T [p, v]) :: R)) (hown : Own e 1 v bs.length bs Lv) (hs : ∀ x ∈ Lv, x ∈ R) : Lib.IsBuilder T e w.heap.size b bs W := by
  have hB : w.heap.size ≤ b := (HA.mine (i := 0) rfl).elim (fun h => h.elim) id
  have key : Lib.BuilderAt T e w.heap.size b p bs W := by
    refine ⟨hB, v, HA.at (i := 0) rfl, hown.rowB HA (fun x hx => List.mem_cons_of_mem _ (hs x hx)), ?_⟩
    intro he
    exact hown.apart HA hs b he rfl
  rcases hp with rfl | rfl
  · exact .inl key
  · exact .inr key
theorem aw_of_sb (h : Lib.BuilderAt T e w.heap.size b p bs W) (hb : Below w.heap.size w W) : ∃ v Lv, Own e 1 v bs.length bs Lv ∧ Aw noS w W ((b, .c T [p, v]) :: Lv) := by
  obtain ⟨hB, v, hbk, hown, hne⟩ := h
  have hK : Kp noS w W := Kp.of_below hb
  have hb0 : (∃ o, W.heap[b]? = some o ∧ (Blk.c T [p, v]).sat o) ∧ (noS b ∨ w.heap.size ≤ b) := ⟨⟨_, hbk, rfl⟩, .inr hB⟩
  obtain ⟨hl, ⟨rfl, hn⟩ | ⟨g, cap, cur, rfl, hg, hh, hc, hm, hs, ht⟩⟩ := hown
  · refine ⟨_, [], ⟨hl, .inl ⟨rfl, hn, rfl⟩⟩, hK, ?_, by simp⟩
    intro x hx
    obtain rfl := List.mem_singleton.1 hx
    exact hb0
  · refine ⟨_, [(g, Blk.r e 1 cap bs)], ⟨hl, .inr ⟨g, cap, rfl, hc, rfl⟩⟩, hK, ?_, ?_⟩
    · intro x hx
      rcases List.mem_cons.1 hx with rfl | hx
      · exact hb0
      · obtain rfl := List.mem_singleton.1 hx
        refine ⟨⟨_, hh, cur, rfl, hs, hm, ?_⟩, .inr hg⟩
        rw [Nat.mul_one] at ht
        exact ht
    · simp only [List.map_cons, List.map_nil, List.nodup_cons, List.mem_singleton, List.not_mem_nil, not_false_iff, List.nodup_nil, and_true]
      intro he
      subst he
      exact hne rfl
end
set_option maxHeartbeats 8000000 in
set_option maxRecDepth 100000 in
theorem asm_Show.calls (A0 : Option Addr) (c0 : Nat) (l0 : List S36) (r : ByteArray) (w : World) (hr0 : Kd.C k36 w A0 l0.length l0) (hc0 : l0.length ≤ c0) (hG : Laid w) (h : asm_Show.f l0 = some r) :
    Calls Tryd.prog 19 #[.slice A0 l0.length c0] w fun e w' => e = .returned (.string r) ∧ Below w.heap.size w w' := by
  have HA := Aw.start noS w
  have HR0 := Aside0.mk hr0
  have HG := Aside0.mk hG
  clear hr0 hG
  unfold asm_Show.f at h
  obtain ⟨b, hb, h⟩ := Option.bind_eq_some_iff.1 h
  by_cases hbl : b.length ≤ 140737488355328
  case neg => rw [if_neg hbl] at h; cases h
  rw [if_pos hbl] at h
  have HRR := Aside0.mk (Option.some.inj h)
  have HSH := Aside0.mk hb
  have hl0 := HR0.out.2.1
  clear h hb
  go_enter Tryd.func19, Tryd.ntmps19
  go_wp2_with (first | ((with_reducible refine gate_dst (N := 3) rfl ?_); refine aw_alloc rfl rfl sbz_zero HA ?_; clear HA; intro sb W_ HA; simp only [Act.put, List.setIfInBounds_toArray, List.set_cons_succ, List.set_cons_zero]))
  go_loopg [8] (l0.length) (fun g i wx => ∃ (k : Nat) (acc suf : List UInt8) (p v : Value) (Lv : List (Nat × Blk)), k + g = l0.length ∧ i = .int .i64 k ∧ Aside0 (asmShow (l0.drop k) = some suf ∧ acc ++ suf = b) ∧ (p = .pointer none ∨ p = .pointer (some ⟨sb, 0, none⟩)) ∧ Own 5 1 v (Lib.byteCells acc).length (Lib.byteCells acc) Lv ∧ Aw noS w wx ((sb, .c 70 [p, v]) :: Lv))
  case atStart => exact ⟨0, [], b, .pointer none, .slice none 0 0, [], by omega, rfl, ⟨by simpa using HSH.out, rfl⟩, .inl rfl, Own.nil _ _, HA⟩
  case round =>
    clear HA
    obtain ⟨k, acc, suf, p, v, Lv, hk, rfl, HS, hp, hown, HA⟩ := hrel
    by_cases hlt : k < l0.length
    · have hdk := show_take hlt
      obtain ⟨ad, e, x0, x1, x2, x3, x4, x5, x6⟩ := at_T36 (HA.1.reads HR0.out) (k : Int) (by omega) (by omega)
      subst e
      simp only [Int.toNat_natCast] at x0 x1 x2 x3 x4 x5 x6
      have hs1 := HS.out.1
      rw [hdk, asmShow] at hs1
      obtain ⟨x, hx⟩ : ∃ x, rd_T36 l0 k = x := ⟨_, rfl⟩
      rw [hx] at x0 x1 x2 x3 x4 x5 x6 hs1
      clear hx hdk
      obtain ⟨f0, ⟨o0, o1, o2, o3, o4⟩, f2⟩ := x
      dsimp only at x0 x1 x2 x3 x4 x5 x6
      obtain ⟨s, hline0, hs1⟩ := Option.bind_eq_some_iff.1 hs1
      have hline : asm_line.f f0 o0 o1 o2 o3 o4 f2 = some s := hline0
      clear hline0
      obtain ⟨t, ht, hs1⟩ := Option.bind_eq_some_iff.1 hs1
      have hsuf := (Option.some.inj hs1).symm
      have HT : Aside0 (asmShow (l0.drop (k + 1)) = some t ∧ (acc ++ (s.data.toList ++ [10])) ++ t = b) := ⟨ht, by rw [← HS.out.2, hsuf]; simp⟩
      have hbnd : acc.length + (s.size + 1) ≤ 140737488355328 := by
        have h9 := congrArg List.length HT.out.2
        simp only [List.length_append, List.length_cons, List.length_nil, Array.length_toList] at h9
        have h8 : s.data.size = s.size := rfl
        omega
      have hlen : (Lib.byteCells acc).length + (s ++ (⟨#[10]⟩ : ByteArray)).size ≤ 140737488355328 := by
        rw [Lib.byteCells_length, ByteArray.size_append]
        exact hbnd
      have z1 : (9223372036854775807 < s.size + 1) = False := eq_false (by omega)
      have HB : Aside0 (Lib.byteCells acc ++ Lib.strCells (s ++ (⟨#[10]⟩ : ByteArray)) = Lib.byteCells (acc ++ (s.data.toList ++ [10]))) := ⟨by rw [Lib.strCells_eq, Lib.byteCells_append]; simp⟩
      have ck1 : decide ((k : Int) < (l0.length : Int)) = true := decide_eq_true (by omega)
      have ck2 : decide (k < l0.length) = true := decide_eq_true hlt
      have ck3 : 0 ≤ (k : Int) := by omega
      clear hs1 ht hsuf HS hbnd
      go_wp2_with (first | ((with_reducible refine gate_dst (N := 5) rfl ?_); refine aw_alloc rfl rfl show_zero HA ?_; clear HA; intro bx W_ HA; simp only [Act.put, List.setIfInBounds_toArray, List.set_cons_succ, List.set_cons_zero]) | (go_at_call 32; refine (asm_line.calls f0 o0 o1 o2 o3 o4 f2 s _ (HG.out.mono HA.below) hline).mono ?_; rintro e W_ ⟨rfl, hb_⟩; replace HA := HA.call hb_; clear hb_) | (go_at_call 31; have hsb := sb_of_aw (T := 70) (e := 5) (b := sb) (R := Lv) hp (HA.sub (List.sublist_cons_self _ _)) hown (fun x hx => hx); have hq := sb_write w.heap.size sb (Lib.byteCells acc) (s ++ ⟨#[10]⟩) _ hsb hlen HA.1.size; refine hq.mono ?_; clear hq hsb; rintro e W_ ⟨rfl, hat_, hbl_⟩; obtain ⟨v2, Lv2, hown2, HA2⟩ := aw_of_sb hat_ (HA.below.trans hbl_); clear HA hat_ hbl_; have HA := HA2; clear HA2) | ((with_reducible refine gate_ld rfl ?_); (refine aw_loadW 0 (t := 36) rfl rfl HA rfl rfl ?_ ?_); kernel_rfl; simp only [Act.put, List.setIfInBounds_toArray, List.set_cons_succ, List.set_cons_zero]) | ((with_reducible refine gate_st rfl ?_); (refine aw_storeW 0 (t := 36) rfl rfl rfl rfl HA rfl rfl rfl ?_ rfl ?_); kernel_rfl; clear HA; intro W_ HA; dsimp only [List.set, List.take, List.cons_append, List.nil_append] at HA))
      rw [HB.out] at hown2
      go_roundg (l0.length - (k + 1))
      case measure => omega
      case rel => exact ⟨k + 1, acc ++ (s.data.toList ++ [10]), t, _, v2, Lv2, by omega, by go_num, HT, .inr rfl, hown2, HA⟩
    · have ck1 : decide ((k : Int) < (l0.length : Int)) = false := decide_eq_false (by omega)
      have ck2 : decide (k < l0.length) = false := decide_eq_false hlt
      have hacc : acc = b := by
        have h1 := HS.out
        rw [List.drop_eq_nil_of_le (by omega), asmShow] at h1
        obtain ⟨h2, h3⟩ := h1
        rw [← Option.some.inj h2] at h3
        simpa using h3
      clear hlt hk HS
      go_wp2_with (first | (go_at_call 33; have hsb := sb_of_aw (T := 70) (e := 5) (b := sb) (R := Lv) hp HA hown (fun x hx => hx); have hq := Tryd.Builder_String_any w.heap.size sb acc _ hsb HA.1.size; refine hq.mono ?_; clear hq hsb; rintro e W_ ⟨rfl, hbl_⟩; have hbl := HA.below.trans hbl_; clear hbl_) | ((with_reducible refine gate_ld rfl ?_); (refine aw_loadW 0 (t := 36) rfl rfl HA rfl rfl ?_ ?_); kernel_rfl; simp only [Act.put, List.setIfInBounds_toArray, List.set_cons_succ, List.set_cons_zero]) | ((with_reducible refine gate_st rfl ?_); (refine aw_storeW 0 (t := 36) rfl rfl rfl rfl HA rfl rfl rfl ?_ rfl ?_); kernel_rfl; clear HA; intro W_ HA; dsimp only [List.set, List.take, List.cons_append, List.nil_append] at HA))
      go_ret
      exact ⟨by rw [← HRR.out]; first | rfl | (congr; done) | simp, hbl⟩
end Go.Proofs.YtlhkojnocconfaaDoor.Q
