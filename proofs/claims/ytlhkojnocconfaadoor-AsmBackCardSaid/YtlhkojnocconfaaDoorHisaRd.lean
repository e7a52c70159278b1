/- Several texts in one: isa.words: a text's words. By wip/gen/isa_words.py. isa.number: the number of a word. By wip/gen/isa_number.py. isa.fill: the instruction of a kind that has those numbers. By wip/gen/isa_fill.py. isa.Read: the instruction of a text. By wip/gen/isa_read.py. -/
import Derived.Test.YtlhkojnocconfaaDoorQx0
import Derived.Test.YtlhkojnocconfaaDoorAw
import Derived.Test.YtlhkojnocconfaaDoorAwAll
import Derived.Test.YtlhkojnocconfaaDoorHisaThings
import Derived.Test.YtlhkojnocconfaaDoorIsaRp
import Derived.LoopTactic
import Derived.Lib.Hide
import Derived.Test.YtlhkojnocconfaaDoorHnumRead
import Derived.Test.YtlhkojnocconfaaDoorLaid
import Derived.Deep.QuietTactic
import Derived.BigQuiet
import Derived.IntWalk
import Derived.Test.YtlhkojnocconfaaDoorHisaOf
import Derived.Test.YtlhkojnocconfaaDoorHisaReg
import Derived.Test.YtlhkojnocconfaaDoorHisaRight
import Derived.Test.YtlhkojnocconfaaDoorHisaTake
import Derived.StillTailTactics
import Derived.Test.YtlhkojnocconfaaDoorHisaForms
import Derived.Test.YtlhkojnocconfaaDoorHisaShow
import Derived.Deep.LoopGhost
import Derived.Deep.RegionLaw
--@needs XIsaReadM
--@needs XAwRs
--@needs XHisaThings
namespace Go.Proofs.YtlhkojnocconfaaDoor.Q
open Go.RowKit Go.Proofs.YtlhkojnocconfaaDoorW.PrintWords Go.Proofs.YtlhkojnocconfaaDoorW.PrintLast Go.Proofs.YtlhkojnocconfaaDoorW.PrintMore
attribute [local go_sem] max2_int min2_int max_two min_two max_three min_three max_four min_four   -- for this text's walks alone
set_option linter.unusedVariables false
set_option linter.unusedSimpArgs false

def asciiL (l : List UInt8) : Prop := ∀ c ∈ l, c.toNat < 128
theorem strT_info : (Tryd.prog.info? 9).map (fun i => (i.zero, i.size, i.bytes)) = some (some (.string ⟨#[]⟩), 1, 16) := by kernel_rfl
theorem i32_conv (W : World) (n : Int) : (convert 21 9 (.int .i32 n)).run Tryd.prog W = .ok (.string (Utf8.encode n)) W := run_convert_int_string W _ _ _ n (by kernel_rfl) (by kernel_rfl)
def WordsOf (s : ByteArray) (ws : List ByteArray) : Prop := ws ≠ [] ∧ (asciiL s.data.toList → ws.map (·.data.toList) = splitSp [] s.data.toList) ∧ ws.length ≤ 61 ∧ ∀ x ∈ ws, x.size ≤ 300
def WordsPost (w : World) (s : ByteArray) (e : Ending) (w' : World) : Prop := ∃ (v : Value) (ws : List ByteArray) (Lv : List (Nat × Blk)), e = .returned v ∧ WordsOf s ws ∧ Own 9 1 v ws.length (ws.map Value.string) Lv ∧ Aw noS w w' Lv
def WordsInv (s : ByteArray) (pos : Nat) (ds : List ByteArray) (cur : ByteArray) : Prop := (asciiL s.data.toList → splitSp [] s.data.toList = ds.map (·.data.toList) ++ splitSp cur.data.toList (s.data.toList.drop pos)) ∧ ds.length ≤ min pos 60 ∧ cur.size ≤ 4 * min pos 60 ∧ ∀ x ∈ ds, x.size ≤ 4 * min pos 60
theorem WordsInv.start (s : ByteArray) : WordsInv s 0 [] ⟨#[]⟩ := ⟨fun _ => by simp, by simp, Nat.zero_le _, by simp⟩
theorem drop_at {s : ByteArray} {pos : Nat} (h : pos < s.size) : s.data.toList.drop pos = s[pos] :: s.data.toList.drop (pos + 1) := by
  have hl : pos < s.data.toList.length := by rw [Array.length_toList]; exact h
  rw [List.drop_eq_getElem_cons hl]
  rfl
theorem at_mem {s : ByteArray} {pos : Nat} (h : pos < s.size) : s[pos] ∈ s.data.toList := by
  have hl : pos < s.data.toList.length := by rw [Array.length_toList]; exact h
  have : s[pos] = s.data.toList[pos] := rfl
  rw [this]
  exact List.getElem_mem hl
theorem WordsInv.blank {s : ByteArray} {pos q n : Nat} {ds : List ByteArray} {cur : ByteArray} (h : WordsInv s pos ds cur) (hp : pos < s.size) (hs : s.size ≤ 60) (hn : n = 32) (hq : 1 ≤ q) (ha : (s[pos]'hp).toNat < 128 → n = (s[pos]'hp).toNat ∧ q = 1) (hh : 128 ≤ (s[pos]'hp).toNat → 128 ≤ n) : WordsInv s (pos + q) (ds ++ [cur]) ⟨#[]⟩ := by
  obtain ⟨h1, h2, h3, h4⟩ := h
  have hm : min pos 60 + 1 ≤ min (pos + q) 60 := by omega
  refine ⟨fun hA => ?_, by simp; omega, Nat.zero_le _, fun x hx => ?_⟩
  · have hc := hA _ (at_mem hp)
    obtain ⟨e1, rfl⟩ := ha hc
    have e2 : s[pos] = 32 := UInt8.toNat.inj (e1.symm.trans hn)
    rw [h1 hA, drop_at hp, splitSp, if_pos e2]
    simp
  · rcases List.mem_append.1 hx with hx | hx
    · have := h4 x hx; omega
    · obtain rfl := List.mem_singleton.1 hx; omega
theorem WordsInv.more {s : ByteArray} {pos q n : Nat} {ds : List ByteArray} {cur : ByteArray} (h : WordsInv s pos ds cur) (hp : pos < s.size) (hs : s.size ≤ 60) (hn : ¬ n = 32) (hq : 1 ≤ q) (ha : (s[pos]'hp).toNat < 128 → n = (s[pos]'hp).toNat ∧ q = 1) : WordsInv s (pos + q) ds (cur ++ Utf8.encode (n : Int)) := by
  obtain ⟨h1, h2, h3, h4⟩ := h
  have hm : min pos 60 + 1 ≤ min (pos + q) 60 := by omega
  have he := encode_size (n : Int)
  refine ⟨fun hA => ?_, by omega, by rw [ByteArray.size_append]; omega, fun x hx => by have := h4 x hx; omega⟩
  have hc := hA _ (at_mem hp)
  obtain ⟨e1, rfl⟩ := ha hc
  have e2 : ¬ (s[pos]'hp) = 32 := fun e => hn (by have := congrArg UInt8.toNat e; rw [e1, this]; rfl)
  have e3 : (cur ++ Utf8.encode (n : Int)).data.toList = cur.data.toList ++ [s[pos]'hp] := by rw [e1, encode_ascii _ hc]; simp [ByteArray.data_append]
  rw [h1 hA, drop_at hp, splitSp, if_neg e2, e3]
theorem WordsInv.done {s : ByteArray} {pos : Nat} {ds : List ByteArray} {cur : ByteArray} (h : WordsInv s pos ds cur) (hp : ¬ pos < s.size) : WordsOf s (ds ++ [cur]) := by
  obtain ⟨h1, h2, h3, h4⟩ := h
  refine ⟨by simp, fun hA => ?_, by simp; omega, fun x hx => ?_⟩
  · have hd : s.data.toList.drop pos = [] := List.drop_eq_nil_of_le (by rw [Array.length_toList]; exact Nat.le_of_not_lt hp)
    rw [h1 hA, hd, splitSp]
    simp
  · rcases List.mem_append.1 hx with hx | hx
    · have := h4 x hx; omega
    · obtain rfl := List.mem_singleton.1 hx; omega
set_option maxHeartbeats 4000000 in
set_option maxRecDepth 100000 in
theorem isa_words.calls (s : ByteArray) (hs : s.size ≤ 60) (w : World) : Calls Tryd.prog 55 #[.string s] w (WordsPost w s) := by
  have HA := Aw.start noS w
  go_enter Tryd.func55, Tryd.ntmps55
  go_wp2_with (first | ((with_reducible refine gate_dst (N := 6) rfl ?_); refine aw_newv (fun g => .slice (some ⟨g, 0, none⟩) 1 1) 9 [.string ⟨#[]⟩] rfl (fun W => by kernel_rfl) HA ?_; clear HA; intro gn W_ HA; simp only [Act.put, List.setIfInBounds_toArray, List.set_cons_succ, List.set_cons_zero]) | ((with_reducible refine gate_dst (N := 8) rfl ?_); refine aw_range rfl rfl rfl ?_ HA ?_; kernel_rfl; clear HA; intro gi W_ HA; simp only [Act.put, List.setIfInBounds_toArray, List.set_cons_succ, List.set_cons_zero]))
  have HB := Aw.litLast (L := [(gi, .i s 0)]) (size := 1) (n := 1) (HA.perm (List.Perm.swap _ _ _)) rfl (by decide)
  clear HA
  go_loopw [3] (fun out wr => ∃ (pos : Nat) (ds : List ByteArray) (cur : ByteArray) (Lv : List (Nat × Blk)), Own 9 1 out (ds.length + 1) ((ds ++ [cur]).map Value.string) Lv ∧ Aside0 (WordsInv s pos ds cur) ∧ Aw noS w wr ((gi, .i s pos) :: Lv)) (fun _ wr => s.size - wr.iterPos gi)
  case atStart => exact ⟨0, [], ⟨#[]⟩, _, Own.full (by simp), ⟨WordsInv.start s⟩, HB⟩
  case round =>
    clear HB
    obtain ⟨pos, ds, cur, Lv, hown, HI, HA⟩ := hrel
    have Hip := Lib.hid (HA.pos (i := 0) rfl)
    by_cases hp : pos < s.size
    · obtain ⟨n, q, hn, hq, ha, hh, hn1⟩ := rune_at s pos hp
      have HN := Aside0.mk hn
      have Ha := Aside0.mk ha
      have Hh := Aside0.mk hh
      have Hds := HI.out.2.1
      have Hcu := HI.out.2.2.1
      clear hn ha hh
      by_cases h32 : n = 32
      · have H32 := Aside0.mk h32
        have c32 : ((n : Int) == 32) = true := beq_iff_eq.mpr (by omega)
        clear h32
        go_wp2_with (first | ((with_reducible refine gate_dst (N := 15) rfl ?_); refine aw_newv (fun g => .slice (some ⟨g, 0, none⟩) 1 1) 9 [.string ⟨#[]⟩] rfl (fun W => by kernel_rfl) HA ?_; clear HA; intro gn W_ HA; simp only [Act.put, List.setIfInBounds_toArray, List.set_cons_succ, List.set_cons_zero]) | ((with_reducible refine gate_dst (N := 16) rfl ?_); refine aw_append 2 0 rfl Tryd.underlying80 strT_info rfl (Nat.le_refl 1) rfl hown rfl rfl HA rfl rfl rfl rfl ?_ ?_ ?_; (unfold maxLen; omega); (omega); clear HA; intro v_ W_ Lv_ hown_ HA; dsimp only [List.set, List.take, List.cons_append, List.nil_append] at HA; simp only [Act.put, List.setIfInBounds_toArray, List.set_cons_succ, List.set_cons_zero]) | ((with_reducible refine gate_nx rfl ?_); (refine aw_next_any 0 rfl rfl rfl HA rfl hp HN.out ?_); clear HA; intro W_ HA; dsimp only [List.set, List.take, List.cons_append, List.nil_append] at HA; simp only [Act.put, List.setIfInBounds_toArray, List.set_cons_succ, List.set_cons_zero]))
        go_roundw
        case rel => exact ⟨pos + q, ds ++ [cur], ⟨#[]⟩, _, by simpa using hown_, ⟨HI.out.blank hp hs H32.out hq Ha.out Hh.out⟩, HA.sub (by simp)⟩
        case measure => rw [HA.pos (i := 1) rfl, Hip.out]; omega
      · have H32 := Aside0.mk h32
        have c32 : ((n : Int) == 32) = false := beq_eq_false_iff_ne.mpr (by omega)
        clear h32
        have hes := encode_size (n : Int)
        obtain ⟨en, hen⟩ : ∃ en, Utf8.encode (n : Int) = en := ⟨_, rfl⟩
        have hcv : ∀ W : World, (convert 21 9 (.int .i32 (n : Int))).run Tryd.prog W = .ok (.string en) W := fun W => by rw [i32_conv, hen]
        rw [hen] at hes
        have HE := Aside0.mk hen
        clear hen
        obtain ⟨hl, ⟨_, hbad, _⟩ | ⟨g, cap, rfl, hcap, rfl⟩⟩ := hown
        · omega
        have hds : ds.length ≤ 60 := by omega
        have hcs : cur.size ≤ 240 := by omega
        have hcu : ((ds ++ [cur]).map Value.string)[ds.length]? = some (.string cur) := by simp
        have hju : decide (ds.length < ((ds ++ [cur]).map Value.string).length) = true := by simp
        have hset : ((ds ++ [cur]).map Value.string).set ds.length (.string (cur ++ en)) = (ds ++ [cur ++ en]).map Value.string := by simp
        have HS := Aside0.mk hset
        have HL := Aside0.mk hl
        clear hset hl
        generalize (ds ++ [cur]).map Value.string = xs at *
        go_wp2_with (first | ((with_reducible refine gate_ld rfl ?_); (refine aw_loadR 1 rfl rfl HA rfl hcu rfl ?_ ?_); kernel_rfl; simp only [Act.put, List.setIfInBounds_toArray, List.set_cons_succ, List.set_cons_zero]) | ((with_reducible refine gate_st rfl ?_); (refine aw_storeR 1 (v := .string _) rfl rfl rfl rfl rfl HA rfl rfl hju ?_ ?_); kernel_rfl; clear HA; intro W_ HA; dsimp only [List.set, List.take, List.cons_append, List.nil_append] at HA) | ((with_reducible refine gate_nx rfl ?_); (refine aw_next_any 0 rfl rfl rfl HA rfl hp HN.out ?_); clear HA; intro W_ HA; dsimp only [List.set, List.take, List.cons_append, List.nil_append] at HA; simp only [Act.put, List.setIfInBounds_toArray, List.set_cons_succ, List.set_cons_zero]))
        go_roundw
        case rel => exact ⟨pos + q, ds, cur ++ en, [(g, Blk.r 9 1 cap ((ds ++ [cur ++ en]).map Value.string))], ⟨by simp, .inr ⟨g, cap, rfl, hcap, rfl⟩⟩, ⟨by rw [← HE.out]; exact HI.out.more hp hs H32.out hq Ha.out⟩, by rw [HS.out] at HA; exact HA⟩
        case measure => rw [HA.pos (i := 0) rfl, Hip.out]; omega
    · go_wp2_with (first | ((with_reducible refine gate_nx rfl ?_); (refine aw_next_end 0 rfl rfl rfl HA rfl hp ?_); simp only [Act.put, List.setIfInBounds_toArray, List.set_cons_succ, List.set_cons_zero]))
      go_ret
      exact ⟨_, ds ++ [cur], Lv, rfl, HI.out.done hp, by simpa using hown, HA.sub (by simp)⟩
end Go.Proofs.YtlhkojnocconfaaDoor.Q

--@needs XIsaReadM
--@needs XReadDec
--@needs XLaid
--@needs XAw
namespace Go.Proofs.YtlhkojnocconfaaDoor.Q
open Go.RowKit Go.Proofs.YtlhkojnocconfaaDoorW.PrintWords Go.Proofs.YtlhkojnocconfaaDoorW.PrintLast Go.Proofs.YtlhkojnocconfaaDoorW.PrintMore
attribute [local go_sem] max2_int min2_int max_two min_two max_three min_three max_four min_four   -- for this text's walks alone
set_option linter.unusedVariables false
set_option linter.unusedSimpArgs false

theorem numRead_val (l : List UInt8) (hl : l.length ≤ 1000000) : ∃ n e : Int, num_Read.f ⟨l.toArray⟩ 1048576 = some (n, e) ∧ 0 ≤ n ∧ n ≤ 1048576 ∧ 0 ≤ e ∧ e ≤ 3 := by
  have hz : (⟨l.toArray⟩ : ByteArray).size = l.length := by show l.toArray.size = _; simp
  have hd : (⟨l.toArray⟩ : ByteArray).data.toList = l := by simp
  unfold num_Read.f
  rw [if_pos (by omega), hd]
  by_cases h0 : (⟨l.toArray⟩ : ByteArray).size = 0
  · rw [if_pos h0]; exact ⟨0, 3, rfl, by omega, by omega, by omega, by omega⟩
  rw [if_neg h0]
  by_cases h1 : 1 < (⟨l.toArray⟩ : ByteArray).size ∧ bt (⟨l.toArray⟩ : ByteArray) 0 = 48
  · rw [if_pos h1]; exact ⟨0, 3, rfl, by omega, by omega, by omega, by omega⟩
  rw [if_neg h1]
  by_cases h2 : allDig (⟨l.toArray⟩ : ByteArray)
  · rw [if_pos h2]
    have hdd := dig_data _ h2
    rw [hd] at hdd
    rw [readEnd_dig l (fun e => h0 (by rw [hz, e]; rfl)) hdd 1048576 (by decide)]
    by_cases h3 : (1048576 : Int) < (decVal 0 l : Int)
    · rw [if_pos h3]; exact ⟨0, 2, rfl, by omega, by omega, by omega, by omega⟩
    · rw [if_neg h3]; exact ⟨_, 0, rfl, by omega, by omega, by omega, by omega⟩
  · rw [if_neg h2]; exact ⟨0, 3, rfl, by omega, by omega, by omega, by omega⟩
theorem isaNum_minus (r : List UInt8) {n e : Int} (h : num_Read.f ⟨r.toArray⟩ 1048576 = some (n, e)) : isaNum (45 :: r) = (-n, decide (e = 0)) := by
  show (match num_Read.f ⟨r.toArray⟩ 1048576 with
    | some (n, e) => (-n, decide (e = 0))
    | none => (0, false)) = _
  rw [h]
theorem isaNum_plain {l : List UInt8} (hh : l.head? ≠ some 45) {n e : Int} (h : num_Read.f ⟨l.toArray⟩ 1048576 = some (n, e)) : isaNum l = (n, decide (e = 0)) := by
  unfold isaNum
  split
  · exact absurd rfl hh
  · rw [h]
theorem ba_list (x : ByteArray) : (⟨x.data.toList.toArray⟩ : ByteArray) = x := by cases x; simp
theorem run_cut1 (x : ByteArray) (r : List UInt8) (h : x.data.toList = 45 :: r) (W : World) : (Instr.slice 9 (.string x) (some (.int .i64 1)) none none).run Tryd.prog W = .ok (.string ⟨r.toArray⟩) W := by
  have hl : x.data.toList.length = x.size := by rw [Array.length_toList]; rfl
  have h1 : 1 ≤ x.size := by rw [← hl, h]; simp
  rw [run_slice_string_l W 9 x (by kernel_rfl) .i64 1 (by decide) (by omega)]
  congr 2
  apply ByteArray.ext
  rw [ByteArray.data_extract]
  apply Array.ext'
  rw [Array.toList_extract, h]
  have hr : r.length = x.size - 1 := by rw [← hl, h]; simp
  simp [List.extract, ← hr]
set_option maxHeartbeats 4000000 in
set_option maxRecDepth 100000 in
theorem isa_number.calls (x : ByteArray) (hx : x.size ≤ 1000000) (w : World) (hG : Laid w) : Calls Tryd.prog 56 #[.string x] w fun e w' => e = .returned (.tuple #[.int .i64 (isaNum x.data.toList).1, .bool (isaNum x.data.toList).2]) ∧ Below w.heap.size w w' := by
  have HG := Aside0.mk hG
  have HA := Aw.start noS w
  clear hG
  have hxl : x.data.toList.length = x.size := by rw [Array.length_toList]; rfl
  by_cases h45 : x.data.toList.head? = some 45
  · obtain ⟨r, hr⟩ : ∃ r, x.data.toList = 45 :: r := by
      cases h : x.data.toList with
      | nil => rw [h] at h45; cases h45
      | cons c r => rw [h] at h45; injection h45 with h45; exact ⟨r, by rw [h45]⟩
    have hrl : r.length + 1 = x.size := by rw [← hxl, hr]; rfl
    obtain ⟨n, e, hn, hn0, hn1, he0, he1⟩ := numRead_val r (by omega)
    rw [hr, isaNum_minus r hn]
    have HN := Aside0.mk hn
    have hcut := run_cut1 x r hr
    have hb : ∀ h : 0 < x.size, ((x[0]'h).toNat : Int) = 45 := fun h => by
      have e1 : x[0] = x.data.toList[0]'(by omega) := rfl
      rw [e1]
      simp only [hr]
      rfl
    have q0 : 0 < x.size := by omega
    have q1 := eq_true q0
    have q2 : decide (0 < x.size) = true := decide_eq_true q0
    have q3 : decide (0 < (x.size : Int)) = true := decide_eq_true (by omega)
    clear hn hxl hr hrl h45 q0
    go_enter Tryd.func56, Tryd.ntmps56
    go_wp2
    go_quiet (fail)
    replace HA := HA.drewN nq
    go_wp2_with (go_at_call 68; refine (num_Read.calls ⟨r.toArray⟩ 1048576 n e _ (HG.out.mono HA.below) HN.out).mono ?_; rintro e_ W_ ⟨rfl, hb_⟩; replace HA := HA.call hb_; clear hb_)
    go_ret2
    exact ⟨rfl, HA.below⟩
  · obtain ⟨n, e, hn, hn0, hn1, he0, he1⟩ := numRead_val x.data.toList (by omega)
    rw [isaNum_plain h45 hn]
    rw [ba_list] at hn
    have HN := Aside0.mk hn
    clear hn
    by_cases h0 : 0 < x.size
    · have hb : ∀ h : 0 < x.size, ¬ ((x[0]'h).toNat : Int) = 45 := fun h e => h45 (by
        have e1 : x[0] = x.data.toList[0]'(by omega) := rfl
        rw [e1] at e
        rw [List.head?_eq_getElem?, List.getElem?_eq_getElem (by omega)]
        congr 1
        exact UInt8.toNat.inj (by show _ = 45; omega))
      have q1 := eq_true h0
      have q2 : decide (0 < x.size) = true := decide_eq_true h0
      have q3 : decide (0 < (x.size : Int)) = true := decide_eq_true (by omega)
      have q4 : (((x[0]'h0).toNat : Int) == 45) = false := beq_eq_false_iff_ne.mpr (hb h0)
      clear h45 hb
      go_enter Tryd.func56, Tryd.ntmps56
      go_wp2_with (go_at_call 68; refine (num_Read.calls x 1048576 n e _ (HG.out.mono HA.below) HN.out).mono ?_; rintro e_ W_ ⟨rfl, hb_⟩; replace HA := HA.call hb_; clear hb_)
      go_ret2
      exact ⟨rfl, HA.below⟩
    · have q2 : decide (0 < x.size) = false := decide_eq_false h0
      have q3 : decide (0 < (x.size : Int)) = false := decide_eq_false (by omega)
      clear h45 h0
      go_enter Tryd.func56, Tryd.ntmps56
      go_wp2_with (go_at_call 68; refine (num_Read.calls x 1048576 n e _ (HG.out.mono HA.below) HN.out).mono ?_; rintro e_ W_ ⟨rfl, hb_⟩; replace HA := HA.call hb_; clear hb_)
      go_ret2
      exact ⟨rfl, HA.below⟩
end Go.Proofs.YtlhkojnocconfaaDoor.Q

--@needs XIsaReadM
--@needs XHisaThings
--@needs XHisaTake
--@needs XHisaOf
--@needs XHisaReg
--@needs XAwReg
--@needs XAwFrame
namespace Go.Proofs.YtlhkojnocconfaaDoor.Q
open Go.RowKit Go.Proofs.YtlhkojnocconfaaDoorW.PrintWords Go.Proofs.YtlhkojnocconfaaDoorW.PrintLast Go.Proofs.YtlhkojnocconfaaDoorW.PrintMore
attribute [local go_sem] max2_int min2_int max_two min_two max_three min_three max_four min_four   -- for this text's walks alone
set_option linter.unusedVariables false
set_option linter.unusedSimpArgs false

def FillPost (w : World) (k : Int) (r : Option (Int × Int × Int × Int)) (e : Ending) (w' : World) : Prop :=
  match r with
  | some (D, A, B, N) => e = .returned (.tuple #[.agg #[.int .i64 k, .int .i64 D, .int .i64 A, .int .i64 B, .int .i64 N], .bool true]) ∧ Below w.heap.size w w'
  | none => ∃ K D A B N : Int, e = .returned (.tuple #[.agg #[.int .i64 K, .int .i64 D, .int .i64 A, .int .i64 B, .int .i64 N], .bool false]) ∧ Below w.heap.size w w'
/-- from a place on, registers filled -/
def fillGo (l : List UInt8) (n : List Int) (D A B : Int) : Int × Int × Int := setRegs l n D A B
abbrev opB (k D A B N : Int) : Blk := .c 34 [.int .i64 k, .int .i64 D, .int .i64 A, .int .i64 B, .int .i64 N]
abbrev opZ : Blk := .c 34 [.int .i64 0, .int .i64 0, .int .i64 0, .int .i64 0, .int .i64 0]
set_option maxHeartbeats 8000000 in
set_option maxRecDepth 100000 in
theorem isa_fill.calls (k : Int) (hk : 0 ≤ k ∧ k ≤ 24) (n : List Int) (hn : n.length ≤ 1000) {A0 : Option Addr} {c0 : Nat} (w : World) (hr : Kd.C (Kd.int .i64) w A0 n.length n) (hc : n.length ≤ c0) : Calls Tryd.prog 57 #[.int .i64 k, .slice A0 n.length c0] w (FillPost w k (isaFill k n)) := by
  obtain ⟨ii, hii, _, hiz, _⟩ := info_parts int_info
  have HA := Aw.start noS w
  have HR := Aside0.mk hr
  clear hr
  obtain ⟨P, hP⟩ : ∃ P, FillPost w k (isaFill k n) = P := ⟨_, rfl⟩
  have HP := hP
  rw [hP]
  clear hP
  by_cases h24 : k = 24
  · subst h24
    cases n with
    | nil =>
      replace HP := Aside0.mk HP
      go_enter Tryd.func57, Tryd.ntmps57
      go_wp2_with (first | ((with_reducible refine gate_dst (N := 4) rfl ?_); refine aw_alloc rfl rfl op_zero HA ?_; clear HA; intro g4 W_ HA; simp only [Act.put, List.setIfInBounds_toArray, List.set_cons_succ, List.set_cons_zero]) | ((with_reducible refine gate_dst (N := 6) rfl ?_); refine aw_alloc rfl rfl op_zero HA ?_; clear HA; intro g6 W_ HA; simp only [Act.put, List.setIfInBounds_toArray, List.set_cons_succ, List.set_cons_zero]) | ((with_reducible refine gate_ld rfl ?_); (first | refine aw_loadW 0 (t := 34) rfl rfl HA rfl rfl ?_ ?_ | refine aw_loadW 1 (t := 34) rfl rfl HA rfl rfl ?_ ?_ | refine aw_loadW 2 (t := 34) rfl rfl HA rfl rfl ?_ ?_ | refine aw_loadW 3 (t := 34) rfl rfl HA rfl rfl ?_ ?_); kernel_rfl; simp only [Act.put, List.setIfInBounds_toArray, List.set_cons_succ, List.set_cons_zero]) | ((with_reducible refine gate_st rfl ?_); (first | refine aw_storeW 0 (t := 34) rfl rfl rfl rfl HA rfl rfl rfl ?_ rfl ?_ | refine aw_storeW 1 (t := 34) rfl rfl rfl rfl HA rfl rfl rfl ?_ rfl ?_ | refine aw_storeW 2 (t := 34) rfl rfl rfl rfl HA rfl rfl rfl ?_ rfl ?_); kernel_rfl; clear HA; intro W_ HA; dsimp only [List.set, List.take, List.cons_append, List.nil_append] at HA))
      rw [← HP.out]
      exact bodyPost_ret (results_aw2 (i := 1) (v := .bool false) rfl _ HA rfl rfl rfl (by kernel_rfl)) rfl ⟨_, _, _, _, _, rfl, HA.below⟩
    | cons x r =>
      rw [show isaFill 24 (x :: r) = isaFill2 24 x r from rfl] at HP
      replace HP := Aside0.mk HP
      have hlen : r.length ≤ 1000 := by simp at hn; omega
      rw [List.length_cons] at hc
      have c0f : ((r.length : Int) + 1 == 0) = false := beq_eq_false_iff_ne.mpr (by omega)
      obtain ⟨ad, rfl, hcell⟩ := Kd.at_int HR.out 0 (by omega) (by simp)
      go_enter Tryd.func57, Tryd.ntmps57
      go_wp2_with (first | ((with_reducible refine gate_dst (N := 4) rfl ?_); refine aw_alloc rfl rfl op_zero HA ?_; clear HA; intro g4 W_ HA; simp only [Act.put, List.setIfInBounds_toArray, List.set_cons_succ, List.set_cons_zero]) | ((with_reducible refine gate_dst (N := 6) rfl ?_); refine aw_alloc rfl rfl op_zero HA ?_; clear HA; intro g6 W_ HA; simp only [Act.put, List.setIfInBounds_toArray, List.set_cons_succ, List.set_cons_zero]) | ((with_reducible refine gate_ld rfl ?_); (first | refine aw_loadW 0 (t := 34) rfl rfl HA rfl rfl ?_ ?_ | refine aw_loadW 1 (t := 34) rfl rfl HA rfl rfl ?_ ?_ | refine aw_loadW 2 (t := 34) rfl rfl HA rfl rfl ?_ ?_ | refine aw_loadW 3 (t := 34) rfl rfl HA rfl rfl ?_ ?_); kernel_rfl; simp only [Act.put, List.setIfInBounds_toArray, List.set_cons_succ, List.set_cons_zero]) | ((with_reducible refine gate_st rfl ?_); (first | refine aw_storeW 0 (t := 34) rfl rfl rfl rfl HA rfl rfl rfl ?_ rfl ?_ | refine aw_storeW 1 (t := 34) rfl rfl rfl rfl HA rfl rfl rfl ?_ rfl ?_ | refine aw_storeW 2 (t := 34) rfl rfl rfl rfl HA rfl rfl rfl ?_ rfl ?_); kernel_rfl; clear HA; intro W_ HA; dsimp only [List.set, List.take, List.cons_append, List.nil_append] at HA))
      have hcut := cut_from (P := Tryd.prog) 92 3 .i64 Tryd.underlying92 hii 1 hiz (some ad) (x :: r).length c0 1 (by omega) (by simp; omega)
      have hdr := Kd.C_drop (m := 1) HR.out (by simp) (by simpa using hc)
      obtain ⟨A2, hA2⟩ : ∃ A2, (if c0 = (1 : Int).toNat then some ad else (some ad).map (·.add ((1 : Int).toNat * 1))) = A2 := ⟨_, rfl⟩
      rw [hA2] at hcut
      replace hdr : Kd.C (Kd.int .i64) w (if c0 = (1 : Int).toNat then some ad else (some ad).map (·.add ((1 : Int).toNat * 1))) r.length r := hdr
      rw [hA2] at hdr
      have HR2 := Aside0.mk hdr
      replace hcut : ∀ W : World, (Instr.slice 92 (.slice (some ad) (r.length + 1) c0) (some (.int .i64 1)) none none).run Tryd.prog W = .ok (.slice A2 r.length (c0 - 1)) W := hcut
      have e0 : ad.add (0 : Int).toNat = ad := by show ad.add 0 = ad; unfold Addr.add; split <;> simp_all
      rw [e0] at hcell
      have hcell2 : W_.cell? ad = some (.int .i64 x) := (HA.below.cell (World.block_lt_of_cell? _ _ hcell)).trans hcell
      have q1 : decide (0 < r.length + 1) = true := decide_eq_true (by omega)
      clear hcell hdr hA2 e0
      have hlen1 : r.length + 1 ≤ c0 := hc
      have HA2 := HA.setD (i := 0) (j := 4) (.int .i64 x) rfl
      replace HA := HA.drew
      have hs1 := HA.cell (i := 0) (j := 4) rfl rfl
      have hs2 : W_.drew.frozen? ⟨g6, 4, none⟩ = false := HA.free (i := 0) rfl
      have hcell3 : W_.drew.cell? ad = some (.int .i64 x) := hcell2
      go_region
      replace HA2 := HA2.drew
      clear HA hs1 hs2 hcell2 hcell3 hcut
      have HA := HA2
      clear HA2
      dsimp only [List.set] at HA
      generalize (W_.setCell ⟨g6, 4, none⟩ (.int .i64 x)).drew = W_ at *
      have hcap : r.length ≤ c0 - 1 := by omega
      clear hn hc c0f q1 hlen1
      clear HR
      generalize HFM : isaOf 24 x = fm at HP
      obtain ⟨nm, rg, lo, hi⟩ := fm
      have hO := isa_of.calls 24 0 0 0 x
      rw [HFM] at hO
      dsimp only at hO
      have hfld1 : ∀ W, (Instr.field 54 (.agg #[.string nm, .string rg, .int .i64 lo, .int .i64 hi]) 1).run Tryd.prog W = .ok (.string rg) W := fun W => by kernel_rfl
      obtain ⟨hok, hsz⟩ := (show rg.data.toList.all regOk = true ∧ rg.size ≤ 3 from by have := of_regs 24 x; rw [HFM] at this; exact this)
      have HOK := Aside0.mk hok
      have hrl : rg.data.toList.length = rg.size := by rw [Array.length_toList]; rfl
      have hf2 : isaFill2 24 x r = if r.length < rg.size then none else some ((setRegs rg.data.toList r 0 0 0).1, (setRegs rg.data.toList r 0 0 0).2.1, (setRegs rg.data.toList r 0 0 0).2.2, if (r.drop rg.size).length = 1 ∧ (24 : Int) ≠ 24 then r.getD rg.size 0 else x) := by unfold isaFill2; rw [HFM]; dsimp only; rw [hrl]
      rw [hf2] at HP
      clear hf2 hok HFM hrl
      by_cases hsh : r.length < rg.size
      · rw [if_pos hsh] at HP
        have s1 : decide (r.length < rg.size) = true := decide_eq_true hsh
        have s2 : decide ((r.length : Int) < (rg.size : Int)) = true := decide_eq_true (by omega)
        go_wp2_with (first | (go_at_call 25; refine (hO _).mono ?_; rintro e W_ ⟨rfl, hb_⟩; replace HA := HA.call hb_; clear hb_) | ((with_reducible refine gate_dst (N := 7) rfl ?_); refine aw_alloc rfl rfl form_zero HA ?_; clear HA; intro g7 W_ HA; simp only [Act.put, List.setIfInBounds_toArray, List.set_cons_succ, List.set_cons_zero]) | ((with_reducible refine gate_dst (N := 36) rfl ?_); refine aw_range rfl rfl rfl ?_ HA ?_; kernel_rfl; clear HA; intro gi W_ HA; simp only [Act.put, List.setIfInBounds_toArray, List.set_cons_succ, List.set_cons_zero]) | ((with_reducible refine gate_ld rfl ?_); (first | refine aw_loadW 0 (t := 34) rfl rfl HA rfl rfl ?_ ?_ | refine aw_loadW 1 (t := 34) rfl rfl HA rfl rfl ?_ ?_ | refine aw_loadW 2 (t := 34) rfl rfl HA rfl rfl ?_ ?_ | refine aw_load 0 rfl rfl HA rfl rfl rfl ?_ ?_ | refine aw_load 1 rfl rfl HA rfl rfl rfl ?_ ?_ | refine aw_load 2 rfl rfl HA rfl rfl rfl ?_ ?_); kernel_rfl; simp only [Act.put, List.setIfInBounds_toArray, List.set_cons_succ, List.set_cons_zero]) | ((with_reducible refine gate_st rfl ?_); (first | refine aw_storeW 0 (t := 54) rfl rfl rfl rfl HA rfl rfl rfl ?_ rfl ?_ | refine aw_storeW 0 (t := 34) rfl rfl rfl rfl HA rfl rfl rfl ?_ rfl ?_ | refine aw_storeW 1 (t := 34) rfl rfl rfl rfl HA rfl rfl rfl ?_ rfl ?_ | refine aw_storeW 2 (t := 34) rfl rfl rfl rfl HA rfl rfl rfl ?_ rfl ?_); kernel_rfl; clear HA; intro W_ HA; dsimp only [List.set, List.take, List.cons_append, List.nil_append] at HA))
        rw [← HP.out]
        exact bodyPost_ret (results_aw2 (i := 2) (v := .bool false) rfl _ HA rfl rfl rfl (by kernel_rfl)) rfl ⟨_, _, _, _, _, rfl, HA.below⟩
      rw [if_neg hsh] at HP
      have s1 : decide (r.length < rg.size) = false := decide_eq_false hsh
      have s2 : decide ((r.length : Int) < (rg.size : Int)) = false := decide_eq_false (by omega)
      go_wp2_with (first | (go_at_call 25; refine (hO _).mono ?_; rintro e W_ ⟨rfl, hb_⟩; replace HA := HA.call hb_; clear hb_) | ((with_reducible refine gate_dst (N := 7) rfl ?_); refine aw_alloc rfl rfl form_zero HA ?_; clear HA; intro g7 W_ HA; simp only [Act.put, List.setIfInBounds_toArray, List.set_cons_succ, List.set_cons_zero]) | ((with_reducible refine gate_dst (N := 36) rfl ?_); refine aw_range rfl rfl rfl ?_ HA ?_; kernel_rfl; clear HA; intro gi W_ HA; simp only [Act.put, List.setIfInBounds_toArray, List.set_cons_succ, List.set_cons_zero]) | ((with_reducible refine gate_ld rfl ?_); (first | refine aw_loadW 0 (t := 34) rfl rfl HA rfl rfl ?_ ?_ | refine aw_loadW 1 (t := 34) rfl rfl HA rfl rfl ?_ ?_ | refine aw_loadW 2 (t := 34) rfl rfl HA rfl rfl ?_ ?_ | refine aw_load 0 rfl rfl HA rfl rfl rfl ?_ ?_ | refine aw_load 1 rfl rfl HA rfl rfl rfl ?_ ?_ | refine aw_load 2 rfl rfl HA rfl rfl rfl ?_ ?_); kernel_rfl; simp only [Act.put, List.setIfInBounds_toArray, List.set_cons_succ, List.set_cons_zero]) | ((with_reducible refine gate_st rfl ?_); (first | refine aw_storeW 0 (t := 54) rfl rfl rfl rfl HA rfl rfl rfl ?_ rfl ?_ | refine aw_storeW 0 (t := 34) rfl rfl rfl rfl HA rfl rfl rfl ?_ rfl ?_ | refine aw_storeW 1 (t := 34) rfl rfl rfl rfl HA rfl rfl rfl ?_ rfl ?_ | refine aw_storeW 2 (t := 34) rfl rfl rfl rfl HA rfl rfl rfl ?_ rfl ?_); kernel_rfl; clear HA; intro W_ HA; dsimp only [List.set, List.take, List.cons_append, List.nil_append] at HA))
      clear hO hfld1
      go_loopw [] (fun wr => ∃ (pos : Nat) (D A B : Int), pos ≤ rg.size ∧ Aside0 (setRegs (rg.data.toList.drop pos) (r.drop pos) D A B = setRegs rg.data.toList r 0 0 0) ∧ Aw noS w wr [(gi, .i rg pos), (g7, .c 54 [.string nm, .string rg, .int .i64 lo, .int .i64 hi]), (g6, opB 24 D A B x), (g4, opZ)]) (fun wr => rg.size - wr.iterPos gi)
      case atStart => exact ⟨0, 0, 0, 0, Nat.zero_le _, ⟨rfl⟩, HA⟩
      case round =>
        clear HA
        obtain ⟨pos, D, A, B, hpos, HS, HA⟩ := hrel
        have Hip := Lib.hid (HA.pos (i := 0) rfl)
        obtain ⟨l, hdr⟩ : ∃ l, rg.data.toList.drop pos = l := ⟨_, rfl⟩
        cases l with
        | nil =>
          have hend := at_end hdr
          have hpe : pos = rg.size := by omega
          have hset := HS.out
          rw [hdr] at hset
          rw [show setRegs [] (r.drop pos) D A B = (D, A, B) from by cases r.drop pos <;> rfl] at hset
          rw [← hset] at HP
          dsimp only at HP
          clear hset hdr HS
          subst hpe
          have hcut3 := cut_from (P := Tryd.prog) 92 3 .i64 Tryd.underlying92 hii 1 hiz A2 r.length (c0 - 1) (rg.size : Int) (by omega) (by omega)
          have hd3 := Kd.C_drop (m := rg.size) HR2.out (by omega) hcap
          obtain ⟨A3, hA3⟩ : ∃ A3, (if (c0 - 1) = rg.size then A2 else A2.map (·.add (rg.size * 1))) = A3 := ⟨_, rfl⟩
          rw [Int.toNat_natCast, hA3] at hcut3
          replace hd3 : Kd.C (Kd.int .i64) w (if (c0 - 1) = rg.size then A2 else A2.map (·.add (rg.size * 1))) (r.drop rg.size).length (r.drop rg.size) := hd3
          rw [hA3] at hd3
          have HD3 := Aside0.mk hd3
          have hdl : (r.drop rg.size).length = r.length - rg.size := by simp
          rw [hdl] at HP
          clear hd3 hA3
          by_cases h1 : r.length - rg.size = 1
          · have hg0 : (r.drop rg.size).getD 0 0 = r.getD rg.size 0 := by simp [List.getD_eq_getElem?_getD]
            obtain ⟨ad3, rfl, hcell3⟩ := Kd.at_int HD3.out 0 (by omega) (by omega)
            have hrd3 : rd (r.drop rg.size) 0 = r.getD rg.size 0 := hg0
            rw [hrd3] at hcell3
            have e03 : ad3.add (0 : Int).toNat = ad3 := by show ad3.add 0 = ad3; unfold Addr.add; split <;> simp_all
            rw [e03] at hcell3
            rw [h1] at hcut3 HP
            generalize r.getD rg.size 0 = N2 at *
            clear hrd3 hg0 e03 hdl
            rw [if_neg (fun h => h.2 rfl)] at HP
            go_wp2_with (first | ((with_reducible refine gate_ld rfl ?_); (first | refine aw_loadW 0 (t := 34) rfl rfl HA rfl rfl ?_ ?_ | refine aw_loadW 1 (t := 34) rfl rfl HA rfl rfl ?_ ?_ | refine aw_loadW 2 (t := 34) rfl rfl HA rfl rfl ?_ ?_ | refine aw_loadW 3 (t := 34) rfl rfl HA rfl rfl ?_ ?_ | refine aw_load 0 rfl rfl HA rfl rfl rfl ?_ ?_ | refine aw_load 1 rfl rfl HA rfl rfl rfl ?_ ?_ | refine aw_load 2 rfl rfl HA rfl rfl rfl ?_ ?_ | refine aw_load 3 rfl rfl HA rfl rfl rfl ?_ ?_); kernel_rfl; simp only [Act.put, List.setIfInBounds_toArray, List.set_cons_succ, List.set_cons_zero]) | ((with_reducible refine gate_st rfl ?_); (first | refine aw_storeW 0 (t := 34) rfl rfl rfl rfl HA rfl rfl rfl ?_ rfl ?_ | refine aw_storeW 1 (t := 34) rfl rfl rfl rfl HA rfl rfl rfl ?_ rfl ?_ | refine aw_storeW 2 (t := 34) rfl rfl rfl rfl HA rfl rfl rfl ?_ rfl ?_ | refine aw_storeW 3 (t := 34) rfl rfl rfl rfl HA rfl rfl rfl ?_ rfl ?_); kernel_rfl; clear HA; intro W_ HA; dsimp only [List.set, List.take, List.cons_append, List.nil_append] at HA) | ((with_reducible refine gate_nx rfl ?_); (refine aw_next_end 0 rfl rfl rfl HA rfl hend ?_); simp only [Act.put, List.setIfInBounds_toArray, List.set_cons_succ, List.set_cons_zero]))
            rw [← HP.out]
            exact bodyPost_ret (results_aw2 (i := 3) (v := .bool true) rfl _ HA rfl rfl rfl (by kernel_rfl)) rfl ⟨rfl, HA.below⟩
          · have r1 : decide (r.length - rg.size = 1) = false := decide_eq_false h1
            have r2 : (((r.length - rg.size : Nat) : Int) == 1) = false := beq_eq_false_iff_ne.mpr (by omega)
            rw [if_neg (fun h => h1 h.1)] at HP
            generalize r.length - rg.size = rl at *
            clear hdl
            go_wp2_with (first | ((with_reducible refine gate_ld rfl ?_); (first | refine aw_loadW 0 (t := 34) rfl rfl HA rfl rfl ?_ ?_ | refine aw_loadW 1 (t := 34) rfl rfl HA rfl rfl ?_ ?_ | refine aw_loadW 2 (t := 34) rfl rfl HA rfl rfl ?_ ?_ | refine aw_loadW 3 (t := 34) rfl rfl HA rfl rfl ?_ ?_ | refine aw_load 0 rfl rfl HA rfl rfl rfl ?_ ?_ | refine aw_load 1 rfl rfl HA rfl rfl rfl ?_ ?_ | refine aw_load 2 rfl rfl HA rfl rfl rfl ?_ ?_ | refine aw_load 3 rfl rfl HA rfl rfl rfl ?_ ?_); kernel_rfl; simp only [Act.put, List.setIfInBounds_toArray, List.set_cons_succ, List.set_cons_zero]) | ((with_reducible refine gate_st rfl ?_); (first | refine aw_storeW 0 (t := 34) rfl rfl rfl rfl HA rfl rfl rfl ?_ rfl ?_ | refine aw_storeW 1 (t := 34) rfl rfl rfl rfl HA rfl rfl rfl ?_ rfl ?_ | refine aw_storeW 2 (t := 34) rfl rfl rfl rfl HA rfl rfl rfl ?_ rfl ?_ | refine aw_storeW 3 (t := 34) rfl rfl rfl rfl HA rfl rfl rfl ?_ rfl ?_); kernel_rfl; clear HA; intro W_ HA; dsimp only [List.set, List.take, List.cons_append, List.nil_append] at HA) | ((with_reducible refine gate_nx rfl ?_); (refine aw_next_end 0 rfl rfl rfl HA rfl hend ?_); simp only [Act.put, List.setIfInBounds_toArray, List.set_cons_succ, List.set_cons_zero]))
            rw [← HP.out]
            exact bodyPost_ret (results_aw2 (i := 3) (v := .bool true) rfl _ HA rfl rfl rfl (by kernel_rfl)) rfl ⟨rfl, HA.below⟩
        | cons c rs =>
          obtain ⟨hp, hch, hrs⟩ := at_drop hdr
          have hcm : regOk c = true := List.all_eq_true.1 HOK.out c (List.mem_of_mem_drop (hdr ▸ List.mem_cons_self))
          obtain ⟨ad4, rfl, hcell4⟩ := Kd.at_int HR2.out (pos : Int) (by omega) (by omega)
          rw [Int.toNat_natCast] at hcell4
          have hnd : r.drop pos = rd r pos :: r.drop (pos + 1) := by
            unfold rd
            rw [List.drop_eq_getElem_cons (by omega), Int.toNat_natCast, List.getD_eq_getElem?_getD, List.getElem?_eq_getElem (by omega)]
            rfl
          have hset := HS.out
          rw [hdr, hnd, ← hrs] at hset
          generalize rd r (pos : Int) = nv at *
          have HNX := Aside0.mk hset
          have hpn : pos < r.length := by omega
          have i1 : decide (pos < r.length) = true := decide_eq_true hpn
          have i2 : decide ((pos : Int) < (r.length : Int)) = true := decide_eq_true (by omega)
          clear hset hrs hdr hnd HS
          rcases reg_cases hcm with rfl | rfl | rfl
          · have hch2 : ((rg[pos]'hp).toNat : Int) = 65 := by rw [hch]; rfl
            have Hch := Lib.hid hch2
            clear hch hch2 hcm
            go_wp2_with (first | ((with_reducible refine gate_nx rfl ?_); (refine aw_next 0 rfl rfl rfl HA rfl hp Hch.out (by omega) ?_); clear HA; intro W_ HA; dsimp only [List.set, List.take, List.cons_append, List.nil_append] at HA; simp only [Act.put, List.setIfInBounds_toArray, List.set_cons_succ, List.set_cons_zero]))
            have hcell5 := (HA.below.cell (World.block_lt_of_cell? _ _ hcell4)).trans hcell4
            go_still_tail 7, (by kernel_rfl)
            still_call (isa_reg.calls g6 65 _)
            repeat still_step
            refine wpStill_nil ?_
            replace HA := HA.drew
            change wpList _ _ _ _ _ W_.drew
            go_wp2_with (first | ((with_reducible refine gate_st rfl ?_); (first | refine aw_store 0 (v := .int _ _) rfl rfl rfl rfl rfl HA rfl rfl rfl ?_ ?_ | refine aw_store 1 (v := .int _ _) rfl rfl rfl rfl rfl HA rfl rfl rfl ?_ ?_ | refine aw_store 2 (v := .int _ _) rfl rfl rfl rfl rfl HA rfl rfl rfl ?_ ?_ | refine aw_store 3 (v := .int _ _) rfl rfl rfl rfl rfl HA rfl rfl rfl ?_ ?_); kernel_rfl; clear HA; intro W_ HA; dsimp only [List.set, List.take, List.cons_append, List.nil_append] at HA))
            go_roundw
            case rel => exact ⟨pos + 1, _, _, _, by omega, HNX, HA⟩
            case measure => rw [HA.pos (i := 0) rfl, Hip.out]; omega
          · have hch2 : ((rg[pos]'hp).toNat : Int) = 66 := by rw [hch]; rfl
            have Hch := Lib.hid hch2
            clear hch hch2 hcm
            go_wp2_with (first | ((with_reducible refine gate_nx rfl ?_); (refine aw_next 0 rfl rfl rfl HA rfl hp Hch.out (by omega) ?_); clear HA; intro W_ HA; dsimp only [List.set, List.take, List.cons_append, List.nil_append] at HA; simp only [Act.put, List.setIfInBounds_toArray, List.set_cons_succ, List.set_cons_zero]))
            have hcell5 := (HA.below.cell (World.block_lt_of_cell? _ _ hcell4)).trans hcell4
            go_still_tail 7, (by kernel_rfl)
            still_call (isa_reg.calls g6 66 _)
            repeat still_step
            refine wpStill_nil ?_
            replace HA := HA.drew
            change wpList _ _ _ _ _ W_.drew
            go_wp2_with (first | ((with_reducible refine gate_st rfl ?_); (first | refine aw_store 0 (v := .int _ _) rfl rfl rfl rfl rfl HA rfl rfl rfl ?_ ?_ | refine aw_store 1 (v := .int _ _) rfl rfl rfl rfl rfl HA rfl rfl rfl ?_ ?_ | refine aw_store 2 (v := .int _ _) rfl rfl rfl rfl rfl HA rfl rfl rfl ?_ ?_ | refine aw_store 3 (v := .int _ _) rfl rfl rfl rfl rfl HA rfl rfl rfl ?_ ?_); kernel_rfl; clear HA; intro W_ HA; dsimp only [List.set, List.take, List.cons_append, List.nil_append] at HA))
            go_roundw
            case rel => exact ⟨pos + 1, _, _, _, by omega, HNX, HA⟩
            case measure => rw [HA.pos (i := 0) rfl, Hip.out]; omega
          · have hch2 : ((rg[pos]'hp).toNat : Int) = 68 := by rw [hch]; rfl
            have Hch := Lib.hid hch2
            clear hch hch2 hcm
            go_wp2_with (first | ((with_reducible refine gate_nx rfl ?_); (refine aw_next 0 rfl rfl rfl HA rfl hp Hch.out (by omega) ?_); clear HA; intro W_ HA; dsimp only [List.set, List.take, List.cons_append, List.nil_append] at HA; simp only [Act.put, List.setIfInBounds_toArray, List.set_cons_succ, List.set_cons_zero]))
            have hcell5 := (HA.below.cell (World.block_lt_of_cell? _ _ hcell4)).trans hcell4
            go_still_tail 7, (by kernel_rfl)
            still_call (isa_reg.calls g6 68 _)
            repeat still_step
            refine wpStill_nil ?_
            replace HA := HA.drew
            change wpList _ _ _ _ _ W_.drew
            go_wp2_with (first | ((with_reducible refine gate_st rfl ?_); (first | refine aw_store 0 (v := .int _ _) rfl rfl rfl rfl rfl HA rfl rfl rfl ?_ ?_ | refine aw_store 1 (v := .int _ _) rfl rfl rfl rfl rfl HA rfl rfl rfl ?_ ?_ | refine aw_store 2 (v := .int _ _) rfl rfl rfl rfl rfl HA rfl rfl rfl ?_ ?_ | refine aw_store 3 (v := .int _ _) rfl rfl rfl rfl rfl HA rfl rfl rfl ?_ ?_); kernel_rfl; clear HA; intro W_ HA; dsimp only [List.set, List.take, List.cons_append, List.nil_append] at HA))
            go_roundw
            case rel => exact ⟨pos + 1, _, _, _, by omega, HNX, HA⟩
            case measure => rw [HA.pos (i := 0) rfl, Hip.out]; omega
  · rw [show isaFill k n = isaFill2 k 0 n from if_neg h24] at HP
    replace HP := Aside0.mk HP
    have c24 := beq_eq_false_iff_ne.mpr h24
    have hcap := hc
    go_enter Tryd.func57, Tryd.ntmps57
    go_wp2_with (first | ((with_reducible refine gate_dst (N := 4) rfl ?_); refine aw_alloc rfl rfl op_zero HA ?_; clear HA; intro g4 W_ HA; simp only [Act.put, List.setIfInBounds_toArray, List.set_cons_succ, List.set_cons_zero]) | ((with_reducible refine gate_dst (N := 6) rfl ?_); refine aw_alloc rfl rfl op_zero HA ?_; clear HA; intro g6 W_ HA; simp only [Act.put, List.setIfInBounds_toArray, List.set_cons_succ, List.set_cons_zero]) | ((with_reducible refine gate_ld rfl ?_); (first | refine aw_loadW 0 (t := 34) rfl rfl HA rfl rfl ?_ ?_ | refine aw_loadW 1 (t := 34) rfl rfl HA rfl rfl ?_ ?_ | refine aw_loadW 2 (t := 34) rfl rfl HA rfl rfl ?_ ?_ | refine aw_loadW 3 (t := 34) rfl rfl HA rfl rfl ?_ ?_); kernel_rfl; simp only [Act.put, List.setIfInBounds_toArray, List.set_cons_succ, List.set_cons_zero]) | ((with_reducible refine gate_st rfl ?_); (first | refine aw_storeW 0 (t := 34) rfl rfl rfl rfl HA rfl rfl rfl ?_ rfl ?_ | refine aw_storeW 1 (t := 34) rfl rfl rfl rfl HA rfl rfl rfl ?_ rfl ?_ | refine aw_storeW 2 (t := 34) rfl rfl rfl rfl HA rfl rfl rfl ?_ rfl ?_); kernel_rfl; clear HA; intro W_ HA; dsimp only [List.set, List.take, List.cons_append, List.nil_append] at HA))
    generalize HFM : isaOf k 0 = fm at HP
    obtain ⟨nm, rg, lo, hi⟩ := fm
    have hO := isa_of.calls k 0 0 0 0
    rw [HFM] at hO
    dsimp only at hO
    have hfld1 : ∀ W, (Instr.field 54 (.agg #[.string nm, .string rg, .int .i64 lo, .int .i64 hi]) 1).run Tryd.prog W = .ok (.string rg) W := fun W => by kernel_rfl
    obtain ⟨hok, hsz⟩ := (show rg.data.toList.all regOk = true ∧ rg.size ≤ 3 from by have := of_regs k 0; rw [HFM] at this; exact this)
    have HOK := Aside0.mk hok
    have hrl : rg.data.toList.length = rg.size := by rw [Array.length_toList]; rfl
    have hf2 : isaFill2 k 0 n = if n.length < rg.size then none else some ((setRegs rg.data.toList n 0 0 0).1, (setRegs rg.data.toList n 0 0 0).2.1, (setRegs rg.data.toList n 0 0 0).2.2, if (n.drop rg.size).length = 1 ∧ (k : Int) ≠ 24 then n.getD rg.size 0 else 0) := by unfold isaFill2; rw [HFM]; dsimp only; rw [hrl]
    rw [hf2] at HP
    clear hf2 hok HFM hrl
    by_cases hsh : n.length < rg.size
    · rw [if_pos hsh] at HP
      have s1 : decide (n.length < rg.size) = true := decide_eq_true hsh
      have s2 : decide ((n.length : Int) < (rg.size : Int)) = true := decide_eq_true (by omega)
      go_wp2_with (first | (go_at_call 25; refine (hO _).mono ?_; rintro e W_ ⟨rfl, hb_⟩; replace HA := HA.call hb_; clear hb_) | ((with_reducible refine gate_dst (N := 7) rfl ?_); refine aw_alloc rfl rfl form_zero HA ?_; clear HA; intro g7 W_ HA; simp only [Act.put, List.setIfInBounds_toArray, List.set_cons_succ, List.set_cons_zero]) | ((with_reducible refine gate_dst (N := 36) rfl ?_); refine aw_range rfl rfl rfl ?_ HA ?_; kernel_rfl; clear HA; intro gi W_ HA; simp only [Act.put, List.setIfInBounds_toArray, List.set_cons_succ, List.set_cons_zero]) | ((with_reducible refine gate_ld rfl ?_); (first | refine aw_loadW 0 (t := 34) rfl rfl HA rfl rfl ?_ ?_ | refine aw_loadW 1 (t := 34) rfl rfl HA rfl rfl ?_ ?_ | refine aw_loadW 2 (t := 34) rfl rfl HA rfl rfl ?_ ?_ | refine aw_load 0 rfl rfl HA rfl rfl rfl ?_ ?_ | refine aw_load 1 rfl rfl HA rfl rfl rfl ?_ ?_ | refine aw_load 2 rfl rfl HA rfl rfl rfl ?_ ?_); kernel_rfl; simp only [Act.put, List.setIfInBounds_toArray, List.set_cons_succ, List.set_cons_zero]) | ((with_reducible refine gate_st rfl ?_); (first | refine aw_storeW 0 (t := 54) rfl rfl rfl rfl HA rfl rfl rfl ?_ rfl ?_ | refine aw_storeW 0 (t := 34) rfl rfl rfl rfl HA rfl rfl rfl ?_ rfl ?_ | refine aw_storeW 1 (t := 34) rfl rfl rfl rfl HA rfl rfl rfl ?_ rfl ?_ | refine aw_storeW 2 (t := 34) rfl rfl rfl rfl HA rfl rfl rfl ?_ rfl ?_); kernel_rfl; clear HA; intro W_ HA; dsimp only [List.set, List.take, List.cons_append, List.nil_append] at HA))
      rw [← HP.out]
      exact bodyPost_ret (results_aw2 (i := 2) (v := .bool false) rfl _ HA rfl rfl rfl (by kernel_rfl)) rfl ⟨_, _, _, _, _, rfl, HA.below⟩
    rw [if_neg hsh] at HP
    have s1 : decide (n.length < rg.size) = false := decide_eq_false hsh
    have s2 : decide ((n.length : Int) < (rg.size : Int)) = false := decide_eq_false (by omega)
    go_wp2_with (first | (go_at_call 25; refine (hO _).mono ?_; rintro e W_ ⟨rfl, hb_⟩; replace HA := HA.call hb_; clear hb_) | ((with_reducible refine gate_dst (N := 7) rfl ?_); refine aw_alloc rfl rfl form_zero HA ?_; clear HA; intro g7 W_ HA; simp only [Act.put, List.setIfInBounds_toArray, List.set_cons_succ, List.set_cons_zero]) | ((with_reducible refine gate_dst (N := 36) rfl ?_); refine aw_range rfl rfl rfl ?_ HA ?_; kernel_rfl; clear HA; intro gi W_ HA; simp only [Act.put, List.setIfInBounds_toArray, List.set_cons_succ, List.set_cons_zero]) | ((with_reducible refine gate_ld rfl ?_); (first | refine aw_loadW 0 (t := 34) rfl rfl HA rfl rfl ?_ ?_ | refine aw_loadW 1 (t := 34) rfl rfl HA rfl rfl ?_ ?_ | refine aw_loadW 2 (t := 34) rfl rfl HA rfl rfl ?_ ?_ | refine aw_load 0 rfl rfl HA rfl rfl rfl ?_ ?_ | refine aw_load 1 rfl rfl HA rfl rfl rfl ?_ ?_ | refine aw_load 2 rfl rfl HA rfl rfl rfl ?_ ?_); kernel_rfl; simp only [Act.put, List.setIfInBounds_toArray, List.set_cons_succ, List.set_cons_zero]) | ((with_reducible refine gate_st rfl ?_); (first | refine aw_storeW 0 (t := 54) rfl rfl rfl rfl HA rfl rfl rfl ?_ rfl ?_ | refine aw_storeW 0 (t := 34) rfl rfl rfl rfl HA rfl rfl rfl ?_ rfl ?_ | refine aw_storeW 1 (t := 34) rfl rfl rfl rfl HA rfl rfl rfl ?_ rfl ?_ | refine aw_storeW 2 (t := 34) rfl rfl rfl rfl HA rfl rfl rfl ?_ rfl ?_); kernel_rfl; clear HA; intro W_ HA; dsimp only [List.set, List.take, List.cons_append, List.nil_append] at HA))
    clear hO hfld1
    go_loopw [] (fun wr => ∃ (pos : Nat) (D A B : Int), pos ≤ rg.size ∧ Aside0 (setRegs (rg.data.toList.drop pos) (n.drop pos) D A B = setRegs rg.data.toList n 0 0 0) ∧ Aw noS w wr [(gi, .i rg pos), (g7, .c 54 [.string nm, .string rg, .int .i64 lo, .int .i64 hi]), (g6, opB k D A B 0), (g4, opZ)]) (fun wr => rg.size - wr.iterPos gi)
    case atStart => exact ⟨0, 0, 0, 0, Nat.zero_le _, ⟨rfl⟩, HA⟩
    case round =>
      clear HA
      obtain ⟨pos, D, A, B, hpos, HS, HA⟩ := hrel
      have Hip := Lib.hid (HA.pos (i := 0) rfl)
      obtain ⟨l, hdr⟩ : ∃ l, rg.data.toList.drop pos = l := ⟨_, rfl⟩
      cases l with
      | nil =>
        have hend := at_end hdr
        have hpe : pos = rg.size := by omega
        have hset := HS.out
        rw [hdr] at hset
        rw [show setRegs [] (n.drop pos) D A B = (D, A, B) from by cases n.drop pos <;> rfl] at hset
        rw [← hset] at HP
        dsimp only at HP
        clear hset hdr HS
        subst hpe
        have hcut3 := cut_from (P := Tryd.prog) 92 3 .i64 Tryd.underlying92 hii 1 hiz A0 n.length c0 (rg.size : Int) (by omega) (by omega)
        have hd3 := Kd.C_drop (m := rg.size) HR.out (by omega) hcap
        obtain ⟨A3, hA3⟩ : ∃ A3, (if c0 = rg.size then A0 else A0.map (·.add (rg.size * 1))) = A3 := ⟨_, rfl⟩
        rw [Int.toNat_natCast, hA3] at hcut3
        replace hd3 : Kd.C (Kd.int .i64) w (if c0 = rg.size then A0 else A0.map (·.add (rg.size * 1))) (n.drop rg.size).length (n.drop rg.size) := hd3
        rw [hA3] at hd3
        have HD3 := Aside0.mk hd3
        have hdl : (n.drop rg.size).length = n.length - rg.size := by simp
        rw [hdl] at HP
        clear hd3 hA3
        by_cases h1 : n.length - rg.size = 1
        · have hg0 : (n.drop rg.size).getD 0 0 = n.getD rg.size 0 := by simp [List.getD_eq_getElem?_getD]
          obtain ⟨ad3, rfl, hcell3⟩ := Kd.at_int HD3.out 0 (by omega) (by omega)
          have hrd3 : rd (n.drop rg.size) 0 = n.getD rg.size 0 := hg0
          rw [hrd3] at hcell3
          have e03 : ad3.add (0 : Int).toNat = ad3 := by show ad3.add 0 = ad3; unfold Addr.add; split <;> simp_all
          rw [e03] at hcell3
          rw [h1] at hcut3 HP
          generalize n.getD rg.size 0 = N2 at *
          clear hrd3 hg0 e03 hdl
          have r1 : (k != 24) = true := bne_iff_ne.mpr h24
          rw [if_pos ⟨rfl, h24⟩] at HP
          have hcell6 := (HA.below.cell (World.block_lt_of_cell? _ _ hcell3)).trans hcell3
          clear hcell3
          go_wp2_with (first | ((with_reducible refine gate_ld rfl ?_); (first | refine aw_loadW 0 (t := 34) rfl rfl HA rfl rfl ?_ ?_ | refine aw_loadW 1 (t := 34) rfl rfl HA rfl rfl ?_ ?_ | refine aw_loadW 2 (t := 34) rfl rfl HA rfl rfl ?_ ?_ | refine aw_loadW 3 (t := 34) rfl rfl HA rfl rfl ?_ ?_ | refine aw_load 0 rfl rfl HA rfl rfl rfl ?_ ?_ | refine aw_load 1 rfl rfl HA rfl rfl rfl ?_ ?_ | refine aw_load 2 rfl rfl HA rfl rfl rfl ?_ ?_ | refine aw_load 3 rfl rfl HA rfl rfl rfl ?_ ?_); kernel_rfl; simp only [Act.put, List.setIfInBounds_toArray, List.set_cons_succ, List.set_cons_zero]) | ((with_reducible refine gate_st rfl ?_); (first | refine aw_storeW 0 (t := 34) rfl rfl rfl rfl HA rfl rfl rfl ?_ rfl ?_ | refine aw_storeW 1 (t := 34) rfl rfl rfl rfl HA rfl rfl rfl ?_ rfl ?_ | refine aw_storeW 2 (t := 34) rfl rfl rfl rfl HA rfl rfl rfl ?_ rfl ?_ | refine aw_storeW 3 (t := 34) rfl rfl rfl rfl HA rfl rfl rfl ?_ rfl ?_ | refine aw_store 0 (v := .int _ _) rfl rfl rfl rfl rfl HA rfl rfl rfl ?_ ?_ | refine aw_store 1 (v := .int _ _) rfl rfl rfl rfl rfl HA rfl rfl rfl ?_ ?_ | refine aw_store 2 (v := .int _ _) rfl rfl rfl rfl rfl HA rfl rfl rfl ?_ ?_ | refine aw_store 3 (v := .int _ _) rfl rfl rfl rfl rfl HA rfl rfl rfl ?_ ?_); kernel_rfl; clear HA; intro W_ HA; dsimp only [List.set, List.take, List.cons_append, List.nil_append] at HA) | ((with_reducible refine gate_nx rfl ?_); (refine aw_next_end 0 rfl rfl rfl HA rfl hend ?_); simp only [Act.put, List.setIfInBounds_toArray, List.set_cons_succ, List.set_cons_zero]))
          rw [← HP.out]
          exact bodyPost_ret (results_aw2 (i := 3) (v := .bool true) rfl _ HA rfl rfl rfl (by kernel_rfl)) rfl ⟨rfl, HA.below⟩
        · have r1 : decide (n.length - rg.size = 1) = false := decide_eq_false h1
          have r2 : (((n.length - rg.size : Nat) : Int) == 1) = false := beq_eq_false_iff_ne.mpr (by omega)
          rw [if_neg (fun h => h1 h.1)] at HP
          generalize n.length - rg.size = rl at *
          clear hdl
          go_wp2_with (first | ((with_reducible refine gate_ld rfl ?_); (first | refine aw_loadW 0 (t := 34) rfl rfl HA rfl rfl ?_ ?_ | refine aw_loadW 1 (t := 34) rfl rfl HA rfl rfl ?_ ?_ | refine aw_loadW 2 (t := 34) rfl rfl HA rfl rfl ?_ ?_ | refine aw_loadW 3 (t := 34) rfl rfl HA rfl rfl ?_ ?_ | refine aw_load 0 rfl rfl HA rfl rfl rfl ?_ ?_ | refine aw_load 1 rfl rfl HA rfl rfl rfl ?_ ?_ | refine aw_load 2 rfl rfl HA rfl rfl rfl ?_ ?_ | refine aw_load 3 rfl rfl HA rfl rfl rfl ?_ ?_); kernel_rfl; simp only [Act.put, List.setIfInBounds_toArray, List.set_cons_succ, List.set_cons_zero]) | ((with_reducible refine gate_st rfl ?_); (first | refine aw_storeW 0 (t := 34) rfl rfl rfl rfl HA rfl rfl rfl ?_ rfl ?_ | refine aw_storeW 1 (t := 34) rfl rfl rfl rfl HA rfl rfl rfl ?_ rfl ?_ | refine aw_storeW 2 (t := 34) rfl rfl rfl rfl HA rfl rfl rfl ?_ rfl ?_ | refine aw_storeW 3 (t := 34) rfl rfl rfl rfl HA rfl rfl rfl ?_ rfl ?_); kernel_rfl; clear HA; intro W_ HA; dsimp only [List.set, List.take, List.cons_append, List.nil_append] at HA) | ((with_reducible refine gate_nx rfl ?_); (refine aw_next_end 0 rfl rfl rfl HA rfl hend ?_); simp only [Act.put, List.setIfInBounds_toArray, List.set_cons_succ, List.set_cons_zero]))
          rw [← HP.out]
          exact bodyPost_ret (results_aw2 (i := 3) (v := .bool true) rfl _ HA rfl rfl rfl (by kernel_rfl)) rfl ⟨rfl, HA.below⟩
      | cons c rs =>
        obtain ⟨hp, hch, hrs⟩ := at_drop hdr
        have hcm : regOk c = true := List.all_eq_true.1 HOK.out c (List.mem_of_mem_drop (hdr ▸ List.mem_cons_self))
        obtain ⟨ad4, rfl, hcell4⟩ := Kd.at_int HR.out (pos : Int) (by omega) (by omega)
        rw [Int.toNat_natCast] at hcell4
        have hnd : n.drop pos = rd n pos :: n.drop (pos + 1) := by
          unfold rd
          rw [List.drop_eq_getElem_cons (by omega), Int.toNat_natCast, List.getD_eq_getElem?_getD, List.getElem?_eq_getElem (by omega)]
          rfl
        have hset := HS.out
        rw [hdr, hnd, ← hrs] at hset
        generalize rd n (pos : Int) = nv at *
        have HNX := Aside0.mk hset
        have hpn : pos < n.length := by omega
        have i1 : decide (pos < n.length) = true := decide_eq_true hpn
        have i2 : decide ((pos : Int) < (n.length : Int)) = true := decide_eq_true (by omega)
        clear hset hrs hdr hnd HS
        rcases reg_cases hcm with rfl | rfl | rfl
        · have hch2 : ((rg[pos]'hp).toNat : Int) = 65 := by rw [hch]; rfl
          have Hch := Lib.hid hch2
          clear hch hch2 hcm
          go_wp2_with (first | ((with_reducible refine gate_nx rfl ?_); (refine aw_next 0 rfl rfl rfl HA rfl hp Hch.out (by omega) ?_); clear HA; intro W_ HA; dsimp only [List.set, List.take, List.cons_append, List.nil_append] at HA; simp only [Act.put, List.setIfInBounds_toArray, List.set_cons_succ, List.set_cons_zero]))
          have hcell5 := (HA.below.cell (World.block_lt_of_cell? _ _ hcell4)).trans hcell4
          go_still_tail 7, (by kernel_rfl)
          still_call (isa_reg.calls g6 65 _)
          repeat still_step
          refine wpStill_nil ?_
          replace HA := HA.drew
          change wpList _ _ _ _ _ W_.drew
          go_wp2_with (first | ((with_reducible refine gate_st rfl ?_); (first | refine aw_store 0 (v := .int _ _) rfl rfl rfl rfl rfl HA rfl rfl rfl ?_ ?_ | refine aw_store 1 (v := .int _ _) rfl rfl rfl rfl rfl HA rfl rfl rfl ?_ ?_ | refine aw_store 2 (v := .int _ _) rfl rfl rfl rfl rfl HA rfl rfl rfl ?_ ?_ | refine aw_store 3 (v := .int _ _) rfl rfl rfl rfl rfl HA rfl rfl rfl ?_ ?_); kernel_rfl; clear HA; intro W_ HA; dsimp only [List.set, List.take, List.cons_append, List.nil_append] at HA))
          go_roundw
          case rel => exact ⟨pos + 1, _, _, _, by omega, HNX, HA⟩
          case measure => rw [HA.pos (i := 0) rfl, Hip.out]; omega
        · have hch2 : ((rg[pos]'hp).toNat : Int) = 66 := by rw [hch]; rfl
          have Hch := Lib.hid hch2
          clear hch hch2 hcm
          go_wp2_with (first | ((with_reducible refine gate_nx rfl ?_); (refine aw_next 0 rfl rfl rfl HA rfl hp Hch.out (by omega) ?_); clear HA; intro W_ HA; dsimp only [List.set, List.take, List.cons_append, List.nil_append] at HA; simp only [Act.put, List.setIfInBounds_toArray, List.set_cons_succ, List.set_cons_zero]))
          have hcell5 := (HA.below.cell (World.block_lt_of_cell? _ _ hcell4)).trans hcell4
          go_still_tail 7, (by kernel_rfl)
          still_call (isa_reg.calls g6 66 _)
          repeat still_step
          refine wpStill_nil ?_
          replace HA := HA.drew
          change wpList _ _ _ _ _ W_.drew
          go_wp2_with (first | ((with_reducible refine gate_st rfl ?_); (first | refine aw_store 0 (v := .int _ _) rfl rfl rfl rfl rfl HA rfl rfl rfl ?_ ?_ | refine aw_store 1 (v := .int _ _) rfl rfl rfl rfl rfl HA rfl rfl rfl ?_ ?_ | refine aw_store 2 (v := .int _ _) rfl rfl rfl rfl rfl HA rfl rfl rfl ?_ ?_ | refine aw_store 3 (v := .int _ _) rfl rfl rfl rfl rfl HA rfl rfl rfl ?_ ?_); kernel_rfl; clear HA; intro W_ HA; dsimp only [List.set, List.take, List.cons_append, List.nil_append] at HA))
          go_roundw
          case rel => exact ⟨pos + 1, _, _, _, by omega, HNX, HA⟩
          case measure => rw [HA.pos (i := 0) rfl, Hip.out]; omega
        · have hch2 : ((rg[pos]'hp).toNat : Int) = 68 := by rw [hch]; rfl
          have Hch := Lib.hid hch2
          clear hch hch2 hcm
          go_wp2_with (first | ((with_reducible refine gate_nx rfl ?_); (refine aw_next 0 rfl rfl rfl HA rfl hp Hch.out (by omega) ?_); clear HA; intro W_ HA; dsimp only [List.set, List.take, List.cons_append, List.nil_append] at HA; simp only [Act.put, List.setIfInBounds_toArray, List.set_cons_succ, List.set_cons_zero]))
          have hcell5 := (HA.below.cell (World.block_lt_of_cell? _ _ hcell4)).trans hcell4
          go_still_tail 7, (by kernel_rfl)
          still_call (isa_reg.calls g6 68 _)
          repeat still_step
          refine wpStill_nil ?_
          replace HA := HA.drew
          change wpList _ _ _ _ _ W_.drew
          go_wp2_with (first | ((with_reducible refine gate_st rfl ?_); (first | refine aw_store 0 (v := .int _ _) rfl rfl rfl rfl rfl HA rfl rfl rfl ?_ ?_ | refine aw_store 1 (v := .int _ _) rfl rfl rfl rfl rfl HA rfl rfl rfl ?_ ?_ | refine aw_store 2 (v := .int _ _) rfl rfl rfl rfl rfl HA rfl rfl rfl ?_ ?_ | refine aw_store 3 (v := .int _ _) rfl rfl rfl rfl rfl HA rfl rfl rfl ?_ ?_); kernel_rfl; clear HA; intro W_ HA; dsimp only [List.set, List.take, List.cons_append, List.nil_append] at HA))
          go_roundw
          case rel => exact ⟨pos + 1, _, _, _, by omega, HNX, HA⟩
          case measure => rw [HA.pos (i := 0) rfl, Hip.out]; omega
end Go.Proofs.YtlhkojnocconfaaDoor.Q

--@needs XIsaReadM
--@needs XHisaWords
--@needs XHisaNumber
--@needs XHisaFill
--@needs XHisaShow
--@needs XIsaWord
--@needs XAwReg
--@needs XAwFrame
--@uses camlet/num.Read
--@uses camlet/isa.Show
--@uses camlet/camletref39.Put
namespace Go.Proofs.YtlhkojnocconfaaDoor.Q
open Go.RowKit Go.Proofs.YtlhkojnocconfaaDoorW.PrintWords Go.Proofs.YtlhkojnocconfaaDoorW.PrintLast Go.Proofs.YtlhkojnocconfaaDoorW.PrintMore
attribute [local go_sem] max2_int min2_int max_two min_two max_three min_three max_four min_four   -- for this text's walks alone
set_option linter.unusedVariables false
set_option linter.unusedSimpArgs false

def isaReadF (s : ByteArray) : Option (Int × Int × Int × Int × Int) := if 60 < s.size then none else if s.data.toList.all (fun c => decide (c.toNat < 128)) = true then isaReadGo s.data.toList (splitSp [] s.data.toList) 25 0 else none
def isa_Read.f (a0 : ByteArray) : Option (Int × Int × Int × Int × Int × Bool) := match isaReadF a0 with
  | some (k, D, A, B, N) => some (k, D, A, B, N, true)
  | none => some (0, 0, 0, 0, 0, false)
theorem names_ascii : isaForms.all (fun x => x.1.data.toList.all (fun c => decide (c.toNat < 128))) = true := by decide
theorem form_ascii (k : Int) : asciiL (isaForm k).1.data.toList := by
  unfold isaForm
  split
  · rename_i h
    have hl : k.toNat < isaForms.length := by have : isaForms.length = 25 := rfl; omega
    have := List.all_eq_true.1 names_ascii _ (List.getElem_mem hl)
    rw [List.getD_eq_getElem?_getD, List.getElem?_eq_getElem hl]
    intro c hc
    simpa using List.all_eq_true.1 this c hc
  · intro c hc; simp at hc
theorem itoa_ascii (x : Int) : asciiL (Lib.itoa x) := by
  intro c hc
  rcases itoa_form x with ⟨u, rfl, e⟩ | ⟨u, _, rfl, e⟩
  · rw [e] at hc
    have := (dec_chars u).1 c hc
    omega
  · rw [e] at hc
    rcases List.mem_cons.1 hc with rfl | hc
    · decide
    · have := (dec_chars u).1 c hc
      omega
theorem text_ascii (k D A B N : Int) : asciiL (isaText k D A B N) := by
  unfold isaText
  split
  · intro c hc
    unfold isaShow at hc
    rw [of_name] at hc
    rcases List.mem_append.1 hc with hc | hc
    · exact form_ascii k c hc
    · unfold showWords at hc
      obtain ⟨x, _, hc⟩ := List.mem_flatMap.1 hc
      rcases List.mem_cons.1 hc with rfl | hc
      · decide
      · exact itoa_ascii x c hc
  · intro c hc; simp at hc
theorem fill_none {w w' : World} {k : Int} {e : Ending} (h : FillPost w k none e w') : ∃ K D A B N : Int, e = .returned (.tuple #[.agg #[.int .i64 K, .int .i64 D, .int .i64 A, .int .i64 B, .int .i64 N], .bool false]) ∧ Below w.heap.size w w' := h
theorem fill_some {w w' : World} {k D A B N : Int} {e : Ending} (h : FillPost w k (some (D, A, B, N)) e w') : e = .returned (.tuple #[.agg #[.int .i64 k, .int .i64 D, .int .i64 A, .int .i64 B, .int .i64 N], .bool true]) ∧ Below w.heap.size w w' := h
def ReadPost (w : World) (r : Option (Int × Int × Int × Int × Int)) (e : Ending) (w' : World) : Prop :=
  match r with
  | some (k, D, A, B, N) => e = .returned (.tuple #[.agg #[.int .i64 k, .int .i64 D, .int .i64 A, .int .i64 B, .int .i64 N], .bool true]) ∧ Below w.heap.size w w'
  | none => e = .returned (.tuple #[.agg #[.int .i64 0, .int .i64 0, .int .i64 0, .int .i64 0, .int .i64 0], .bool false]) ∧ Below w.heap.size w w'
theorem readGo_words {s : ByteArray} {ws : List ByteArray} (hs : ¬ 60 < s.size) (h : WordsOf s ws) : isaReadGo s.data.toList (ws.map (·.data.toList)) 25 0 = isaReadF s := by
  unfold isaReadF
  rw [if_neg hs]
  by_cases ha : s.data.toList.all (fun c => decide (c.toNat < 128)) = true
  · rw [if_pos ha, h.2.1 (fun c hc => by simpa using List.all_eq_true.1 ha c hc)]
  · rw [if_neg ha]
    cases hr : isaReadGo s.data.toList (ws.map (·.data.toList)) 25 0 with
    | none => rfl
    | some r =>
      obtain ⟨K, D, A, B, N⟩ := r
      have e := isaReadGo_shows 25 0 hr
      refine absurd ?_ ha
      rw [← e, List.all_eq_true]
      intro c hc
      simpa using text_ascii K D A B N c hc
theorem show_text (k D A B N : Int) : isa_Show.f k D A B N = some ⟨(isaText k D A B N).toArray⟩ := by
  unfold isa_Show.f isaText
  split <;> rfl
theorem ba_eq (x y : ByteArray) : x = y ↔ x.data.toList = y.data.toList := by
  constructor
  · intro h; rw [h]
  · intro h; exact ByteArray.ext (Array.ext' h)
theorem cut_own {P : Program} (t e : TypeId) {i : TypeInfo} (ht : P.underlying t = some (.slice e)) (hi : P.info? e = some i) (hsz : i.size = 1) (g n cap : Nat) (h : n ≤ cap) (h1 : 1 ≤ n) :
    ∃ A2, (∀ W : World, (Instr.slice t (.slice (some ⟨g, 0, none⟩) n cap) (some (.int .i64 1)) none none).run P W = .ok (.slice A2 (n - 1) (cap - 1)) W) ∧ (1 < n → A2 = some ⟨g, 1, none⟩) := by
  refine ⟨_, cut_from t e .i64 ht hi 1 hsz (some ⟨g, 0, none⟩) n cap 1 (by decide) (by omega), fun hn => ?_⟩
  rw [if_neg (by show ¬ cap = 1; omega)]
  show some ((⟨g, 0, none⟩ : Addr).add (1 * 1)) = _
  rw [Addr.add_mid]
set_option maxHeartbeats 8000000 in
set_option maxRecDepth 100000 in
theorem isa_Read.calls (a0 : ByteArray) (r1 : Int) (r2 : Int) (r3 : Int) (r4 : Int) (r5 : Int) (r6 : Bool) (w : World) (hG : Laid w) (h : isa_Read.f a0 = some (r1, r2, r3, r4, r5, r6)) :
    Calls Tryd.prog 45 #[.string a0] w fun e w' => e = .returned (.tuple #[.agg #[.int .i64 r1, .int .i64 r2, .int .i64 r3, .int .i64 r4, .int .i64 r5], .bool r6]) ∧ Below w.heap.size w w' := by
  suffices hm : ∀ s, s = a0 → Calls Tryd.prog 45 #[.string s] w (ReadPost w (isaReadF s)) by
    refine (hm a0 rfl).mono ?_
    intro e w' hp
    unfold isa_Read.f at h
    cases hr : isaReadF a0 with
    | none =>
      rw [hr] at h hp
      simp only [Option.some.injEq, Prod.mk.injEq] at h
      obtain ⟨rfl, rfl, rfl, rfl, rfl, rfl⟩ := h
      exact hp
    | some r =>
      obtain ⟨k, D, A, B, N⟩ := r
      rw [hr] at h hp
      simp only [Option.some.injEq, Prod.mk.injEq] at h
      obtain ⟨rfl, rfl, rfl, rfl, rfl, rfl⟩ := h
      exact hp
  rintro s rfl
  clear h
  obtain ⟨si, hsi, _, hsz, _⟩ := info_parts strT_info
  have HG := Aside0.mk hG
  have HA := Aw.start noS w
  clear hG
  obtain ⟨res, hres⟩ : ∃ res, isaReadF s = res := ⟨_, rfl⟩
  rw [hres]
  have HRES := Lib.hid hres
  clear hres
  obtain ⟨P, hP⟩ : ∃ P, ReadPost w res = P := ⟨_, rfl⟩
  have HP := Aside0.mk hP
  rw [hP]
  clear hP
  by_cases hs60 : 60 < s.size
  · have hr : res = none := by rw [← HRES.out]; unfold isaReadF; rw [if_pos hs60]
    subst hr
    have s1 : decide (60 < s.size) = true := decide_eq_true hs60
    have s2 : decide (60 < (s.size : Int)) = true := decide_eq_true (by omega)
    clear hs60
    go_enter Tryd.func45, Tryd.ntmps45
    go_wp2_with (first | ((with_reducible refine gate_dst (N := 2) rfl ?_); refine aw_alloc rfl rfl op_zero HA ?_; clear HA; intro g2 W_ HA; simp only [Act.put, List.setIfInBounds_toArray, List.set_cons_succ, List.set_cons_zero]) | ((with_reducible refine gate_ld rfl ?_); (first | refine aw_loadW 0 (t := 34) rfl rfl HA rfl rfl ?_ ?_ | refine aw_load 0 rfl rfl HA rfl rfl rfl ?_ ?_); kernel_rfl; simp only [Act.put, List.setIfInBounds_toArray, List.set_cons_succ, List.set_cons_zero]) | ((with_reducible refine gate_st rfl ?_); (refine aw_storeW 0 (t := 34) rfl rfl rfl rfl HA rfl rfl rfl ?_ rfl ?_); kernel_rfl; clear HA; intro W_ HA; dsimp only [List.set, List.take, List.cons_append, List.nil_append] at HA))
    rw [← HP.out]
    exact bodyPost_ret (results_aw2 (i := 0) (v := .bool false) rfl _ HA rfl rfl rfl (by kernel_rfl)) rfl ⟨rfl, HA.below⟩
  have hs : s.size ≤ 60 := by omega
  have s1 : decide (60 < s.size) = false := decide_eq_false hs60
  have s2 : decide (60 < (s.size : Int)) = false := decide_eq_false (by omega)
  have HS60 := Lib.hid hs60
  clear hs60
  go_enter Tryd.func45, Tryd.ntmps45
  go_wp2_with (first | ((with_reducible refine gate_dst (N := 2) rfl ?_); refine aw_alloc rfl rfl op_zero HA ?_; clear HA; intro g2 W_ HA; simp only [Act.put, List.setIfInBounds_toArray, List.set_cons_succ, List.set_cons_zero]) | (go_at_call 55; refine (isa_words.calls s hs _).mono ?_; rintro e W_ ⟨v_, ws, Lv_, rfl, hws, hown, hk_⟩; replace HA := HA.fresh hk_; clear hk_) | ((with_reducible refine gate_ld rfl ?_); (first | refine aw_loadW 0 (t := 34) rfl rfl HA rfl rfl ?_ ?_ | refine aw_load 0 rfl rfl HA rfl rfl rfl ?_ ?_); kernel_rfl; simp only [Act.put, List.setIfInBounds_toArray, List.set_cons_succ, List.set_cons_zero]) | ((with_reducible refine gate_st rfl ?_); (refine aw_storeW 0 (t := 34) rfl rfl rfl rfl HA rfl rfl rfl ?_ rfl ?_); kernel_rfl; clear HA; intro W_ HA; dsimp only [List.set, List.take, List.cons_append, List.nil_append] at HA))
  have hgo := (readGo_words HS60.out hws).trans HRES.out
  obtain ⟨hl_, ⟨_, hbad, _⟩ | ⟨gw, cap, rfl, hcap, rfl⟩⟩ := hown
  · exact absurd (List.length_eq_zero_iff.1 hbad) hws.1
  have hwl : 1 ≤ ws.length := by have := hws.1; cases ws with
    | nil => exact absurd rfl this
    | cons _ _ => simp
  have hwl2 := hws.2.2.1
  obtain ⟨nw, hnw⟩ : ∃ nw, ws.length = nw := ⟨_, rfl⟩
  obtain ⟨w0, hw0⟩ : ∃ w0, ((ws.map Value.string)[0]? = some (.string w0)) ∧ (ws.map (·.data.toList)).headD [] = w0.data.toList := by
    cases ws with
    | nil => exact absurd rfl hws.1
    | cons a b => exact ⟨a, rfl, rfl⟩
  have HW0 := Lib.hid hw0.1
  have HWH := Lib.hid hw0.2
  have HWS := Aside0.mk hws
  have HNW := Lib.hid hnw
  dsimp only [List.cons_append, List.nil_append] at HA
  rw [hnw] at hcap hwl hwl2
  (try rw [hnw])
  clear hw0 hws hl_
  have q0 : decide (0 < nw) = true := decide_eq_true (by omega)
  have q1 : (0 < nw) = True := eq_true (by omega)
  go_loopg [5] 25 (fun g v wx => ∃ (k : Nat), k + g = 25 ∧ v = .int .i64 k ∧ Aside0 (isaReadGo s.data.toList (ws.map (·.data.toList)) g k = res) ∧ Aw noS w wx [(gw, Blk.r 9 1 cap (ws.map Value.string)), (g2, opZ)])
  case atStart => exact ⟨0, rfl, rfl, ⟨hgo⟩, HA⟩
  case round =>
    clear HA hgo hnw
    obtain ⟨k, hk, rfl, HGO, HA⟩ := hrel
    cases gk with
    | zero =>
      have hke : k = 25 := by omega
      subst hke
      have hr : res = none := by rw [← HGO.out]; rfl
      subst hr
      clear HGO
      go_wp2_with (first | ((with_reducible refine gate_ld rfl ?_); (first | refine aw_loadW 0 (t := 34) rfl rfl HA rfl rfl ?_ ?_ | refine aw_loadW 1 (t := 34) rfl rfl HA rfl rfl ?_ ?_ | refine aw_load 0 rfl rfl HA rfl rfl rfl ?_ ?_ | refine aw_load 1 rfl rfl HA rfl rfl rfl ?_ ?_); kernel_rfl; simp only [Act.put, List.setIfInBounds_toArray, List.set_cons_succ, List.set_cons_zero]) | ((with_reducible refine gate_st rfl ?_); (first | refine aw_storeW 0 (t := 34) rfl rfl rfl rfl HA rfl rfl rfl ?_ rfl ?_ | refine aw_storeW 1 (t := 34) rfl rfl rfl rfl HA rfl rfl rfl ?_ rfl ?_); kernel_rfl; clear HA; intro W_ HA; dsimp only [List.set, List.take, List.cons_append, List.nil_append] at HA))
      rw [← HP.out]
      exact bodyPost_ret (results_aw2 (i := 1) (v := .bool false) rfl _ HA rfl rfl rfl (by kernel_rfl)) rfl ⟨rfl, HA.below⟩
    | succ g =>
      have hk24 : k ≤ 24 := by omega
      have k1 : decide (k ≤ 24) = true := decide_eq_true hk24
      have k2 : decide ((k : Int) ≤ 24) = true := decide_eq_true (by omega)
      have hgo := HGO.out
      rw [isaReadGo, HWH.out] at hgo
      clear HGO
      have hFo := fun W => isa_forms.calls (k : Int) W
      generalize hfm : isaForm (k : Int) = fm at hFo hgo
      have HFM := Lib.hid hfm
      clear hfm
      obtain ⟨nm, rg, lo, hi⟩ := fm
      dsimp only at hFo hgo
      have hfld0 : ∀ W, (Instr.field 54 (.agg #[.string nm, .string rg, .int .i64 lo, .int .i64 hi]) 0).run Tryd.prog W = .ok (.string nm) W := fun W => by kernel_rfl
      by_cases hn : nm = w0
      case neg =>
        rw [if_pos (fun e => hn ((ba_eq _ _).2 e))] at hgo
        have HGO := Aside0.mk hgo
        have HN := Aside0.mk hn
        have cn : (nm.toList == w0.toList) = false := by rw [beq_eq_false_iff_ne, ByteArray.toList_eq, ByteArray.toList_eq]; exact fun e => hn ((ba_eq _ _).2 e)
        clear hgo hn
        go_wp2
        replace HA := HA.drew
        have hc0 := HA.rcell (i := 0) (j := 0) rfl HW0.out
        go_region_law ((go_simp; go_at_call 23; refine (hFo _).mono ?_; rintro e W_ ⟨rfl, hb_⟩; replace HA := HA.call hb_; clear hb_; have hc1 := HA.rcell (i := 0) (j := 0) rfl HW0.out))
        all_goals
          go_wp2
          go_roundg g
          case measure => omega
          case rel => exact ⟨k + 1, by omega, by go_num, HGO, HA⟩
      subst hn
      rw [if_neg (fun h => h rfl)] at hgo
      have HGO := Aside0.mk hgo
      have cn : (nm.toList == nm.toList) = true := beq_self_eq_true _
      clear hgo
      go_wp2
      replace HA := HA.drew
      have hc0 := HA.rcell (i := 0) (j := 0) rfl HW0.out
      go_region_law ((go_simp; go_at_call 23; refine (hFo _).mono ?_; rintro e W_ ⟨rfl, hb_⟩; replace HA := HA.call hb_; clear hb_; have hc1 := HA.rcell (i := 0) (j := 0) rfl HW0.out))
      all_goals
        clear hc0
        (try clear hc1)
        obtain ⟨A2, hcut, hA2⟩ := cut_own (P := Tryd.prog) 80 9 Tryd.underlying80 hsi hsz gw nw cap hcap hwl
        have HA2 := Lib.hid hA2
        clear hA2
        go_wp2
        clear hcut
        generalize hmm : nw - 1 = m
        have HMM := Lib.hid hmm
        have hm0 : m ≤ 60 := by omega
        (try rw [hmm])
        clear hmm
        go_loopg [6, 33] m (fun g6 vn vj wx => ∃ (j : Nat) (ns : List Int) (Lvn : List (Nat × Blk)), j + g6 = m ∧ vj = .int .i64 j ∧ ns.length = j ∧ Aside0 (isaNums ((ws.map (·.data.toList)).drop 1) = (isaNums (((ws.map (·.data.toList)).drop 1).drop j)).map (ns ++ ·)) ∧ Own 3 1 vn ns.length (ns.map (Value.int .i64)) Lvn ∧ Aw noS w wx ((gw, Blk.r 9 1 cap (ws.map Value.string)) :: (g2, opZ) :: Lvn))
        case atStart => exact ⟨0, [], [], by omega, rfl, rfl, ⟨by simp⟩, Own.nil _ _, HA⟩
        case round =>
          clear HA
          obtain ⟨j, ns, Lvn, hj, rfl, hnl, HNS, hownn, HA⟩ := hrel
          have hnm : ns.length ≤ 60 := by omega
          have HNL := Lib.hid hnl
          clear hnl
          by_cases hjm : j < m
          · have j1 : decide (j < m) = true := decide_eq_true hjm
            have j2 : decide ((j : Int) < (m : Int)) = true := decide_eq_true (by omega)
            have j3 : 0 ≤ (j : Int) := by omega
            have hA := HA2.out (by have := HMM.out; omega)
            subst hA
            obtain ⟨x, hx1, hx2, hx3⟩ : ∃ x : ByteArray, (ws.map Value.string)[1 + j]? = some (.string x) ∧ ((ws.map (·.data.toList)).drop 1).drop j = x.data.toList :: ((ws.map (·.data.toList)).drop 1).drop (j + 1) ∧ x ∈ ws := by
              have hlt : 1 + j < ws.length := by rw [HNW.out]; have := HMM.out; omega
              refine ⟨ws[1 + j], by simp [List.getElem?_eq_getElem hlt], ?_, List.getElem_mem hlt⟩
              rw [List.drop_drop, List.drop_drop, List.drop_eq_getElem_cons (by simpa using hlt)]
              simp [Nat.add_assoc]
            have hxs : x.size ≤ 1000000 := by have := HWS.out.2.2.2 x hx3; omega
            have HWJ := Lib.hid hx1
            have hns := HNS.out
            rw [hx2, isaNums] at hns
            clear hx1 hx2 hx3 HNS
            cases hok : (isaNum x.data.toList).2 with
            | false =>
              rw [hok, if_neg (by decide)] at hns
              have hg := HGO.out
              rw [hns] at hg
              have hr : res = none := hg.symm
              subst hr
              clear hns hg HGO HRES
              obtain ⟨xn, hxn⟩ : ∃ xn, (isaNum x.data.toList).1 = xn := ⟨_, rfl⟩
              have hnum := fun W hG => isa_number.calls x hxs W hG
              rw [hok, hxn] at hnum
              clear hok hxn
              go_wp2_with (first | (go_at_call 56; refine (hnum _ (HG.out.mono HA.below)).mono ?_; rintro e W_ ⟨rfl, hb_⟩; replace HA := HA.call hb_; clear hb_) | ((with_reducible refine gate_ld rfl ?_); (first | refine aw_loadR 0 rfl rfl HA rfl HWJ.out rfl ?_ ?_ | refine aw_loadW 0 (t := 34) rfl rfl HA rfl rfl ?_ ?_ | refine aw_loadW 1 (t := 34) rfl rfl HA rfl rfl ?_ ?_ | refine aw_load 0 rfl rfl HA rfl rfl rfl ?_ ?_ | refine aw_load 1 rfl rfl HA rfl rfl rfl ?_ ?_); kernel_rfl; simp only [Act.put, List.setIfInBounds_toArray, List.set_cons_succ, List.set_cons_zero]) | ((with_reducible refine gate_st rfl ?_); (first | refine aw_storeW 0 (t := 34) rfl rfl rfl rfl HA rfl rfl rfl ?_ rfl ?_ | refine aw_storeW 1 (t := 34) rfl rfl rfl rfl HA rfl rfl rfl ?_ rfl ?_); kernel_rfl; clear HA; intro W_ HA; dsimp only [List.set, List.take, List.cons_append, List.nil_append] at HA))
              (try rw [Exit.noGoto_ret])
              (try go_ret)
              rw [← HP.out]
              exact bodyPost_ret (results_aw2 (i := 1) (v := .bool false) rfl _ HA rfl rfl rfl (by kernel_rfl)) rfl ⟨rfl, HA.below⟩
            | true =>
              rw [hok, if_pos rfl] at hns
              obtain ⟨xn, hxn⟩ : ∃ xn, (isaNum x.data.toList).1 = xn := ⟨_, rfl⟩
              have hnum := fun W hG => isa_number.calls x hxs W hG
              rw [hok, hxn] at hnum
              rw [hxn] at hns
              have HNS := Aside0.mk (show isaNums ((ws.map (·.data.toList)).drop 1) = (isaNums (((ws.map (·.data.toList)).drop 1).drop (j + 1))).map ((ns ++ [xn]) ++ ·) by
                rw [hns, Option.map_map]
                congr 1
                funext y
                simp)
              clear hns hok hxn
              have hap := hnm
              go_wp2_with (first | (go_at_call 56; refine (hnum _ (HG.out.mono HA.below)).mono ?_; rintro e W_ ⟨rfl, hb_⟩; replace HA := HA.call hb_; clear hb_) | ((with_reducible refine gate_dst (N := 47) rfl ?_); refine aw_newv (fun g => .slice (some ⟨g, 0, none⟩) 1 1) 3 [.int .i64 xn] rfl (fun W => by kernel_rfl) HA ?_; clear HA; intro gn W_ HA; simp only [Act.put, List.setIfInBounds_toArray, List.set_cons_succ, List.set_cons_zero]) | ((with_reducible refine gate_dst (N := 48) rfl ?_); refine aw_append 3 0 rfl Tryd.underlying92 int_info rfl (Nat.le_refl 1) rfl hownn rfl rfl HA rfl rfl rfl rfl ?_ ?_ ?_; (unfold maxLen; omega); (omega); clear HA; intro v_ W_ Lv_ hownn_ HA; dsimp only [List.set, List.take, List.cons_append, List.nil_append] at HA; simp only [Act.put, List.setIfInBounds_toArray, List.set_cons_succ, List.set_cons_zero]) | ((with_reducible refine gate_ld rfl ?_); (first | refine aw_loadR 0 rfl rfl HA rfl HWJ.out rfl ?_ ?_ | refine aw_loadW 0 (t := 34) rfl rfl HA rfl rfl ?_ ?_ | refine aw_loadW 1 (t := 34) rfl rfl HA rfl rfl ?_ ?_ | refine aw_load 0 rfl rfl HA rfl rfl rfl ?_ ?_ | refine aw_load 1 rfl rfl HA rfl rfl rfl ?_ ?_); kernel_rfl; simp only [Act.put, List.setIfInBounds_toArray, List.set_cons_succ, List.set_cons_zero]) | ((with_reducible refine gate_st rfl ?_); (first | refine aw_storeW 0 (t := 34) rfl rfl rfl rfl HA rfl rfl rfl ?_ rfl ?_ | refine aw_storeW 1 (t := 34) rfl rfl rfl rfl HA rfl rfl rfl ?_ rfl ?_); kernel_rfl; clear HA; intro W_ HA; dsimp only [List.set, List.take, List.cons_append, List.nil_append] at HA))
              go_roundg (m - (j + 1))
              case measure => omega
              case rel => exact ⟨j + 1, ns ++ [xn], Lv_, by omega, by go_num, by simp [HNL.out], HNS, by simpa using hownn_, HA.sub (List.sublist_cons_self _ _)⟩
          · have hje : j = m := by omega
            have j1 : decide (j < m) = false := decide_eq_false hjm
            have j2 : decide ((j : Int) < (m : Int)) = false := decide_eq_false (by omega)
            have hns := HNS.out
            have hdn : ((ws.map (·.data.toList)).drop 1).drop j = [] := List.drop_eq_nil_of_le (by simp [HNW.out]; have := HMM.out; omega)
            rw [hdn, isaNums] at hns
            have hns2 : isaNums ((ws.map (·.data.toList)).drop 1) = some ns := by rw [hns]; simp
            have hg := HGO.out
            rw [hns2] at hg
            dsimp only at hg
            clear hns hns2 hdn HNS HGO hjm hje
            have hnl60 : ns.length ≤ 1000 := by omega
            obtain ⟨An, cn_, rfl, hcn, hC⟩ := hownn.sli HA (fun x hx => List.mem_cons_of_mem _ (List.mem_cons_of_mem _ hx)) (by omega)
            have hfill := isa_fill.calls (k : Int) (by omega) ns hnl60 wr hC hcn
            have hsubl : ∀ (y : Nat × Blk), List.Sublist [(gw, Blk.r 9 1 cap (ws.map Value.string)), (g2, opZ)] (y :: (gw, Blk.r 9 1 cap (ws.map Value.string)) :: (g2, opZ) :: Lvn) := fun y => List.Sublist.cons _ (List.Sublist.cons_cons _ (List.Sublist.cons_cons _ (List.nil_sublist _)))
            have HSUB := Lib.hid hsubl
            clear hC hsubl
            cases hfl : isaFill (k : Int) ns with
            | none =>
              rw [hfl] at hg hfill
              dsimp only at hg
              have HGO := Aside0.mk hg
              clear hg hfl
              go_wp2_with (first | (go_at_call 57; refine (hfill.mono (fun _ _ h => fill_none h)).mono ?_; rintro e W_ ⟨K_, D_, A_, B_, N_, rfl, hb_⟩; replace HA := HA.call hb_; clear hb_) | ((with_reducible refine gate_dst (N := 11) rfl ?_); refine aw_alloc rfl rfl op_zero HA ?_; clear HA; intro g11 W_ HA; simp only [Act.put, List.setIfInBounds_toArray, List.set_cons_succ, List.set_cons_zero]) | ((with_reducible refine gate_ld rfl ?_); (first | refine aw_loadW 0 (t := 34) rfl rfl HA rfl rfl ?_ ?_ | refine aw_loadW 1 (t := 34) rfl rfl HA rfl rfl ?_ ?_ | refine aw_load 0 rfl rfl HA rfl rfl rfl ?_ ?_ | refine aw_load 1 rfl rfl HA rfl rfl rfl ?_ ?_); kernel_rfl; simp only [Act.put, List.setIfInBounds_toArray, List.set_cons_succ, List.set_cons_zero]) | ((with_reducible refine gate_st rfl ?_); (first | refine aw_storeW 0 (t := 34) rfl rfl rfl rfl HA rfl rfl rfl ?_ rfl ?_ | refine aw_storeW 1 (t := 34) rfl rfl rfl rfl HA rfl rfl rfl ?_ rfl ?_); kernel_rfl; clear HA; intro W_ HA; dsimp only [List.set, List.take, List.cons_append, List.nil_append] at HA))
              go_roundg g
              case measure => omega
              case rel => exact ⟨k + 1, by omega, by go_num, HGO, HA.sub (HSUB.out _)⟩
            | some r =>
              --SOME
              obtain ⟨D, A, B, N⟩ := r
              rw [hfl] at hg hfill
              dsimp only at hg
              obtain ⟨T, hT, hT2⟩ : ∃ T : ByteArray, isa_Show.f (k : Int) D A B N = some T ∧ T.data.toList = isaText (k : Int) D A B N := ⟨_, show_text _ _ _ _ _, by simp⟩
              have HT := Lib.hid hT
              rw [← hT2] at hg
              clear hT hT2 hfl
              by_cases ht : T = s
              · subst ht
                rw [if_pos rfl] at hg
                subst hg
                have ct : (T.toList == T.toList) = true := beq_self_eq_true _
                go_wp2_with (first | (go_at_call 57; refine (hfill.mono (fun _ _ h => fill_some h)).mono ?_; rintro e W_ ⟨rfl, hb_⟩; replace HA := HA.call hb_; clear hb_) | ((with_reducible refine gate_dst (N := 11) rfl ?_); refine aw_alloc rfl rfl op_zero HA ?_; clear HA; intro g11 W_ HA; simp only [Act.put, List.setIfInBounds_toArray, List.set_cons_succ, List.set_cons_zero]) | (go_at_call 47; refine (isa_Show.calls (k : Int) D A B N _ _ (HG.out.mono HA.below) HT.out).mono ?_; rintro e W_ ⟨rfl, hb_⟩; replace HA := HA.call hb_; clear hb_) | ((with_reducible refine gate_ld rfl ?_); (first | refine aw_loadW 0 (t := 34) rfl rfl HA rfl rfl ?_ ?_ | refine aw_loadW 1 (t := 34) rfl rfl HA rfl rfl ?_ ?_ | refine aw_loadW 2 (t := 34) rfl rfl HA rfl rfl ?_ ?_ | refine aw_load 0 rfl rfl HA rfl rfl rfl ?_ ?_ | refine aw_load 1 rfl rfl HA rfl rfl rfl ?_ ?_ | refine aw_load 2 rfl rfl HA rfl rfl rfl ?_ ?_); kernel_rfl; simp only [Act.put, List.setIfInBounds_toArray, List.set_cons_succ, List.set_cons_zero]) | ((with_reducible refine gate_st rfl ?_); (first | refine aw_storeW 0 (t := 34) rfl rfl rfl rfl HA rfl rfl rfl ?_ rfl ?_ | refine aw_storeW 1 (t := 34) rfl rfl rfl rfl HA rfl rfl rfl ?_ rfl ?_ | refine aw_storeW 2 (t := 34) rfl rfl rfl rfl HA rfl rfl rfl ?_ rfl ?_); kernel_rfl; clear HA; intro W_ HA; dsimp only [List.set, List.take, List.cons_append, List.nil_append] at HA))
                (try rw [Exit.noGoto_ret])
                (try go_ret)
                rw [← HP.out]
                exact bodyPost_ret (results_aw2 (i := 2) (v := .bool true) rfl _ HA rfl rfl rfl (by kernel_rfl)) rfl ⟨rfl, HA.below⟩
              · rw [if_neg (fun e => ht ((ba_eq _ _).2 e))] at hg
                have HGO := Aside0.mk hg
                have ct : (T.toList == s.toList) = false := by rw [beq_eq_false_iff_ne, ByteArray.toList_eq, ByteArray.toList_eq]; exact fun e => ht ((ba_eq _ _).2 e)
                clear hg ht
                go_wp2_with (first | (go_at_call 57; refine (hfill.mono (fun _ _ h => fill_some h)).mono ?_; rintro e W_ ⟨rfl, hb_⟩; replace HA := HA.call hb_; clear hb_) | ((with_reducible refine gate_dst (N := 11) rfl ?_); refine aw_alloc rfl rfl op_zero HA ?_; clear HA; intro g11 W_ HA; simp only [Act.put, List.setIfInBounds_toArray, List.set_cons_succ, List.set_cons_zero]) | (go_at_call 47; refine (isa_Show.calls (k : Int) D A B N _ _ (HG.out.mono HA.below) HT.out).mono ?_; rintro e W_ ⟨rfl, hb_⟩; replace HA := HA.call hb_; clear hb_) | ((with_reducible refine gate_ld rfl ?_); (first | refine aw_loadW 0 (t := 34) rfl rfl HA rfl rfl ?_ ?_ | refine aw_loadW 1 (t := 34) rfl rfl HA rfl rfl ?_ ?_ | refine aw_loadW 2 (t := 34) rfl rfl HA rfl rfl ?_ ?_ | refine aw_load 0 rfl rfl HA rfl rfl rfl ?_ ?_ | refine aw_load 1 rfl rfl HA rfl rfl rfl ?_ ?_ | refine aw_load 2 rfl rfl HA rfl rfl rfl ?_ ?_); kernel_rfl; simp only [Act.put, List.setIfInBounds_toArray, List.set_cons_succ, List.set_cons_zero]) | ((with_reducible refine gate_st rfl ?_); (first | refine aw_storeW 0 (t := 34) rfl rfl rfl rfl HA rfl rfl rfl ?_ rfl ?_ | refine aw_storeW 1 (t := 34) rfl rfl rfl rfl HA rfl rfl rfl ?_ rfl ?_ | refine aw_storeW 2 (t := 34) rfl rfl rfl rfl HA rfl rfl rfl ?_ rfl ?_); kernel_rfl; clear HA; intro W_ HA; dsimp only [List.set, List.take, List.cons_append, List.nil_append] at HA))
                go_roundg g
                case measure => omega
                case rel => exact ⟨k + 1, by omega, by go_num, HGO, HA.sub (HSUB.out _)⟩
end Go.Proofs.YtlhkojnocconfaaDoor.Q
