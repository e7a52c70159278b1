/- gc.Collect: what is still asked for, copied: the whole. By wip/gen/gc_coll.py. -/
import Derived.Test.YtnkbfbhhioemoaaQx0
import Derived.Test.YtnkbfbhhioemoaaAw
import Derived.Test.YtnkbfbhhioemoaaAwFrame
import Derived.Test.YtnkbfbhhioemoaaAwMap
import Derived.Test.YtnkbfbhhioemoaaAwRow
import Derived.Test.YtnkbfbhhioemoaaAwSl
import Derived.Test.YtnkbfbhhioemoaaGcBlk
import Derived.Test.YtnkbfbhhioemoaaGcModel
import Derived.Test.YtnkbfbhhioemoaaGcMove
import Derived.Test.YtnkbfbhhioemoaaHgcChange
import Derived.Test.YtnkbfbhhioemoaaHgcCollE
import Derived.Test.YtnkbfbhhioemoaaHgcMeet
import Derived.Test.YtnkbfbhhioemoaaHgcReach
import Derived.Test.YtnkbfbhhioemoaaHgcReachW
import Derived.Test.YtnkbfbhhioemoaaHgcRoom
--@needs XHgcCollE
--@needs XGcMove
--@needs XAwRow
--@uses (camlet/gc.half).leads
--@uses (camlet/gc.half).block
import Derived.LoopTactic
import Derived.Deep.LoopGhost
import Derived.Lib.Hide
import Derived.Deep.QuietTactic
import Derived.BigQuiet
import Derived.IntWalk
import Derived.StillTailTactics
import Derived.Outline
namespace Go.Proofs.Ytnkbfbhhioemoaa.Q
open Go.RowKit Go.Proofs.YtnkbfbhhioemoaaW.PrintWords Go.Proofs.YtnkbfbhhioemoaaW.PrintLast Go.Proofs.YtnkbfbhhioemoaaW.PrintMore
attribute [local go_sem] max2_int min2_int max_two min_two max_three min_three max_four min_four   -- for this text's walks alone
set_option linter.unusedVariables false
set_option linter.unusedSimpArgs false

open Go.Maps
theorem u_info : (Try.prog.info? 41).map (fun i => (i.zero, i.size, i.bytes)) = some (some (.int .u32 0), 1, 4) := by kernel_rfl
theorem u_size : (Try.prog.info? 41).map (·.size) = some 1 := by kernel_rfl
theorem movedF_nil (blk : Int → Int) (t : Int) : movedF (gMoved blk t []) = fun _ => none := by
  funext k
  unfold movedF gMoved
  split <;> rfl
theorem movedF_put {blk : Int → Int} {t a : Int} {l : List Int} (h : a ∉ l) : putf (movedF (gMoved blk t l)) (.int .i64 a) (t + gWords blk l) = movedF (gMoved blk t (l ++ [a])) := by
  funext k
  unfold putf
  by_cases e : k = .int .i64 a
  · subst e
    rw [if_pos rfl]
    show _ = gMoved blk t (l ++ [a]) a
    rw [gMoved_append, gMoved_none h, if_pos rfl]
  · rw [if_neg e]
    unfold movedF
    split
    · rename_i i
      have : i ≠ a := fun h => e (by rw [h])
      rw [gMoved_append]
      cases gMoved blk t l i with
      | some v => rfl
      | none => rw [if_neg this]
    · rfl
theorem C_cells {w : World} {q : IntKind} {A : Option Addr} {xs : List Int} (h : Kd.C (Kd.int q) w A xs.length xs) : 0 < (xs.map (Value.int q)).length → ∃ ad, A = some ad ∧ ∀ j v, (xs.map (Value.int q))[j]? = some v → w.cell? (ad.add j) = some v := by
  intro h0
  rw [List.length_map] at h0
  obtain ⟨ad, rfl, _⟩ := Kd.at_int h 0 (by omega) (by omega)
  refine ⟨ad, rfl, fun j v hj => ?_⟩
  have hl : j < xs.length := by
    have := (List.getElem?_eq_some_iff.1 hj).1
    simpa using this
  obtain ⟨ad', e, hc⟩ := Kd.at_int h (j : Int) (by omega) (by omega)
  injection e with e
  subst e
  rw [Int.toNat_natCast] at hc
  rw [hc]
  rw [List.getElem?_map, List.getElem?_eq_getElem hl] at hj
  have : v = .int q xs[j] := (Option.some.inj hj).symm
  rw [this]
  unfold rd
  rw [List.getD_eq_getElem?_getD, Int.toNat_natCast, List.getElem?_eq_getElem hl]
  rfl
/-- what Collect knows of its memory, the output's row ahead -/
abbrev coL (blk : Int → Int) (bm mm bc gc sm tm : Nat) (mv : Int → Option Int) (n : Nat) (M v : Value) (F T : Int) (l : List Int) (Lv : List (Nat × Blk)) : List (Nat × Blk) :=
  (bm, .c 54 [.map (some mm)]) :: (mm, Blk.m Try.prog 3 3 .i64 n (movedF mv)) :: (bc, .c 45 [.pointer (some ⟨gc, 0, none⟩)]) :: (gc, .c 56 [M, .int .i64 F, .int .i64 T, v, .map (some sm), .map (some tm), .int .i64 (gWords blk l)]) ::
   (sm, Blk.m Try.prog 3 3 .i64 l.length (sizesF blk l)) :: (tm, Blk.m Try.prog 3 3 .i64 (gWords blk l).toNat (takenF blk l 0 0)) :: Lv
theorem cut_low {P : Program} (t e : TypeId) (kl : IntKind) {i : TypeInfo} (ht : P.underlying t = some (.slice e)) (hi : P.info? e = some i) (hsz : i.size = 1) (g n m : Nat) (hm : m < n) :
    ∀ W : World, (Instr.slice t (.slice (some ⟨g, 0, none⟩) n n) (some (.int kl (m : Int))) none none).run P W = .ok (.slice (some ⟨g, m, none⟩) (n - m) (n - m)) W := by
  intro W
  have hel : P.elem t = e := by simp [Program.elem, ht]
  have hu : P.underlying t = some (.slice (P.elem t)) := by rw [hel]; exact ht
  rw [run_slice_l W t (some ⟨g, 0, none⟩) n n hu kl (m : Int) (Int.natCast_nonneg _) (by omega), hel]
  have hne : ¬ n = m := by omega
  simp [sizeOf, typeInfo, hi, hsz, sliced, Result.andThen, hne, Addr.add_mid]
set_option maxHeartbeats 8000000 in
set_option maxRecDepth 100000 in
theorem gc_Collect.main (A0 : Option Addr) (c0 : Nat) (l0 : List Int) (a1 : Int) (a2 : Int) (a3 : Int) (A4 : Option Addr) (c4 : Nat) (l4 : List Int) (w : World) (hr0 : Kd.C (Kd.int .u32) w A0 l0.length l0) (hc0 : l0.length ≤ c0) (hr4 : Kd.C (Kd.int .u32) w A4 l4.length l4) (hc4 : l4.length ≤ c4) (hok : w32 l0 ∧ w32 l4)
    (hb : ¬ (a1 < 0 ∨ a2 < a1 ∨ (l0.length : Int) < a2)) (hth : ¬ (a3 < 0 ∨ (l0.length : Int) < a3)) (hro : gRoomOk l0.length a1 a2 a3 = true) (l : List Int) (hg : gReach l0 a1 a2 (gBlk l0 a2) l4 = some l) (hw : ¬ gRoom l0.length a1 a2 a3 < gWords (gBlk l0 a2) l) :
    Calls Try.prog 10 #[.slice A0 l0.length c0, .int .i64 a1, .int .i64 a2, .int .i64 a3, .slice A4 l4.length c4] w fun e w' => ∃ v0_ v1_ : Value, e = .returned (.tuple #[v0_, v1_, .int .i64 (a3 + gWords (gBlk l0 a2) l), .int .i64 0]) ∧ Kd.R (Kd.int .u32) 41 w' w.heap.size (fun k_ => some k_ ≠ (v1_ : Value).ownBlock) v0_ (gLay l0 (gBlk l0 a2) (gChange a1 a2 (gMoved (gBlk l0 a2) a3 l)) a3 l l0) ∧ Kd.R (Kd.int .u32) 41 w' w.heap.size (fun k_ => some k_ ≠ (v0_ : Value).ownBlock) v1_ (l4.map (gChange a1 a2 (gMoved (gBlk l0 a2) a3 l))) ∧ Below w.heap.size w w' := by
  have hgood := gc_begin.good (gBlk l0 a2) A0 l0.length c0 a1 a2 w hb
  have hroom := fun W gc => gc_room.calls (W := W) (gc := gc) (A0 := A0) (n := l0.length) (c0 := c0) (F := a1) (T := a2) (there := a3) hok.1.1 (by omega) (by omega) (by omega)
  rw [if_neg hth, if_neg hth, hro] at hroom
  have hgi := gReach_inv (gBlk_ok l0 a1 a2) (by omega) (by omega) (by omega) hg
  have hreach := fun W gc sm tm (x : Nat × Blk) (HA : Aw noS w W (gcL (gBlk l0 a2) gc sm tm (.slice A0 l0.length c0) (.slice none 0 0) a1 a2 [] ++ [x])) => (frame_reach hr0 hc0 hok.1 hb rfl hr4 hc4 hok.2 HA).mono (fun e W' hp => hp.2 l hg)
  have hgw := hgi.words (by omega)
  have hgl := hgi.words_len
  obtain ⟨rn, hrn⟩ : ∃ rn, gRoom l0.length a1 a2 a3 = rn := ⟨_, rfl⟩
  rw [hrn] at hroom hw
  have hrb : rn ≤ l0.length - a3 := by rw [← hrn]; unfold gRoom; split <;> omega
  have cw := decide_eq_false hw
  have hlen := hok.1.1
  have hlen4 := hok.2.1
  have HOK := Aside0.mk hok
  have HGI := Aside0.mk hgi
  have HR0 := Aside0.mk hr0
  have HR4 := Aside0.mk hr4
  have hF : 0 ≤ a1 := by omega
  have hFT : a1 ≤ a2 := by omega
  have hT : a2 ≤ l0.length := by omega
  have h3 : 0 ≤ a3 := by omega
  have h3b : a3 + gWords (gBlk l0 a2) l ≤ l0.length := by omega
  obtain ⟨mv, hmv⟩ : ∃ mv, gMoved (gBlk l0 a2) a3 l = mv := ⟨_, rfl⟩
  rw [hmv]
  have hmvb : ∀ k v, mv k = some v → 0 ≤ v ∧ v ≤ 1000000 := by
    intro k v hkv
    rw [← hmv] at hkv
    obtain ⟨pre, post, e, rfl⟩ := gMoved_some hkv
    have h1 := gWords_append (gBlk l0 a2) pre (k :: post)
    rw [← e] at h1
    have h2 := gWords_nonneg (blk := gBlk l0 a2) (l := pre) (fun b hb => HGI.out.nonneg b (by rw [e]; simp [hb]))
    have h4 := gWords_nonneg (blk := gBlk l0 a2) (l := k :: post) (fun b hb => HGI.out.nonneg b (by rw [e]; exact List.mem_append_right _ hb))
    omega
  have HMV := Aside0.mk hmv
  have HMB := Aside0.mk hmvb
  clear hmv hmvb
  obtain ⟨chg, hchg⟩ : ∃ chg, gChange a1 a2 mv = chg := ⟨_, rfl⟩
  rw [hchg]
  have HCG := Aside0.mk (show ∀ x, gChange a1 a2 mv x = chg x from fun x => by rw [hchg])
  have hchange := fun (W : World) (nm bm mm bc gc : Nat) (tl : List Value) (R : List (Nat × Blk)) (x : Int) (hx : 0 ≤ x ∧ x < 4294967296) HA => gc_change.calls (w := w) (W := W) (bm := bm) (mm := mm) (bc := bc) (gc := gc) (nm := nm) (tl := tl) (R := R) x HR0.out hc0 hlen hF hFT hT hx.1 hx.2 HMB.out HA
  rw [hchg] at hchange
  have HCH := Lib.hid hchange
  clear hchange
  clear hchg
  clear hok hg hr0 hr4 hro hth hb hgi hrn
  go_enter Try.func10, Try.ntmps10
  go_wp2_with (first | (go_at_call 20; refine hgood.mono ?_; rintro e W_ ⟨gc, sm, tm, rfl, HA⟩) | ((with_reducible refine gate_dst (N := 14) rfl ?_); refine aw_alloc rfl rfl cp_zero HA ?_; clear HA; intro bc W_ HA; simp only [Act.put, List.setIfInBounds_toArray, List.set_cons_succ, List.set_cons_zero]) | (go_at_call 21; refine (hroom _ gc (HA.cell (i := 1) (j := 0) rfl rfl) (HA.cell (i := 1) (j := 1) rfl rfl) (HA.cell (i := 1) (j := 2) rfl rfl)).mono ?_; rintro e W_ ⟨rfl, hd⟩; replace HA := HA.drewN0 hd; clear hd) | (go_at_call 22; refine (hreach _ gc sm tm _ (Aw.rot HA)).mono ?_; clear HA; rintro e W_ ⟨rfl, v_, Lv, hown, HA⟩; replace HA := Aw.unrot HA; obtain ⟨A_, c_, rfl⟩ := hown.form) | ((with_reducible refine gate_dst (N := 60) rfl ?_); refine aw_makemap 3 3 .i64 rfl rfl HA ?_; clear HA; intro mm W_ HA; simp only [Act.put, List.setIfInBounds_toArray, List.set_cons_succ, List.set_cons_zero]) | ((with_reducible refine gate_dst (N := 17) rfl ?_); refine aw_alloc rfl rfl mp_zero HA ?_; clear HA; intro bm W_ HA; simp only [Act.put, List.setIfInBounds_toArray, List.set_cons_succ, List.set_cons_zero]) | ((with_reducible refine gate_ld rfl ?_); (first | refine aw_load 0 rfl rfl HA rfl rfl rfl ?_ ?_ | refine aw_load 1 rfl rfl HA rfl rfl rfl ?_ ?_ | refine aw_load 2 rfl rfl HA rfl rfl rfl ?_ ?_ | refine aw_load 3 rfl rfl HA rfl rfl rfl ?_ ?_ | refine aw_load 4 rfl rfl HA rfl rfl rfl ?_ ?_ | refine aw_load 5 rfl rfl HA rfl rfl rfl ?_ ?_); kernel_rfl; simp only [Act.put, List.setIfInBounds_toArray, List.set_cons_succ, List.set_cons_zero]) | ((with_reducible refine gate_st rfl ?_); (first | refine aw_store 0 (v := .pointer _) rfl rfl rfl rfl rfl HA rfl rfl rfl ?_ ?_ | refine aw_store 0 (v := .map _) rfl rfl rfl rfl rfl HA rfl rfl rfl ?_ ?_); kernel_rfl; clear HA; intro W_ HA; dsimp only [List.set, List.take, List.cons_append, List.nil_append] at HA))
  go_loopg [18, 67] (l.length) (fun g e_ i wx => ∃ (k : Nat), k + g = l.length ∧ i = .int .i64 k ∧ e_ = .int .i64 (a3 + gWords (gBlk l0 a2) (l.take k)) ∧ Aw noS w wx (coL (gBlk l0 a2) bm mm bc gc sm tm (gMoved (gBlk l0 a2) a3 (l.take k)) k (.slice A0 l0.length c0) (.slice A_ l.length c_) a1 a2 l Lv))
  case atStart => exact ⟨0, by omega, rfl, by simp [gWords], by rw [List.take_zero, coL, movedF_nil]; exact HA⟩
  case round =>
    clear HA
    obtain ⟨k, hk, rfl, rfl, HA⟩ := hrel
    by_cases hlt : k < l.length
    · have ck1 : decide ((k : Int) < (l.length : Int)) = true := decide_eq_true (by omega)
      have ck2 : decide (k < l.length) = true := decide_eq_true hlt
      have ck3 : 0 ≤ (k : Int) := by omega
      obtain ⟨a, ha⟩ : ∃ a, l[k] = a := ⟨_, rfl⟩
      have hal : a ∈ l := ha ▸ List.getElem_mem hlt
      have hma := HGI.out.mem a hal
      have htk : l.take (k + 1) = l.take k ++ [a] := by rw [List.take_succ_eq_append_getElem hlt, ha]
      have hnm : a ∉ l.take k := by
        have hd := HGI.out.nodup
        rw [← List.take_append_drop (k + 1) l, htk, List.append_assoc, List.nodup_append] at hd
        intro h
        exact hd.2.2 a h a (by simp) rfl
      have hgk : gWords (gBlk l0 a2) (l.take (k + 1)) = gWords (gBlk l0 a2) (l.take k) + gBlk l0 a2 a := by rw [htk, gWords_append]; simp [gWords]
      have hgk0 : 0 ≤ gWords (gBlk l0 a2) (l.take k) := gWords_nonneg (fun b hb => HGI.out.nonneg b (List.mem_of_mem_take hb))
      have hgk1 : gWords (gBlk l0 a2) (l.take (k + 1)) ≤ gWords (gBlk l0 a2) l := by
        have h1 := gWords_append (gBlk l0 a2) (l.take (k + 1)) (l.drop (k + 1))
        rw [List.take_append_drop] at h1
        have h2 := gWords_nonneg (blk := gBlk l0 a2) (l := l.drop (k + 1)) (fun b hb => HGI.out.nonneg b (List.mem_of_mem_drop hb))
        omega
      obtain ⟨p, hp⟩ : ∃ p, a3 + gWords (gBlk l0 a2) (l.take k) = p := ⟨_, rfl⟩
      have hpb : 0 ≤ p ∧ p + gBlk l0 a2 a ≤ l0.length := by omega
      have HMV := Aside0.mk (movedF_put (blk := gBlk l0 a2) (t := a3) hnm)
      have HP := Aside0.mk hp
      have HTK := Aside0.mk htk
      have HGK := Aside0.mk hgk
      have HMN := Aside0.mk (show movedF (gMoved (gBlk l0 a2) a3 (l.take k)) (.int .i64 a) = none from gMoved_none hnm)
      rw [hp]
      obtain ⟨g2, cap2, hv, hcell⟩ := hown.cell HA (fun x hx => by simp [coL, hx]) (j := k) (u := .int .i64 a) (by simp [List.getElem?_eq_getElem hlt, ha])
      injection hv with hv1 hv2 hv3
      subst hv1 hv3
      have hka : keyOf Try.prog 3 (.int .i64 a) = some (.int .i64 a) := i_key (by omega) (by omega)
      have hsa : (sizesF (gBlk l0 a2) l (.int .i64 a)).getD 0 = gBlk l0 a2 a := by unfold sizesF; simp [hal]
      have hwf : (Lit.int .i64 p).wf = true := i_wf (by omega) (by omega)
      have hkn : k < maxLen := by unfold maxLen; omega
      have hlk : l.length ≤ 1000000 := by omega
      clear hp htk hgk hnm hgk0 hgk1 ha
      go_wp2_with (first | ((with_reducible refine gate_dst (N := 80) rfl ?_); refine aw_lookup 4 (f := sizesF (gBlk l0 a2) l) (kl := .int .i64 a) i_keyed ii_under i_under i_zero rfl rfl rfl rfl HA rfl hka hsa ?_; simp only [Act.put, List.setIfInBounds_toArray, List.set_cons_succ, List.set_cons_zero]) | ((with_reducible refine gate_ld rfl ?_); (first | refine aw_load 0 rfl rfl HA rfl rfl rfl ?_ ?_ | refine aw_load 1 rfl rfl HA rfl rfl rfl ?_ ?_ | refine aw_load 2 rfl rfl HA rfl rfl rfl ?_ ?_ | refine aw_load 3 rfl rfl HA rfl rfl rfl ?_ ?_); kernel_rfl; simp only [Act.put, List.setIfInBounds_toArray, List.set_cons_succ, List.set_cons_zero]) | ((with_reducible refine gate_mu rfl ?_); (refine aw_mapput 1 (kl := .int .i64 a) i_keyed ii_under i_under rfl rfl rfl rfl rfl rfl HA rfl hka hwf hkn ?_); clear HA; intro W_ HA; dsimp only [List.set, List.take, List.cons_append, List.nil_append] at HA))
      go_roundg (l.length - (k + 1))
      case measure => omega
      case rel =>
        refine ⟨k + 1, by omega, by go_num, congrArg (Value.int .i64) (by rw [HGK.out, ← HP.out]; omega), ?_⟩
        refine Aw.congr HA ?_
        rw [HTK.out]
        unfold coL
        rw [← HMV.out, HP.out, HMN.out]
        rfl
    · obtain rfl : k = l.length := by omega
      have ck1 : decide ((l.length : Int) < (l.length : Int)) = false := decide_eq_false (by omega)
      have ck2 : decide (l.length < l.length) = false := decide_eq_false hlt
      have HT := Aside0.mk (show l.take l.length = l from List.take_length)
      rw [HT.out] at HA ⊢
      have hk0 : 0 ≤ gWords (gBlk l0 a2) l := by omega
      clear hlt hk
      rw [HMV.out] at HA
      go_wp2_with (first | ((with_reducible refine gate_dst (N := 86) rfl ?_); refine aw_make_row l0.length rfl Try.underlying22 u_info rfl rfl rfl rfl HA (by omega) (by omega) ?_; clear HA; intro ob W_ HA; simp only [Act.put, List.setIfInBounds_toArray, List.set_cons_succ, List.set_cons_zero]) | ((with_reducible refine gate_dst (N := 89) rfl ?_); refine aw_copy 0 l0.length (off := 0) rfl Try.underlying22 u_size rfl rfl rfl HA rfl (l0.map (Value.int .u32)) (by simp) (by simp) (fun h0 => ⟨rfl, C_cells (HA.1.reads HR0.out) h0⟩) (by simp) (by simp; intros; rfl) ?_; clear HA; intro W_ HA; rw [splice_whole _ _ (by simp)] at HA; dsimp only [List.set, List.take, List.cons_append, List.nil_append] at HA; simp only [Act.put, List.setIfInBounds_toArray, List.set_cons_succ, List.set_cons_zero]) | ((with_reducible refine gate_ld rfl ?_); (first | refine aw_load 0 rfl rfl HA rfl rfl rfl ?_ ?_ | refine aw_load 1 rfl rfl HA rfl rfl rfl ?_ ?_ | refine aw_load 2 rfl rfl HA rfl rfl rfl ?_ ?_ | refine aw_load 3 rfl rfl HA rfl rfl rfl ?_ ?_ | refine aw_load 4 rfl rfl HA rfl rfl rfl ?_ ?_ | refine aw_load 5 rfl rfl HA rfl rfl rfl ?_ ?_); kernel_rfl; simp only [Act.put, List.setIfInBounds_toArray, List.set_cons_succ, List.set_cons_zero]))
      go_loopg [95] (l.length) (fun g i wx => ∃ (k : Nat), k + g = l.length ∧ i = .int .i64 k ∧ Aw noS w wx ((ob, .c 41 ((gLay l0 (gBlk l0 a2) chg a3 (l.take k) l0).map (Value.int .u32))) :: coL (gBlk l0 a2) bm mm bc gc sm tm mv l.length (.slice A0 l0.length c0) (.slice A_ l.length c_) a1 a2 l Lv))
      case atStart => exact ⟨0, by omega, rfl, HA⟩
      case round =>
        clear HA
        obtain ⟨k, hk, rfl, HA⟩ := hrel
        by_cases hlt : k < l.length
        · have ck1 : decide ((k : Int) < (l.length : Int)) = true := decide_eq_true (by omega)
          have ck2 : decide (k < l.length) = true := decide_eq_true hlt
          have ck3 : 0 ≤ (k : Int) := by omega
          obtain ⟨a, ha⟩ : ∃ a, l[k] = a := ⟨_, rfl⟩
          have hal : a ∈ l := ha ▸ List.getElem_mem hlt
          have hma := HGI.out.mem a hal
          have htk : l.take (k + 1) = l.take k ++ [a] := by rw [List.take_succ_eq_append_getElem hlt, ha]
          have hnm : a ∉ l.take k := by
            have hd := HGI.out.nodup
            rw [← List.take_append_drop (k + 1) l, htk, List.append_assoc, List.nodup_append] at hd
            intro h
            exact hd.2.2 a h a (by simp) rfl
          have hgk0 : 0 ≤ gWords (gBlk l0 a2) (l.take k) := gWords_nonneg (fun b hb => HGI.out.nonneg b (List.mem_of_mem_take hb))
          have hgk1 : gWords (gBlk l0 a2) (l.take k) + gBlk l0 a2 a ≤ gWords (gBlk l0 a2) l := by
            have h1 := gWords_append (gBlk l0 a2) (l.take (k + 1)) (l.drop (k + 1))
            rw [List.take_append_drop, htk, gWords_append] at h1
            have h2 := gWords_nonneg (blk := gBlk l0 a2) (l := l.drop (k + 1)) (fun b hb => HGI.out.nonneg b (List.mem_of_mem_drop hb))
            simp only [gWords] at h1
            omega
          obtain ⟨p, hp⟩ : ∃ p : Nat, a3 + gWords (gBlk l0 a2) (l.take k) = p := ⟨(a3 + gWords (gBlk l0 a2) (l.take k)).toNat, by omega⟩
          have hpb : (p : Int) + gBlk l0 a2 a ≤ l0.length := by omega
          have hmva : mv a = some (p : Int) := by
            have e2 := gMoved_mid (blk := gBlk l0 a2) (t := a3) (post := l.drop (k + 1)) hnm
            rw [show l.take k ++ a :: l.drop (k + 1) = l from by rw [← ha, ← List.drop_eq_getElem_cons hlt, List.take_append_drop]] at e2
            rw [← HMV.out, ← hp]
            exact e2
          have HP := Aside0.mk hp
          have HTK := Aside0.mk htk
          obtain ⟨O, hO⟩ : ∃ O, gLay l0 (gBlk l0 a2) chg a3 (l.take k) l0 = O := ⟨_, rfl⟩
          have hOl : O.length = l0.length := by
            rw [← hO]
            exact gLay_len (F := a1) (T := a2) hF hT ⟨fun b hb => HGI.out.mem b (List.mem_of_mem_take hb), HGI.out.apart.sublist (List.take_sublist _ _)⟩ h3 (by omega)
          rw [hO] at HA
          have HO := Aside0.mk hO
          have HOL := Aside0.mk hOl
          obtain ⟨g2, cap2, hv, hcell⟩ := hown.cell HA (fun x hx => by simp [coL, hx]) (j := k) (u := .int .i64 a) (by simp [List.getElem?_eq_getElem hlt, ha])
          injection hv with hv1 hv2 hv3
          subst hv1 hv3
          have hka : keyOf Try.prog 3 (.int .i64 a) = some (.int .i64 a) := i_key (by omega) (by omega)
          have hsa : (sizesF (gBlk l0 a2) l (.int .i64 a)).getD 0 = gBlk l0 a2 a := by unfold sizesF; simp [hal]
          have hma2 : (movedF mv (.int .i64 a)).getD 0 = (p : Int) := by show (mv a).getD 0 = _; rw [hmva]; rfl
          have hkk := gKids_len (m := l0) HGI.out hF hT hal
          have hlk2 : l.length ≤ 1000000 := by omega
          clear hp htk hgk0 hgk1 ha hmva hO hOl hnm
          go_wp2_with (first | ((with_reducible refine gate_dst (N := 101) rfl ?_); refine aw_lookup 2 (f := movedF mv) (kl := .int .i64 a) i_keyed ii_under i_under i_zero rfl rfl rfl rfl HA rfl hka hma2 ?_; simp only [Act.put, List.setIfInBounds_toArray, List.set_cons_succ, List.set_cons_zero]) | ((with_reducible refine gate_ld rfl ?_); (first | refine aw_load 0 rfl rfl HA rfl rfl rfl ?_ ?_ | refine aw_load 1 rfl rfl HA rfl rfl rfl ?_ ?_ | refine aw_load 2 rfl rfl HA rfl rfl rfl ?_ ?_ | refine aw_load 3 rfl rfl HA rfl rfl rfl ?_ ?_ | refine aw_load 4 rfl rfl HA rfl rfl rfl ?_ ?_ | refine aw_load 5 rfl rfl HA rfl rfl rfl ?_ ?_); kernel_rfl; simp only [Act.put, List.setIfInBounds_toArray, List.set_cons_succ, List.set_cons_zero]))
          obtain ⟨ui, hui, _, huz, _⟩ := info_parts u_info
          have hcut2 := cut_mid (P := Try.prog) 22 41 .i64 .i64 Try.underlying22 hui 1 huz A0 l0.length c0 a (a + gBlk l0 a2 a) (by omega) (by omega) (by omega) hc0
          have hcut1 := cut_low (P := Try.prog) 22 41 .i64 Try.underlying22 hui huz ob l0.length p (by omega)
          have hsrc := Kd.C_mid (HA.1.reads HR0.out) (lo := a.toNat) (hi := (a + gBlk l0 a2 a).toNat) (by omega) (by omega) hc0
          rw [gPart_zero (chg := chg) (by omega) (by omega) (by omega)] at hsrc
          obtain ⟨A2, hA2⟩ : ∃ A2, (if c0 = a.toNat then A0 else A0.map (·.add (a.toNat * 1))) = A2 := ⟨_, rfl⟩
          replace hsrc : Kd.C (Kd.int .u32) wr (if c0 = a.toNat then A0 else A0.map (·.add (a.toNat * 1))) (gPart l0 (gBlk l0 a2) chg a 0).length (gPart l0 (gBlk l0 a2) chg a 0) := hsrc
          rw [hA2] at hsrc hcut2
          have HSRC := Aside0.mk hsrc
          clear hA2
          have k3 := HA.cell (i := 3) (j := 0) rfl rfl
          have k4 := HA.cell (i := 4) (j := 4) rfl rfl
          have hlk : (Instr.lookup 54 (.map (some sm)) (.int .i64 a) false).run Try.prog wr.drew = .ok (.int .i64 (gBlk l0 a2 a)) wr.drew := (HA.drew).lookup_run 5 i_keyed ii_under i_under i_zero rfl hka hsa
          have s1 : IntKind.i64.wrap (a + gBlk l0 a2 a) = a + gBlk l0 a2 a := IntWalk.i64_in _ (by omega)
          clear hsrc hui huz
          have hn_ : ((gPart l0 (gBlk l0 a2) chg a 0).map (Value.int .u32)).length = Nat.min ((a + gBlk l0 a2 a).toNat - a.toNat) (l0.length - p) := by
            rw [List.length_map, gPart_len]
            show _ = min _ _
            omega
          have hf_ : p + ((gPart l0 (gBlk l0 a2) chg a 0).map (Value.int .u32)).length ≤ (O.map (Value.int .u32)).length := by
            rw [List.length_map, List.length_map, gPart_len, HOL.out]; omega
          have hl_ : ((gPart l0 (gBlk l0 a2) chg a 0).map (Value.int .u32)).all (·.oneCell') = true := by simp; intros; rfl
          obtain ⟨nn, hnn⟩ : ∃ nn, ((gPart l0 (gBlk l0 a2) chg a 0).map (Value.int .u32)).length = nn := ⟨_, rfl⟩
          have HNN := Lib.hid hnn
          have HN_ := Lib.hid hn_
          have HF_ := Lib.hid hf_
          have HL_ := Lib.hid hl_
          clear hn_ hf_ hl_ hnn
          go_still_tail 14, (by kernel_rfl)
          clear k3 k4 hlk hcut1 hcut2 s1 hcell
          replace HA := HA.drew
          change wpList _ _ _ _ _ wr.drew
          go_wp2_with (first | ((with_reducible refine gate_dst (N := 116) rfl ?_); refine aw_copy 0 nn (off := p) rfl Try.underlying22 u_size rfl rfl rfl HA rfl ((gPart l0 (gBlk l0 a2) chg a 0).map (Value.int .u32)) HN_.out HNN.out (fun h0 => ⟨rfl, C_cells HSRC.out h0⟩) HF_.out (List.all_eq_true.1 HL_.out) ?_; clear HA; intro W_ HA; dsimp only [List.set, List.take, List.cons_append, List.nil_append] at HA; simp only [Act.put, List.setIfInBounds_toArray, List.set_cons_succ, List.set_cons_zero]) | ((with_reducible refine gate_ld rfl ?_); (first | refine aw_load 0 rfl rfl HA rfl rfl rfl ?_ ?_ | refine aw_load 1 rfl rfl HA rfl rfl rfl ?_ ?_ | refine aw_load 2 rfl rfl HA rfl rfl rfl ?_ ?_ | refine aw_load 3 rfl rfl HA rfl rfl rfl ?_ ?_ | refine aw_load 4 rfl rfl HA rfl rfl rfl ?_ ?_ | refine aw_load 5 rfl rfl HA rfl rfl rfl ?_ ?_); kernel_rfl; simp only [Act.put, List.setIfInBounds_toArray, List.set_cons_succ, List.set_cons_zero]))
          rw [← splice_map] at HA
          obtain ⟨K, hK⟩ : ∃ K, gKids l0 (gBlk l0 a2) a = K := ⟨_, rfl⟩
          have HK := Aside0.mk hK
          rw [hK] at hkk
          clear hK HN_ HF_ HL_ HSRC
          have hKl : K.length ≤ 1000000 := by omega
          go_loopg [26] (K.length) (fun g i wx => ∃ (j : Nat), j + g = K.length ∧ i = .int .i64 ((j : Int) + 1) ∧ Aw noS w wx ((ob, .c 41 ((splice O p (gPart l0 (gBlk l0 a2) chg a j)).map (Value.int .u32))) :: coL (gBlk l0 a2) bm mm bc gc sm tm mv l.length (.slice A0 l0.length c0) (.slice (some ⟨g2, 0, none⟩) l.length c_) a1 a2 l Lv))
          case atStart => exact ⟨0, by omega, rfl, HA⟩
          case round =>
            clear HA
            obtain ⟨j, hj, rfl, HA⟩ := hrel
            by_cases hjl : j < K.length
            · have cj1 : decide ((j : Int) + 1 < gBlk l0 a2 a) = true := decide_eq_true (by omega)
              have hpl : p + (gPart l0 (gBlk l0 a2) chg a j).length ≤ O.length := by rw [gPart_len, HK.out, HOL.out]; omega
              have hsl : (splice O p (gPart l0 (gBlk l0 a2) chg a j)).length = l0.length := by rw [length_splice _ _ _ hpl, HOL.out]
              obtain ⟨ad, e, hcell⟩ := Kd.at_int (HA.1.reads HR0.out) (a + ((j : Int) + 1)) (by omega) (by omega)
              subst e
              have s1 : IntKind.i64.wrap ((p : Int) + ((j : Int) + 1)) = (p : Int) + ((j : Int) + 1) := IntWalk.i64_in _ (by omega)
              have s2 : IntKind.i64.wrap (a + ((j : Int) + 1)) = a + ((j : Int) + 1) := IntWalk.i64_in _ (by omega)
              have p1 : (0 ≤ a + ((j : Int) + 1)) = True := eq_true (by omega)
              have q1 : (a + ((j : Int) + 1) < (l0.length : Int)) = True := eq_true (by omega)
              have p2 : (0 ≤ (p : Int) + ((j : Int) + 1)) = True := eq_true (by omega)
              have q2 : ((p : Int) + ((j : Int) + 1) < (l0.length : Int)) = True := eq_true (by omega)
              have hrv := rd_val HOK.out.1.2 (a + ((j : Int) + 1))
              have hjj : decide (p + (j + 1) < ((splice O p (gPart l0 (gBlk l0 a2) chg a j)).map (Value.int .u32)).length) = true := decide_eq_true (by rw [List.length_map, hsl]; omega)
              have HSL := Lib.hid hsl
              have HPL := Lib.hid hpl
              have HJJ := Lib.hid hjj
              clear hsl hpl hjj
              go_wp2_with (first | ((with_reducible refine gate_dst (N := 123) rfl ?_); refine aw_lookup 5 (f := sizesF (gBlk l0 a2) l) (kl := .int .i64 a) i_keyed ii_under i_under i_zero rfl rfl rfl rfl HA rfl hka hsa ?_; simp only [Act.put, List.setIfInBounds_toArray, List.set_cons_succ, List.set_cons_zero]) | ((with_reducible refine gate_ld rfl ?_); (first | refine aw_load 0 rfl rfl HA rfl rfl rfl ?_ ?_ | refine aw_load 1 rfl rfl HA rfl rfl rfl ?_ ?_ | refine aw_load 2 rfl rfl HA rfl rfl rfl ?_ ?_ | refine aw_load 3 rfl rfl HA rfl rfl rfl ?_ ?_ | refine aw_load 4 rfl rfl HA rfl rfl rfl ?_ ?_ | refine aw_load 5 rfl rfl HA rfl rfl rfl ?_ ?_); kernel_rfl; simp only [Act.put, List.setIfInBounds_toArray, List.set_cons_succ, List.set_cons_zero]))
              go_wp2_with (first | (go_at_call 23; refine (HCH.out _ _ _ _ _ _ _ _ (rd l0 (a + ((j : Int) + 1))) hrv (HA.sub (List.sublist_cons_self _ _))).mono ?_; rintro e W_ ⟨rfl, hb_⟩; replace HA := HA.call hb_; clear hb_) | ((with_reducible refine gate_ld rfl ?_); (first | refine aw_load 0 rfl rfl HA rfl rfl rfl ?_ ?_ | refine aw_load 1 rfl rfl HA rfl rfl rfl ?_ ?_ | refine aw_load 2 rfl rfl HA rfl rfl rfl ?_ ?_ | refine aw_load 3 rfl rfl HA rfl rfl rfl ?_ ?_ | refine aw_load 4 rfl rfl HA rfl rfl rfl ?_ ?_ | refine aw_load 5 rfl rfl HA rfl rfl rfl ?_ ?_); kernel_rfl; simp only [Act.put, List.setIfInBounds_toArray, List.set_cons_succ, List.set_cons_zero]) | ((with_reducible refine gate_st rfl ?_); (refine aw_store 0 (v := .int _ _) (j := p + (j + 1)) rfl rfl rfl rfl rfl HA rfl rfl HJJ.out rfl ?_); clear HA; intro W_ HA; dsimp only [List.set, List.take, List.cons_append, List.nil_append] at HA))
              go_roundg (K.length - (j + 1))
              case measure => omega
              case rel =>
                refine ⟨j + 1, by omega, by go_num, ?_⟩
                refine Aw.congr HA ?_
                have hjk : j < (gKids l0 (gBlk l0 a2) a).length := by rw [HK.out]; exact hjl
                have e1 := splice_set O (gPart l0 (gBlk l0 a2) chg a j) p (j + 1) (chg (rd l0 (a + ((j : Int) + 1)))) (by rw [gPart_len]; omega) (by rw [HOL.out]; omega)
                rw [← List.map_set, e1, ← gKids_at (by omega) (by omega) hjk, gPart_set hjk]
            · have hjk : j = K.length := by omega
              have cj1 : decide ((j : Int) + 1 < gBlk l0 a2 a) = false := decide_eq_false (by omega)
              have HJ := Aside0.mk hjk
              clear hjk hj hjl
              go_wp2_with (first | ((with_reducible refine gate_dst (N := 123) rfl ?_); refine aw_lookup 5 (f := sizesF (gBlk l0 a2) l) (kl := .int .i64 a) i_keyed ii_under i_under i_zero rfl rfl rfl rfl HA rfl hka hsa ?_; simp only [Act.put, List.setIfInBounds_toArray, List.set_cons_succ, List.set_cons_zero]) | ((with_reducible refine gate_ld rfl ?_); (first | refine aw_load 0 rfl rfl HA rfl rfl rfl ?_ ?_ | refine aw_load 1 rfl rfl HA rfl rfl rfl ?_ ?_ | refine aw_load 2 rfl rfl HA rfl rfl rfl ?_ ?_ | refine aw_load 3 rfl rfl HA rfl rfl rfl ?_ ?_ | refine aw_load 4 rfl rfl HA rfl rfl rfl ?_ ?_ | refine aw_load 5 rfl rfl HA rfl rfl rfl ?_ ?_); kernel_rfl; simp only [Act.put, List.setIfInBounds_toArray, List.set_cons_succ, List.set_cons_zero]))
              go_roundg (l.length - (k + 1))
              case measure => omega
              case rel =>
                refine ⟨k + 1, by omega, by go_num, ?_⟩
                refine Aw.congr HA ?_
                rw [HTK.out, gLay_append, HO.out, HP.out, HJ.out, ← HK.out, gPart_full, Int.toNat_natCast]
        · obtain rfl : k = l.length := by omega
          have ck1 : decide ((l.length : Int) < (l.length : Int)) = false := decide_eq_false (by omega)
          have ck2 : decide (l.length < l.length) = false := decide_eq_false hlt
          rw [show l.take l.length = l from List.take_length] at HA
          clear hlt hk
          replace HA : Aw noS w wr ((ob, .c 41 ((gLay l0 (gBlk l0 a2) chg a3 l l0).map (Value.int .u32))) :: (bm, .c 54 [.map (some mm)]) :: (mm, Blk.m Try.prog 3 3 .i64 l.length (movedF mv)) :: (bc, .c 45 [.pointer (some ⟨gc, 0, none⟩)]) :: (gc, .c 56 [.slice A0 l0.length c0, .int .i64 a1, .int .i64 a2, .slice A_ l.length c_, .map (some sm), .map (some tm), .int .i64 (gWords (gBlk l0 a2) l)]) :: []) := HA.sub (by
            refine List.Sublist.cons_cons _ (List.Sublist.cons_cons _ (List.Sublist.cons_cons _ (List.Sublist.cons_cons _ (List.Sublist.cons_cons _ (List.nil_sublist _))))))
          go_wp2
          go_loopg [27, 143] (l4.length) (fun g v i wx => ∃ (k : Nat) (Lv2 : List (Nat × Blk)), k + g = l4.length ∧ i = .int .i64 k ∧ Own 41 1 v k (((l4.take k).map chg).map (Value.int .u32)) Lv2 ∧ Aw noS w wx ((ob, .c 41 ((gLay l0 (gBlk l0 a2) chg a3 l l0).map (Value.int .u32))) :: (bm, .c 54 [.map (some mm)]) :: (mm, Blk.m Try.prog 3 3 .i64 l.length (movedF mv)) :: (bc, .c 45 [.pointer (some ⟨gc, 0, none⟩)]) :: (gc, .c 56 [.slice A0 l0.length c0, .int .i64 a1, .int .i64 a2, .slice A_ l.length c_, .map (some sm), .map (some tm), .int .i64 (gWords (gBlk l0 a2) l)]) :: Lv2))
          case atStart => exact ⟨0, [], by omega, rfl, Own.nil _ _, HA⟩
          case round =>
            clear HA
            obtain ⟨k, Lv2, hk, rfl, hown2, HA⟩ := hrel
            by_cases hlt : k < l4.length
            · have ck1 : decide ((k : Int) < (l4.length : Int)) = true := decide_eq_true (by omega)
              have ck2 : decide (k < l4.length) = true := decide_eq_true hlt
              have hb0 : 0 ≤ (k : Int) := by omega
              obtain ⟨ad, e, hcell⟩ := Kd.at_int (HA.1.reads HR4.out) (k : Int) (by omega) (by omega)
              subst e
              rw [Int.toNat_natCast] at hcell
              have hrv : 0 ≤ rd l4 k ∧ rd l4 k < 4294967296 := HOK.out.2.2 _ (rd_mem (by omega) (by omega))
              have htk : l4.take (k + 1) = l4.take k ++ [rd l4 k] := by
                rw [List.take_succ_eq_append_getElem hlt]
                unfold rd
                rw [List.getD_eq_getElem?_getD, Int.toNat_natCast, List.getElem?_eq_getElem hlt]
                rfl
              have HTK := Aside0.mk htk
              have hap1 : k + 1 ≤ maxLen := by unfold maxLen; omega
              have hap2 : (k + 1) * 4 ≤ 140737488355328 := by omega
              clear htk
              go_wp2_with (first | (go_at_call 23; refine (HCH.out _ _ _ _ _ _ _ _ (rd l4 k) hrv (HA.sub (List.sublist_cons_self _ _))).mono ?_; rintro e W_ ⟨rfl, hb_⟩; replace HA := HA.call hb_; clear hb_) | ((with_reducible refine gate_dst (N := 151) rfl ?_); refine aw_newv (fun g => .slice (some ⟨g, 0, none⟩) 1 1) 41 [.int .u32 (chg (rd l4 k))] rfl (fun W => by kernel_rfl) HA ?_; clear HA; intro gn W_ HA; simp only [Act.put, List.setIfInBounds_toArray, List.set_cons_succ, List.set_cons_zero]) | ((with_reducible refine gate_dst (N := 152) rfl ?_); refine aw_append 6 0 rfl Try.underlying22 u_info rfl (Nat.le_refl 1) rfl hown2 rfl rfl HA rfl rfl rfl rfl hap1 hap2 ?_; clear HA; intro v_ W_ Lv_ hown_ HA; dsimp only [List.set, List.take, List.cons_append, List.nil_append] at HA; simp only [Act.put, List.setIfInBounds_toArray, List.set_cons_succ, List.set_cons_zero]) | ((with_reducible refine gate_ld rfl ?_); (first | refine aw_load 0 rfl rfl HA rfl rfl rfl ?_ ?_ | refine aw_load 1 rfl rfl HA rfl rfl rfl ?_ ?_ | refine aw_load 2 rfl rfl HA rfl rfl rfl ?_ ?_ | refine aw_load 3 rfl rfl HA rfl rfl rfl ?_ ?_ | refine aw_load 4 rfl rfl HA rfl rfl rfl ?_ ?_ | refine aw_load 5 rfl rfl HA rfl rfl rfl ?_ ?_); kernel_rfl; simp only [Act.put, List.setIfInBounds_toArray, List.set_cons_succ, List.set_cons_zero]))
              go_roundg (l4.length - (k + 1))
              case measure => omega
              case rel =>
                refine ⟨k + 1, Lv_, by omega, by go_num, ?_, HA.sub (List.sublist_cons_self _ _)⟩
                rw [HTK.out]
                simpa using hown_
            · obtain rfl : k = l4.length := by omega
              have ck1 : decide ((l4.length : Int) < (l4.length : Int)) = false := decide_eq_false (by omega)
              have ck2 : decide (l4.length < l4.length) = false := decide_eq_false hlt
              rw [show l4.take l4.length = l4 from List.take_length] at hown2
              go_wp2
              (try simp only [Exit.inBlock, Exit.then]); refine bodyPost_ret (results_list (rs := [.tmp 10, .tmp 11, .tmp 12, .tmp 13]) rfl (by simp) (.tmp (.tmp (.tmp (.tmp .nil))))) rfl ?_
              have hll : (gLay l0 (gBlk l0 a2) chg a3 l l0).length = l0.length := gLay_len (F := a1) (T := a2) hF hT HGI.out h3 h3b
              have hob := hown2.apart HA (fun x hx => by simp [hx])
              obtain ⟨A5, c5, rfl⟩ := hown2.form
              refine ⟨_, _, rfl, ?_, ?_, HA.below⟩
              · refine Own.kdR (Lv := [(ob, Blk.r 41 1 l0.length ((gLay l0 (gBlk l0 a2) chg a3 l l0).map (Value.int .u32)))]) ?_ (HA.litLast (size := 1) (n := l0.length) (by rw [List.length_map, hll]; omega) (by unfold maxLen; omega)) (fun x hx => by simp at hx; simp [hx]) ?_
                · rw [hll]
                  exact Own.full (by rw [List.length_map, hll]; omega)
                · intro k hk he
                  have e : ob = k := by simpa [Value.ownBlock] using hk
                  subst e
                  exact hob ob he.symm rfl
              · have h2 : Own 41 1 (.slice A5 l4.length c5) (l4.map chg).length ((l4.map chg).map (Value.int .u32)) Lv2 := by rw [List.length_map]; exact hown2
                refine h2.kdR HA (fun x hx => by simp [hx]) ?_
                intro k hk he
                exact hob k hk (by simpa [Value.ownBlock] using he)
set_option maxHeartbeats 8000000 in
set_option maxRecDepth 100000 in
theorem gc_Collect.calls (A0 : Option Addr) (c0 : Nat) (l0 : List Int) (a1 : Int) (a2 : Int) (a3 : Int) (A4 : Option Addr) (c4 : Nat) (l4 : List Int) (r1 : List Int) (r2 : List Int) (r3 : Int) (r4 : Int) (w : World) (hr0 : Kd.C (Kd.int .u32) w A0 l0.length l0) (hc0 : l0.length ≤ c0) (hr4 : Kd.C (Kd.int .u32) w A4 l4.length l4) (hc4 : l4.length ≤ c4) (h : gc_Collect.f l0 a1 a2 a3 l4 = some (r1, r2, r3, r4)) :
    Calls Try.prog 10 #[.slice A0 l0.length c0, .int .i64 a1, .int .i64 a2, .int .i64 a3, .slice A4 l4.length c4] w fun e w' => ∃ v0_ v1_ : Value, e = .returned (.tuple #[v0_, v1_, .int .i64 r3, .int .i64 r4]) ∧ Kd.R (Kd.int .u32) 41 w' w.heap.size (fun k_ => some k_ ≠ (v1_ : Value).ownBlock) v0_ r1 ∧ Kd.R (Kd.int .u32) 41 w' w.heap.size (fun k_ => some k_ ≠ (v0_ : Value).ownBlock) v1_ r2 ∧ Below w.heap.size w w' := by
  unfold gc_Collect.f at h
  by_cases hok : w32 l0 ∧ w32 l4
  case neg => rw [if_neg hok] at h; cases h
  rw [if_pos hok] at h
  replace h := Option.some.inj h
  have early : ∀ q, gCollect l0 a1 a2 a3 l4 = ([], [], 0, q) → q ≠ 0 → Calls Try.prog 10 #[.slice A0 l0.length c0, .int .i64 a1, .int .i64 a2, .int .i64 a3, .slice A4 l4.length c4] w fun e w' => ∃ v0_ v1_ : Value, e = .returned (.tuple #[v0_, v1_, .int .i64 r3, .int .i64 r4]) ∧ Kd.R (Kd.int .u32) 41 w' w.heap.size (fun k_ => some k_ ≠ (v1_ : Value).ownBlock) v0_ r1 ∧ Kd.R (Kd.int .u32) 41 w' w.heap.size (fun k_ => some k_ ≠ (v0_ : Value).ownBlock) v1_ r2 ∧ Below w.heap.size w w' := by
    intro q hq hq0
    have e := hq.symm.trans h
    simp only [Prod.mk.injEq] at e
    obtain ⟨rfl, rfl, rfl, rfl⟩ := e
    refine (gc_Collect.early A0 c0 l0 a1 a2 a3 A4 c4 l4 q w hr0 hc0 hr4 hc4 hok hq hq0).mono ?_
    rintro e w' ⟨rfl, hbw⟩
    have hn : ∀ ok : Nat → Prop, Kd.R (Kd.int .u32) 41 w' w.heap.size ok (.slice none 0 0) [] := fun ok => Own.kdR (l := []) (Own.nil _ _) ((Aw.start noS w).call hbw) (by simp) (by intro k hk; cases hk)
    exact ⟨_, _, rfl, hn _, hn _, hbw⟩
  by_cases hb : a1 < 0 ∨ a2 < a1 ∨ (l0.length : Int) < a2
  · exact early 1 (by unfold gCollect; rw [if_pos hb]) (by decide)
  by_cases hth : a3 < 0 ∨ (l0.length : Int) < a3
  · exact early 1 (by unfold gCollect; rw [if_neg hb, if_pos hth]) (by decide)
  by_cases hro : gRoomOk l0.length a1 a2 a3 = false
  · exact early 1 (by unfold gCollect; rw [if_neg hb, if_neg hth, if_pos hro]) (by decide)
  cases hg : gReach l0 a1 a2 (gBlk l0 a2) l4 with
  | none => exact early 22 (by unfold gCollect; rw [if_neg hb, if_neg hth, if_neg hro, hg]) (by decide)
  | some l =>
    by_cases hw : gRoom l0.length a1 a2 a3 < gWords (gBlk l0 a2) l
    · exact early 6 (by unfold gCollect; rw [if_neg hb, if_neg hth, if_neg hro, hg]; exact if_pos hw) (by decide)
    · have e : gCollect l0 a1 a2 a3 l4 = (gLay l0 (gBlk l0 a2) (gChange a1 a2 (gMoved (gBlk l0 a2) a3 l)) a3 l l0, l4.map (gChange a1 a2 (gMoved (gBlk l0 a2) a3 l)), a3 + gWords (gBlk l0 a2) l, 0) := by
        unfold gCollect; rw [if_neg hb, if_neg hth, if_neg hro, hg]; exact if_neg hw
      rw [e] at h
      simp only [Prod.mk.injEq] at h
      obtain ⟨rfl, rfl, rfl, rfl⟩ := h
      exact gc_Collect.main A0 c0 l0 a1 a2 a3 A4 c4 l4 w hr0 hc0 hr4 hc4 hok hb hth (by simpa using hro) l hg hw
end Go.Proofs.Ytnkbfbhhioemoaa.Q
