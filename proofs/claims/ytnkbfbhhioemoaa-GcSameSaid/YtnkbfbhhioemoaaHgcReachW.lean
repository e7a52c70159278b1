/- gc: begin, reach. By wip/gen/gc_reach.py. -/
import Derived.Test.YtnkbfbhhioemoaaQx0
import Derived.Test.YtnkbfbhhioemoaaQx1
import Derived.Test.YtnkbfbhhioemoaaAw
import Derived.Test.YtnkbfbhhioemoaaAwFrame
import Derived.Test.YtnkbfbhhioemoaaAwMap
import Derived.Test.YtnkbfbhhioemoaaAwSl
import Derived.Test.YtnkbfbhhioemoaaGcModel
import Derived.Test.YtnkbfbhhioemoaaHgcMeet
--@needs XAw
--@needs XAwMap
--@needs XAwSl
--@needs XAwFrame
--@needs XGcModel
--@needs XHgcMeet
import Derived.LoopTactic
import Derived.Deep.LoopGhost
import Derived.Lib.Hide
import Derived.Deep.QuietTactic
import Derived.BigQuiet
import Derived.Outline
import Derived.IntWalk
namespace Go.Proofs.Ytnkbfbhhioemoaa.Q
open Go.RowKit Go.Proofs.YtnkbfbhhioemoaaW.PrintWords Go.Proofs.YtnkbfbhhioemoaaW.PrintLast Go.Proofs.YtnkbfbhhioemoaaW.PrintMore
attribute [local go_sem] max2_int min2_int max_two min_two max_three min_three max_four min_four   -- for this text's walks alone
set_option linter.unusedVariables false
set_option linter.unusedSimpArgs false

open Go.Maps
set_option maxHeartbeats 4000000 in
set_option maxRecDepth 100000 in
theorem gc_begin.bad (A0 : Option Addr) (n c : Nat) (F T : Int) (W : World) (h : F < 0 ∨ T < F ∨ (n : Int) < T) :
    Calls Try.prog 20 #[.slice A0 n c, .int .i64 F, .int .i64 T] W fun e W' => e = .returned (.tuple #[.pointer none, .bool false]) ∧ W' = W := by
  by_cases h1 : F < 0
  · have c1 := decide_eq_true h1
    clear h
    go_enter Try.func20, Try.ntmps20
    go_wp2
    go_ret2
    exact ⟨rfl, rfl⟩
  have c1 := decide_eq_false h1
  by_cases h2 : T < F
  · have c2 := decide_eq_true h2
    clear h
    go_enter Try.func20, Try.ntmps20
    go_wp2
    go_ret2
    exact ⟨rfl, rfl⟩
  have c2 := decide_eq_false h2
  have h3 : (n : Int) < T := by omega
  have c3 := decide_eq_true h3
  clear h
  go_enter Try.func20, Try.ntmps20
  go_wp2
  go_ret2
  exact ⟨rfl, rfl⟩
set_option maxHeartbeats 4000000 in
set_option maxRecDepth 100000 in
theorem gc_begin.good (blk : Int → Int) (A0 : Option Addr) (n c : Nat) (F T : Int) (W : World) (h : ¬ (F < 0 ∨ T < F ∨ (n : Int) < T)) :
    Calls Try.prog 20 #[.slice A0 n c, .int .i64 F, .int .i64 T] W fun e W' => ∃ gc sm tm, e = .returned (.tuple #[.pointer (some ⟨gc, 0, none⟩), .bool true]) ∧ Aw noS W W' (gcL blk gc sm tm (.slice A0 n c) (.slice none 0 0) F T []) := by
  have HA := Aw.start noS W
  have c1 : decide (F < 0) = false := decide_eq_false (by omega)
  have c2 : decide (T < F) = false := decide_eq_false (by omega)
  have c3 : decide ((n : Int) < T) = false := decide_eq_false (by omega)
  clear h
  go_enter Try.func20, Try.ntmps20
  go_wp2_with (first | ((with_reducible refine gate_dst (N := 25) rfl ?_); refine aw_makemap 3 3 .i64 rfl rfl HA ?_; clear HA; intro sm W_ HA; simp only [Act.put, List.setIfInBounds_toArray, List.set_cons_succ, List.set_cons_zero]) | ((with_reducible refine gate_dst (N := 26) rfl ?_); refine aw_makemap 3 3 .i64 rfl rfl HA ?_; clear HA; intro tm W_ HA; simp only [Act.put, List.setIfInBounds_toArray, List.set_cons_succ, List.set_cons_zero]) | ((with_reducible refine gate_dst (N := 28) rfl ?_); refine aw_box rfl rfl rfl HA ?_; clear HA; intro gc W_ HA; simp only [Act.put, List.setIfInBounds_toArray, List.set_cons_succ, List.set_cons_zero]))
  go_ret2
  refine ⟨gc, sm, tm, rfl, ?_⟩
  have e : takenF blk [] 0 0 = fun _ => none := by
    funext k
    unfold takenF
    split
    · rw [if_neg (by omega)]; rfl
    · rfl
  have e2 : sizesF blk [] = fun _ => none := by
    funext k
    unfold sizesF
    split
    · simp
    · rfl
  have e3 : gWords blk [] = 0 := rfl
  refine Aw.congr (Aw.perm HA (List.Perm.cons _ (List.Perm.swap _ _ []))) ?_
  rw [gcL, e, e2, e3]
  rfl
/-- what the collector knows of its memory -/
structure GcEnv (S : Nat → Prop) (w : World) (A0 : Option Addr) (c0 : Nat) (m : List Int) (F T : Int) (blk : Int → Int) : Prop where
  reads : ∀ W', Kp S w W' → Kd.C (Kd.int .u32) W' A0 m.length m
  cap : m.length ≤ c0
  len : m.length ≤ 1000000
  h0 : 0 ≤ F
  h1 : F ≤ T
  h2 : T ≤ m.length
  blkf : ∀ a, F ≤ a → a < T → gc_half_block.f m F T a = some (blk a)
  ok : BlkOk F T blk
  vals : ∀ x ∈ m, 0 ≤ x ∧ x < 4294967296
theorem GcEnv.meet {S : Nat → Prop} {w W : World} {gc sm tm : Nat} {A0 : Option Addr} {c0 : Nat} {m : List Int} {F T : Int} {l : List Int} {blk : Int → Int} (h : GcEnv S w A0 c0 m F T blk) (x : Int) (hi : GInv F T blk l) (hx : 0 ≤ x ∧ x < 4294967296) (HS : GcSt blk S w W gc sm tm (.slice A0 m.length c0) F T l) :
    Calls Try.prog 35 #[.pointer (some ⟨gc, 0, none⟩), .int .u32 x] W (GcMeetPost blk S w gc sm tm (.slice A0 m.length c0) F T (gMeet F T blk l x)) := by
  have hk : Kp S w W := by obtain ⟨v, Lv, _, HA⟩ := HS; exact HA.1
  exact gc_meet.calls x (h.reads W hk) h.cap h.len h.h0 h.h1 h.h2 h.blkf h.ok hi hx.1 hx.2 HS
theorem rd_mem {l : List Int} {i : Int} (h0 : 0 ≤ i) (h1 : i < l.length) : rd l i ∈ l := by
  unfold rd
  rw [List.getD_eq_getElem?_getD, List.getElem?_eq_getElem (show i.toNat < l.length by omega)]
  exact List.getElem_mem _
theorem drop_rd {l : List Int} {k : Nat} (h : k < l.length) : l.drop k = rd l k :: l.drop (k + 1) := by
  unfold rd
  rw [List.drop_eq_getElem_cons h, Int.toNat_natCast, List.getD_eq_getElem?_getD, List.getElem?_eq_getElem h]
  rfl
theorem GcSt.kp {blk : Int → Int} {S : Nat → Prop} {w W : World} {gc sm tm : Nat} {M : Value} {F T : Int} {l : List Int} (h : GcSt blk S w W gc sm tm M F T l) : Kp S w W := by
  obtain ⟨v, Lv, _, HA⟩ := h; exact HA.1
set_option maxHeartbeats 4000000 in
set_option maxRecDepth 100000 in
theorem gc_reach.calls {S : Nat → Prop} {w W : World} {gc sm tm : Nat} {A0 A3 : Option Addr} {c0 c3 : Nat} {m roots : List Int} {F T : Int} {blk : Int → Int} (HE : GcEnv S w A0 c0 m F T blk)
    (hr : ∀ W', Kp S w W' → Kd.C (Kd.int .u32) W' A3 roots.length roots) (hc3 : roots.length ≤ c3) (hlr : roots.length ≤ 1000000) (hrr : ∀ x ∈ roots, 0 ≤ x ∧ x < 4294967296) (HS : GcSt blk S w W gc sm tm (.slice A0 m.length c0) F T []) :
    Calls Try.prog 22 #[.pointer (some ⟨gc, 0, none⟩), .slice A3 roots.length c3] W (GcMeetPost blk S w gc sm tm (.slice A0 m.length c0) F T (gReach m F T blk roots)) := by
  have HE' := Lib.hid HE
  have HR' := Lib.hid hr
  have Hrr := Lib.hid hrr
  have hT := HE.h2
  have hlen := HE.len
  have hF0 := HE.h0
  have hFT := HE.h1
  have hcap := HE.cap
  clear HE hr hrr
  obtain ⟨res, hres⟩ : ∃ res, gReach m F T blk roots = res := ⟨_, rfl⟩
  rw [hres]
  have Hres := Lib.hid hres
  clear hres
  obtain ⟨P, hP⟩ : ∃ P, GcMeetPost blk S w gc sm tm (.slice A0 m.length c0) F T res = P := ⟨_, rfl⟩
  have HP := Lib.hid hP
  rw [hP]
  clear hP
  go_enter Try.func22, Try.ntmps22
  go_wp2
  go_step3
  go_wp2
  try go_step3
  try go_wp2
  go_loopg [] 1 (fun g wx => g = 1 ∧ GcSt blk S w wx gc sm tm (.slice A0 m.length c0) F T [])
  case atStart => exact ⟨rfl, HS⟩
  case round =>
    obtain ⟨rfl, HS⟩ := hrel
    go_wp2
    obtain ⟨res1, hres1⟩ : ∃ res1, gFold F T blk [] roots = res1 := ⟨_, rfl⟩
    have Hres1 := Lib.hid hres1
    go_loopg [13] (roots.length) (fun g v wx => ∃ (k : Nat) (l : List Int), k + g = roots.length ∧ v = .int .i64 k ∧ Aside0 (gFold F T blk l (roots.drop k) = res1 ∧ GInv F T blk l) ∧ GcSt blk S w wx gc sm tm (.slice A0 m.length c0) F T l)
    case atStart => exact ⟨0, [], by omega, rfl, ⟨by simpa using hres1, GInv.nil _ _ _⟩, HS⟩
    case round =>
      clear hres1 HS
      obtain ⟨k, l, hk, rfl, HG, HS⟩ := hrel
      by_cases hlt : k < roots.length
      · have ck1 : decide ((k : Int) < (roots.length : Int)) = true := decide_eq_true (by omega)
        have ck2 : decide (k < roots.length) = true := decide_eq_true hlt
        obtain ⟨ad, e, hcell⟩ := Kd.at_int (HR'.out _ HS.kp) (k : Int) (by omega) (by omega)
        subst e
        rw [Int.toNat_natCast] at hcell
        have hcall := HE'.out.meet (rd roots k) HG.out.2 (Hrr.out _ (rd_mem (by omega) (by omega))) HS
        have hstep : gFold F T blk l (roots.drop k) = (gMeet F T blk l (rd roots k)).bind fun l' => gFold F T blk l' (roots.drop (k + 1)) := by rw [drop_rd hlt]; rfl
        have hb0 : 0 ≤ (k : Int) := by omega
        cases hmm : gMeet F T blk l (rd roots k) with
        | none =>
          rw [hmm] at hcall hstep
          have HN := Aside0.mk (HG.out.1.symm.trans hstep)
          have HS' := Aside0.mk HS
          clear hmm hstep HG HS
          go_wp2_with (go_at_call 35; refine hcall.mono ?_; rintro e W_ ⟨rfl, hkp⟩)
          (try rw [Exit.noGoto_ret])
          (try go_ret)
          rw [← HP.out]
          have hr : res = none := by rw [← Hres.out, gReach, Hres1.out, HN.out]; rfl
          subst hr
          exact ⟨rfl, hkp⟩
        | some l' =>
          rw [hmm] at hcall hstep
          have hi' := gMeet_inv HE'.out.ok HG.out.2 hmm
          have HN := Aside0.mk (hstep.symm.trans HG.out.1)
          have HS' := Aside0.mk HS
          have HI' := Aside0.mk hi'
          clear hmm hstep HG HS hi'
          go_wp2_with (go_at_call 35; refine hcall.mono ?_; rintro e W_ ⟨rfl, hpost⟩)
          go_roundg (roots.length - (k + 1))
          case measure => omega
          case rel => exact ⟨k + 1, l', by omega, by go_num, ⟨HN.out, HI'.out⟩, hpost⟩
      · have ck1 : decide ((k : Int) < (roots.length : Int)) = false := decide_eq_false (by omega)
        have ck2 : decide (k < roots.length) = false := decide_eq_false hlt
        have hdn : roots.drop k = [] := List.drop_eq_nil_of_le (by omega)
        have hg := HG.out.1
        rw [hdn] at hg
        have hg1 : res1 = some l := hg.symm
        have HI := Aside0.mk HG.out.2
        obtain ⟨r2, hr2⟩ := gLoop_ends (m := m) HE'.out.ok hFT (m.length + 1) 0 l HG.out.2 (by omega) (by omega)
        have hres2 : r2 = res := by rw [← Hres.out, gReach, Hres1.out, hg1]; show r2 = (gLoop m F T blk (m.length + 1) 0 l).getD none; rw [hr2]; rfl
        subst hres2
        have HL := Aside0.mk hr2
        clear hg hg1 hr2 hdn HG
        go_wp2
        go_loopg [7] (m.length + 1) (fun g v wx => ∃ (i : Nat) (l : List Int), v = .int .i64 i ∧ i ≤ l.length ∧ Aside0 (gLoop m F T blk g i l = some r2 ∧ GInv F T blk l) ∧ GcSt blk S w wx gc sm tm (.slice A0 m.length c0) F T l)
        case atStart => exact ⟨0, l, rfl, Nat.zero_le _, ⟨HL.out, HI.out⟩, HS⟩
        case round =>
          clear HL HI HS hk hlt ck1 ck2
          obtain ⟨i, l, rfl, hil, HG, HS⟩ := hrel
          cases gk with
          | zero => exact absurd HG.out.1 (by simp [gLoop])
          | succ g =>
          have HS0 := Aside0.mk HS
          have hl2 := HG.out.2.len hFT
          obtain ⟨v, Lv, hown, HA⟩ := HS
          obtain ⟨A_, c_, rfl⟩ := hown.form
          by_cases hlt : i < l.length
          · have hgl := HG.out.1
            rw [gLoop, dif_pos hlt] at hgl
            have HGL := Aside0.mk hgl
            have HI := Aside0.mk HG.out.2
            have hma := HG.out.2.mem l[i] (List.getElem_mem hlt)
            clear hgl HG
            obtain ⟨a, ha⟩ : ∃ a, l[i] = a := ⟨_, rfl⟩
            rw [ha] at HGL hma
            have hal : a ∈ l := ha ▸ List.getElem_mem hlt
            obtain ⟨g2, cap2, hv, hcell⟩ := hown.cell HA (fun x hx => List.mem_append_right _ hx) (j := i) (u := .int .i64 a) (by simp [List.getElem?_eq_getElem hlt, ha])
            injection hv with hv1 hv2 hv3
            subst hv1 hv3
            have hlk : ∀ n, (Instr.lookup 54 (.map (some sm)) (.int .i64 a) false).run Try.prog (wr.drewN n) = .ok (.int .i64 (blk a)) (wr.drewN n) := fun n => (HA.drewN n).lookup_run 1 i_keyed ii_under i_under i_zero rfl (i_key (by omega) (by omega)) (show (sizesF blk l (.int .i64 a)).getD 0 = blk a by unfold sizesF; simp [hal])
            obtain ⟨ui, hui, _, huz, _⟩ := info_parts (show (Try.prog.info? 41).map (fun i => (i.zero, i.size, i.bytes)) = some (some (.int .u32 0), 1, 4) by kernel_rfl)
            have hcut := cut_mid (P := Try.prog) 22 41 .i64 .i64 Try.underlying22 hui 1 huz A0 m.length c0 (a + 1) (a + blk a) (by omega) (by omega) (by omega) hcap
            have hkid : ∀ W', Kp S w W' → Kd.C (Kd.int .u32) W' (if c0 = (a + 1).toNat then A0 else A0.map (·.add ((a + 1).toNat * 1))) (gKids m blk a).length (gKids m blk a) := fun W' hk => Kd.C_mid (HE'.out.reads W' hk) (by omega) (by omega) hcap
            have hkl : (gKids m blk a).length = (a + blk a).toNat - (a + 1).toNat := by unfold gKids; simp; omega
            rw [← hkl] at hcut
            obtain ⟨A2, hA2⟩ : ∃ A2, (if c0 = (a + 1).toNat then A0 else A0.map (·.add ((a + 1).toNat * 1))) = A2 := ⟨_, rfl⟩
            rw [hA2] at hcut hkid
            obtain ⟨ks, hks⟩ : ∃ ks, gKids m blk a = ks := ⟨_, rfl⟩
            rw [hks] at hcut hkid
            have hksr : ∀ x ∈ ks, 0 ≤ x ∧ x < 4294967296 := fun x hx => HE'.out.vals x (by rw [← hks] at hx; exact List.mem_of_mem_take (List.mem_of_mem_drop hx))
            have hksl : ks.length ≤ 1000000 := by rw [← hks, hkl]; omega
            rw [hks] at HGL
            have HK := Lib.hid hkid
            have HKR := Lib.hid hksr
            have HAL := Aside0.mk hal
            clear hkid hksr hkl hA2 hks hui huz ha hal
            have ci1 : decide ((i : Int) < (l.length : Int)) = true := decide_eq_true (by omega)
            have ci2 : decide (i < l.length) = true := decide_eq_true hlt
            have ci3 : 0 ≤ (i : Int) := by omega
            go_wp2_with (first | ((with_reducible refine gate_ld rfl ?_); (refine aw_load 0 rfl rfl HA rfl rfl rfl ?_ ?_); kernel_rfl; simp only [Act.put, List.setIfInBounds_toArray, List.set_cons_succ, List.set_cons_zero]))
            have k0 := HA.cell (i := 0) (j := 0) rfl rfl
            have k4 := HA.cell (i := 0) (j := 4) rfl rfl
            have s1 : IntKind.i64.wrap (a + 1) = a + 1 := IntWalk.i64_in _ (by omega)
            have s2 : IntKind.i64.wrap (a + blk a) = a + blk a := IntWalk.i64_in _ (by omega)
            go_quiet (fail)
            clear k0 k4 hlk hcut s1 s2 hcell
            replace HA := HA.drewN nq
            have HSq : GcSt blk S w (wr.drewN nq) gc sm tm (.slice A0 m.length c0) F T l := ⟨_, Lv, hown, HA⟩
            clear HA HS0
            go_wp2
            obtain ⟨resk, hresk⟩ : ∃ resk, gFold F T blk l ks = resk := ⟨_, rfl⟩
            rw [hresk] at HGL
            have Hresk := Lib.hid hresk
            go_loopg [55] (ks.length) (fun g v wx => ∃ (k : Nat) (l1 : List Int), k + g = ks.length ∧ v = .int .i64 k ∧ Aside0 (gFold F T blk l1 (ks.drop k) = resk ∧ GInv F T blk l1 ∧ l.length ≤ l1.length) ∧ GcSt blk S w wx gc sm tm (.slice A0 m.length c0) F T l1)
            case atStart => exact ⟨0, l, by omega, rfl, ⟨by simpa using hresk, HI.out, Nat.le_refl _⟩, HSq⟩
            case round =>
              clear hresk HSq hown HI
              obtain ⟨k, l1, hk, rfl, HG, HS⟩ := hrel
              by_cases hltk : k < ks.length
              · have ck1 : decide ((k : Int) < (ks.length : Int)) = true := decide_eq_true (by omega)
                have ck2 : decide (k < ks.length) = true := decide_eq_true hltk
                obtain ⟨ad, e, hcell⟩ := Kd.at_int (HK.out _ HS.kp) (k : Int) (by omega) (by omega)
                subst e
                rw [Int.toNat_natCast] at hcell
                have hcall := HE'.out.meet (rd ks k) HG.out.2.1 (HKR.out _ (rd_mem (by omega) (by omega))) HS
                have hstep : gFold F T blk l1 (ks.drop k) = (gMeet F T blk l1 (rd ks k)).bind fun l' => gFold F T blk l' (ks.drop (k + 1)) := by rw [drop_rd hltk]; rfl
                have hb0 : 0 ≤ (k : Int) := by omega
                cases hmm : gMeet F T blk l1 (rd ks k) with
                | none =>
                  rw [hmm] at hcall hstep
                  have HN := Aside0.mk (HG.out.1.symm.trans hstep)
                  have HS' := Aside0.mk HS
                  clear hmm hstep HG HS
                  go_wp2_with (go_at_call 35; refine hcall.mono ?_; rintro e W_ ⟨rfl, hkp⟩)
                  (try rw [Exit.noGoto_ret])
                  (try go_ret)
                  rw [← HP.out]
                  have hr : r2 = none := by
                    have h1 := HGL.out
                    rw [show resk = none from HN.out] at h1
                    exact (Option.some.inj h1).symm
                  subst hr
                  exact ⟨rfl, hkp⟩
                | some l' =>
                  rw [hmm] at hcall hstep
                  have hi' := gMeet_inv HE'.out.ok HG.out.2.1 hmm
                  have hle' : l.length ≤ l'.length := by
                    obtain ⟨q, hq⟩ := gMeet_len hmm
                    have := HG.out.2.2
                    rw [hq, List.length_append]; omega
                  have HN := Aside0.mk (hstep.symm.trans HG.out.1)
                  have HS' := Aside0.mk HS
                  have HI' := Aside0.mk hi'
                  have HLe := Aside0.mk hle'
                  clear hmm hstep HG HS hi' hle'
                  go_wp2_with (go_at_call 35; refine hcall.mono ?_; rintro e W_ ⟨rfl, hpost⟩)
                  go_roundg (ks.length - (k + 1))
                  case measure => omega
                  case rel => exact ⟨k + 1, l', by omega, by go_num, ⟨HN.out, HI'.out, HLe.out⟩, hpost⟩
              · have ck1 : decide ((k : Int) < (ks.length : Int)) = false := decide_eq_false (by omega)
                have ck2 : decide (k < ks.length) = false := decide_eq_false hltk
                have hdn : ks.drop k = [] := List.drop_eq_nil_of_le (by omega)
                have hg := HG.out.1
                rw [hdn] at hg
                have hg1 : resk = some l1 := hg.symm
                have HGL2 : Aside0 (gLoop m F T blk g (i + 1) l1 = some r2) := by
                  have h1 := HGL.out
                  rw [hg1] at h1
                  exact ⟨h1⟩
                have HG' := HG
                clear hg hg1 hdn HG
                have hw1 : IntKind.i64.wrap ((i : Int) + 1) = ((i + 1 : Nat) : Int) := (IntWalk.i64_in _ (by omega)).trans (by omega)
                have HW1 := Aside0.mk hw1
                clear hw1
                go_wp2
                go_roundg g
                case measure => omega
                case rel => exact ⟨i + 1, l1, by go_num, by have := HG'.out.2.2; omega, ⟨HGL2.out, HG'.out.2.1⟩, HS⟩
          · have ci1 : decide ((i : Int) < (l.length : Int)) = false := decide_eq_false (by omega)
            have ci2 : decide (i < l.length) = false := decide_eq_false hlt
            have hgl := HG.out.1
            rw [gLoop, dif_neg hlt] at hgl
            have hr : r2 = some l := (Option.some.inj hgl).symm
            subst hr
            clear hgl HG
            have HSq : Aside0 (GcSt blk S w wr gc sm tm (.slice A0 m.length c0) F T l) := ⟨_, Lv, hown, HA⟩
            go_wp2_with (first | ((with_reducible refine gate_ld rfl ?_); (refine aw_load 0 rfl rfl HA rfl rfl rfl ?_ ?_); kernel_rfl; simp only [Act.put, List.setIfInBounds_toArray, List.set_cons_succ, List.set_cons_zero]))
            (try rw [Exit.noGoto_ret])
            (try go_ret)
            rw [← HP.out]
            exact ⟨rfl, HSq.out⟩
end Go.Proofs.Ytnkbfbhhioemoaa.Q
