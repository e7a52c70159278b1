/- gc.collector.meet: a word is met. By wip/gen/gc_meet.py. -/
import Derived.Test.YtnkbfbhhioemoaaQx0
import Derived.Test.YtnkbfbhhioemoaaQx1
import Derived.Test.YtnkbfbhhioemoaaAw
import Derived.Test.YtnkbfbhhioemoaaAwFrame
import Derived.Test.YtnkbfbhhioemoaaAwMap
import Derived.Test.YtnkbfbhhioemoaaAwSl
import Derived.Test.YtnkbfbhhioemoaaGcModel
--@needs XAw
--@needs XAwMap
--@needs XAwSl
--@needs XAwFrame
--@needs XGcModel
--@uses (camlet/gc.half).leads
--@uses (camlet/gc.half).block
import Derived.LoopTactic
import Derived.Lib.Hide
import Derived.Deep.QuietTactic
import Derived.BigQuiet
namespace Go.Proofs.Ytnkbfbhhioemoaa.Q
open Go.RowKit Go.Proofs.YtnkbfbhhioemoaaW.PrintWords Go.Proofs.YtnkbfbhhioemoaaW.PrintLast Go.Proofs.YtnkbfbhhioemoaaW.PrintMore
attribute [local go_sem] max2_int min2_int max_two min_two max_three min_three max_four min_four   -- for this text's walks alone
set_option linter.unusedVariables false
set_option linter.unusedSimpArgs false

open Go.Maps
def sizesF (blk : Int → Int) (l : List Int) : Lit → Option Int
  | .int .i64 a => if a ∈ l then some (blk a) else none
  | _ => none
/-- what has a word, when j words of the block at a are taken -/
def takenF (blk : Int → Int) (l : List Int) (a : Int) (j : Int) : Lit → Option Int
  | .int .i64 i => if a ≤ i ∧ i < a + j then some a else gHit blk l i
  | _ => none
/-- the collector's blocks of memory -/
abbrev gcL (blk : Int → Int) (gc sm tm : Nat) (M v : Value) (F T : Int) (l : List Int) : List (Nat × Blk) :=
  [(gc, .c 56 [M, .int .i64 F, .int .i64 T, v, .map (some sm), .map (some tm), .int .i64 (gWords blk l)]),
   (sm, Blk.m Try.prog 3 3 .i64 l.length (sizesF blk l)),
   (tm, Blk.m Try.prog 3 3 .i64 (gWords blk l).toNat (takenF blk l 0 0))]
def GcSt (blk : Int → Int) (S : Nat → Prop) (w W : World) (gc sm tm : Nat) (M : Value) (F T : Int) (l : List Int) : Prop :=
  ∃ v Lv, Own 3 1 v l.length (l.map (Value.int .i64)) Lv ∧ Aw S w W (gcL blk gc sm tm M v F T l ++ Lv)
def GcMeetPost (blk : Int → Int) (S : Nat → Prop) (w : World) (gc sm tm : Nat) (M : Value) (F T : Int) (r : Option (List Int)) (e : Ending) (W' : World) : Prop :=
  match r with
  | none => e = .returned (.bool false) ∧ Kp S w W'
  | some l' => e = .returned (.bool true) ∧ GcSt blk S w W' gc sm tm M F T l'
theorem ii_under : Try.prog.underlying 54 = some (.map 3 3) := by kernel_rfl
theorem i_under : Try.prog.underlying 3 = some (.int .i64) := by kernel_rfl
theorem i_keyed : Keyed Try.prog 3 := int_keyed i_under
theorem i_zero (W : World) : (zeroValue 3).run Try.prog W = .ok (.int .i64 0) W := by kernel_rfl
theorem i_wf {a : Int} (h0 : -9223372036854775808 ≤ a) (h : a ≤ 9223372036854775807) : (Lit.int .i64 a).wf = true := by
  show (decide (IntKind.i64.min ≤ a) && decide (a ≤ IntKind.i64.max)) = true
  have h1 : IntKind.i64.min = -9223372036854775808 := by decide
  have h2 : IntKind.i64.max = 9223372036854775807 := by decide
  rw [h1, h2]
  simp only [Bool.and_eq_true, decide_eq_true_eq]
  exact ⟨h0, h⟩
theorem i_key {a : Int} (h0 : -9223372036854775808 ≤ a) (h : a ≤ 9223372036854775807) : keyOf Try.prog 3 (.int .i64 a) = some (.int .i64 a) := keyOf_int_mk i_under (i_wf h0 h)
theorem int_infoG : (Try.prog.info? 3).map (fun i => (i.zero, i.size, i.bytes)) = some (some (.int .i64 0), 1, 8) := by kernel_rfl
theorem takenF_zero (blk : Int → Int) (l : List Int) (a : Int) : takenF blk l a 0 = takenF blk l 0 0 := by
  funext k
  unfold takenF
  split
  · rw [if_neg (by omega), if_neg (by omega)]
  · rfl
theorem takenF_put (blk : Int → Int) (l : List Int) (a j : Int) (hj : 0 ≤ j) : putf (takenF blk l a j) (.int .i64 (a + j)) a = takenF blk l a (j + 1) := by
  funext k
  unfold putf takenF
  by_cases e : k = .int .i64 (a + j)
  · subst e; rw [if_pos rfl]; exact (if_pos (by omega)).symm
  · rw [if_neg e]
    split
    · rename_i i
      have : i ≠ a + j := fun h => e (by rw [h])
      by_cases h : a ≤ i ∧ i < a + j
      · rw [if_pos h, if_pos (by omega)]
      · rw [if_neg h, if_neg (by omega)]
    · rfl
theorem gHit_some {blk : Int → Int} {l : List Int} {i b : Int} (h : gHit blk l i = some b) : b ∈ l ∧ b ≤ i ∧ i < b + blk b := by
  have h1 := List.find?_some h
  have h2 := List.mem_of_find?_eq_some h
  simp only [Bool.and_eq_true, decide_eq_true_eq] at h1
  exact ⟨h2, h1.1, h1.2⟩
theorem gHit_none {blk : Int → Int} {l : List Int} {i : Int} (h : gHit blk l i = none) (b : Int) (hb : b ∈ l) (h1 : b ≤ i) : b + blk b ≤ i := by
  have := List.find?_eq_none.1 h b hb
  simp only [Bool.and_eq_true, decide_eq_true_eq] at this
  omega
theorem takenF_new {blk : Int → Int} {l : List Int} {a : Int} (hn : ∀ j : Nat, (j : Int) < blk a → gHit blk l (a + j) = none) : takenF blk l a (blk a) = takenF blk (l ++ [a]) 0 0 := by
  funext k
  unfold takenF
  split
  · rename_i i
    rw [if_neg (show ¬ ((0 : Int) ≤ i ∧ i < 0 + 0) by omega)]
    unfold gHit
    rw [List.find?_append]
    by_cases h : a ≤ i ∧ i < a + blk a
    · rw [if_pos h]
      have := hn (i - a).toNat (by omega)
      rw [show a + ((i - a).toNat : Int) = i by omega] at this
      unfold gHit at this
      rw [this]
      simp [h]
    · rw [if_neg h]
      have e : ([a] : List Int).find? (fun b => decide (b ≤ i) && decide (i < b + blk b)) = none := by
        rw [List.find?_eq_none]
        intro b hb
        obtain rfl := List.mem_singleton.1 hb
        simp only [Bool.and_eq_true, decide_eq_true_eq]
        exact h
      rw [e]; simp
  · rfl
theorem sizesF_new (blk : Int → Int) (l : List Int) (a : Int) : putf (sizesF blk l) (.int .i64 a) (blk a) = sizesF blk (l ++ [a]) := by
  funext k
  unfold putf sizesF
  by_cases e : k = .int .i64 a
  · subst e; rw [if_pos rfl]; exact (if_pos (by simp)).symm
  · rw [if_neg e]
    split
    · rename_i i
      have : i ≠ a := fun h => e (by rw [h])
      by_cases h : i ∈ l
      · rw [if_pos h, if_pos (by simp [h])]
      · rw [if_neg h, if_neg (by simp [h, this])]
    · rfl
theorem Own.form {e size n : Nat} {v : Value} {xs : List Value} {Lv : List (Nat × Blk)} (h : Own e size v n xs Lv) : ∃ A c, v = .slice A n c := by
  obtain ⟨_, ⟨rfl, hn, _⟩ | ⟨g, cap, rfl, _, _⟩⟩ := h
  · exact ⟨none, 0, by rw [hn]⟩
  · exact ⟨_, _, rfl⟩
theorem gOver_hit {F T : Int} {blk : Int → Int} {l : List Int} {a : Int} (hi : GInv F T blk l) (h0 : 0 < blk a) : gOver blk l a = true ↔ ∃ j : Nat, (j : Int) < blk a ∧ (gHit blk l (a + j)).isSome = true := by
  constructor
  · intro h
    unfold gOver at h
    obtain ⟨b, hb, h2⟩ := List.any_eq_true.1 h
    simp only [Bool.and_eq_true, decide_eq_true_eq] at h2
    have hm := hi.mem b hb
    by_cases hab : a ≤ b
    · refine ⟨(b - a).toNat, by omega, ?_⟩
      cases e : gHit blk l (a + ((b - a).toNat : Int)) with
      | some _ => rfl
      | none => have := gHit_none e b hb (by omega); omega
    · refine ⟨0, by omega, ?_⟩
      cases e : gHit blk l (a + ((0 : Nat) : Int)) with
      | some _ => rfl
      | none => have := gHit_none e b hb (by omega); omega
  · rintro ⟨j, hj, h⟩
    obtain ⟨b, e⟩ := Option.isSome_iff_exists.1 h
    have := gHit_some e
    unfold gOver
    rw [List.any_eq_true]
    exact ⟨b, this.1, by simp only [Bool.and_eq_true, decide_eq_true_eq]; omega⟩
set_option maxHeartbeats 4000000 in
set_option maxRecDepth 100000 in
theorem gc_meet.calls {S : Nat → Prop} {w W : World} {gc sm tm : Nat} {A0 : Option Addr} {c0 : Nat} {m : List Int} {F T : Int} {l : List Int} {blk : Int → Int} (x : Int) (hm : Kd.C (Kd.int .u32) W A0 m.length m) (hc : m.length ≤ c0) (hlen : m.length ≤ 1000000) (hF : 0 ≤ F) (hFT : F ≤ T) (hT : T ≤ m.length)
    (hbf : ∀ a, F ≤ a → a < T → gc_half_block.f m F T a = some (blk a)) (hbo : BlkOk F T blk) (hi : GInv F T blk l) (hx0 : 0 ≤ x) (hx1 : x < 4294967296) (HS : GcSt blk S w W gc sm tm (.slice A0 m.length c0) F T l) :
    Calls Try.prog 35 #[.pointer (some ⟨gc, 0, none⟩), .int .u32 x] W (GcMeetPost blk S w gc sm tm (.slice A0 m.length c0) F T (gMeet F T blk l x)) := by
  obtain ⟨v, Lv, hown, HA⟩ := HS
  have hlf : gc_half_leads.f m F T x = some (gLeads F T x) := by
    unfold gc_half_leads.f gLeads
    rw [Int.tmod_eq_emod_of_nonneg hx0]
    have e1 : wrap64 x = x := by unfold wrap64; omega
    have e2 : wrap64 (4 * F) = 4 * F := by unfold wrap64; omega
    have e3 : wrap64 (4 * T) = 4 * T := by unfold wrap64; omega
    rw [e1, e2, e3]
    by_cases h1 : x % 2 = 0
    · by_cases h2 : 4 * F ≤ x
      · simp [h1, h2]
      · have : ¬ x ≥ 4 * F := by omega
        simp [h1, h2]
    · simp [h1]
  have hlead : ∀ W', Kd.C (Kd.int .u32) W' A0 m.length m → Calls Try.prog 24 #[.agg #[.slice A0 m.length c0, .int .i64 F, .int .i64 T], .int .u32 x] W' fun e w' => e = .returned (.bool (gLeads F T x)) ∧ Below W'.heap.size W' w' := fun W' h => gc_half_leads.calls A0 c0 m F T x _ W' h hc hlf
  clear hlf
  have hm_ := hm
  clear hm
  have Hbf := Lib.hid hbf
  have Hbo := Lib.hid hbo
  have Hi := Lib.hid hi
  clear hbf hbo hi
  unfold gMeet
  cases hl : gLeads F T x
  case false =>
    rw [hl] at hlead
    rw [if_pos rfl]
    go_enter Try.func35, Try.ntmps35
    go_wp2_with (first | (go_at_call 24; refine (hlead _ hm_).mono ?_; rintro e W_ ⟨rfl, hb_⟩; replace HA := HA.call hb_; have hm_ := Kd.C_below hm_ hb_; clear hb_) | ((with_reducible refine gate_ld rfl ?_); (first | refine aw_loadA 0 (t := 52) (j := 0) rfl rfl HA rfl rfl 3 ?_ rfl rfl ?_ | refine aw_load 0 rfl rfl HA rfl rfl rfl ?_ ?_); kernel_rfl; simp only [Act.put, List.setIfInBounds_toArray, List.set_cons_succ, List.set_cons_zero]))
    go_ret
    exact ⟨rfl, v, Lv, hown, HA⟩
  case true =>
  rw [hl] at hlead
  rw [if_neg (by decide)]
  have hle := gLeads_true hl
  clear hl
  by_cases h4 : x % 4 = 0
  case neg =>
    rw [if_pos h4]
    have c4 : (x % 4 != 0) = true := bne_iff_ne.mpr h4
    go_enter Try.func35, Try.ntmps35
    go_wp2_with (first | (go_at_call 24; refine (hlead _ hm_).mono ?_; rintro e W_ ⟨rfl, hb_⟩; replace HA := HA.call hb_; have hm_ := Kd.C_below hm_ hb_; clear hb_) | ((with_reducible refine gate_ld rfl ?_); (first | refine aw_loadA 0 (t := 52) (j := 0) rfl rfl HA rfl rfl 3 ?_ rfl rfl ?_ | refine aw_load 0 rfl rfl HA rfl rfl rfl ?_ ?_); kernel_rfl; simp only [Act.put, List.setIfInBounds_toArray, List.set_cons_succ, List.set_cons_zero]))
    go_ret
    exact ⟨rfl, HA.1⟩
  rw [if_neg (by omega)]
  have c4 : (x % 4 != 0) = false := bne_eq_false_iff_eq.mpr h4
  have hkx : keyOf Try.prog 3 (.int .i64 (x / 4)) = some (.int .i64 (x / 4)) := i_key (by omega) (by omega)
  by_cases hin : x / 4 ∈ l
  · rw [if_pos hin]
    have hsz : sizesF blk l (.int .i64 (x / 4)) = some (blk (x / 4)) := if_pos hin
    go_enter Try.func35, Try.ntmps35
    go_wp2_with (first | (go_at_call 24; refine (hlead _ hm_).mono ?_; rintro e W_ ⟨rfl, hb_⟩; replace HA := HA.call hb_; have hm_ := Kd.C_below hm_ hb_; clear hb_) | ((with_reducible refine gate_dst (N := 31) rfl ?_); refine aw_lookup_ok 1 (f := sizesF blk l) (kl := .int .i64 (x / 4)) i_keyed ii_under i_under i_zero rfl rfl rfl rfl HA rfl hkx hsz ?_; simp only [Act.put, List.setIfInBounds_toArray, List.set_cons_succ, List.set_cons_zero]) | ((with_reducible refine gate_ld rfl ?_); (first | refine aw_loadA 0 (t := 52) (j := 0) rfl rfl HA rfl rfl 3 ?_ rfl rfl ?_ | refine aw_load 0 rfl rfl HA rfl rfl rfl ?_ ?_); kernel_rfl; simp only [Act.put, List.setIfInBounds_toArray, List.set_cons_succ, List.set_cons_zero]))
    go_ret
    exact ⟨rfl, v, Lv, hown, HA⟩
  rw [if_neg hin]
  have hsz : sizesF blk l (.int .i64 (x / 4)) = none := if_neg hin
  have hblk : ∀ W', Kd.C (Kd.int .u32) W' A0 m.length m → Calls Try.prog 43 #[.agg #[.slice A0 m.length c0, .int .i64 F, .int .i64 T], .int .i64 (x / 4)] W' fun e w' => e = .returned (.int .i64 (blk (x / 4))) ∧ Below W'.heap.size W' w' := fun W' h => gc_half_block.calls A0 c0 m F T (x / 4) _ W' h hc (Hbf.out _ (by omega) (by omega))
  by_cases hb0 : blk (x / 4) = 0
  · rw [if_pos hb0]
    have cb := beq_iff_eq.mpr hb0
    go_enter Try.func35, Try.ntmps35
    go_wp2_with (first | (go_at_call 24; refine (hlead _ hm_).mono ?_; rintro e W_ ⟨rfl, hb_⟩; replace HA := HA.call hb_; have hm_ := Kd.C_below hm_ hb_; clear hb_) | ((with_reducible refine gate_dst (N := 31) rfl ?_); refine aw_lookup_ok 1 (f := sizesF blk l) (kl := .int .i64 (x / 4)) i_keyed ii_under i_under i_zero rfl rfl rfl rfl HA rfl hkx hsz ?_; simp only [Act.put, List.setIfInBounds_toArray, List.set_cons_succ, List.set_cons_zero]) | (go_at_call 43; refine (hblk _ hm_).mono ?_; rintro e W_ ⟨rfl, hb_⟩; replace HA := HA.call hb_; have hm_ := Kd.C_below hm_ hb_; clear hb_) | ((with_reducible refine gate_ld rfl ?_); (first | refine aw_loadA 0 (t := 52) (j := 0) rfl rfl HA rfl rfl 3 ?_ rfl rfl ?_ | refine aw_load 0 rfl rfl HA rfl rfl rfl ?_ ?_); kernel_rfl; simp only [Act.put, List.setIfInBounds_toArray, List.set_cons_succ, List.set_cons_zero]))
    go_ret
    exact ⟨rfl, HA.1⟩
  rw [if_neg hb0]
  have hbd := Hbo.out (x / 4) (by omega) (by omega)
  have hbd2 : 2 ≤ blk (x / 4) ∧ x / 4 + blk (x / 4) ≤ T := by omega
  have hov := gOver_hit (a := x / 4) Hi.out (by omega)
  have hwl := Hi.out.words hFT
  have hwn := Hi.out.words_len
  obtain ⟨res, hres⟩ : ∃ res, (if gOver blk l (x / 4) = true then none else some (l ++ [x / 4])) = res := ⟨_, rfl⟩
  rw [hres]
  have Hres := Lib.hid hres
  have Hov := Lib.hid hov
  have cb := beq_eq_false_iff_ne.mpr hb0
  clear hres hov hbd
  go_enter Try.func35, Try.ntmps35
  go_wp2_with (first | (go_at_call 24; refine (hlead _ hm_).mono ?_; rintro e W_ ⟨rfl, hb_⟩; replace HA := HA.call hb_; have hm_ := Kd.C_below hm_ hb_; clear hb_) | ((with_reducible refine gate_dst (N := 31) rfl ?_); refine aw_lookup_ok 1 (f := sizesF blk l) (kl := .int .i64 (x / 4)) i_keyed ii_under i_under i_zero rfl rfl rfl rfl HA rfl hkx hsz ?_; simp only [Act.put, List.setIfInBounds_toArray, List.set_cons_succ, List.set_cons_zero]) | (go_at_call 43; refine (hblk _ hm_).mono ?_; rintro e W_ ⟨rfl, hb_⟩; replace HA := HA.call hb_; have hm_ := Kd.C_below hm_ hb_; clear hb_) | ((with_reducible refine gate_ld rfl ?_); (first | refine aw_loadA 0 (t := 52) (j := 0) rfl rfl HA rfl rfl 3 ?_ rfl rfl ?_ | refine aw_load 0 rfl rfl HA rfl rfl rfl ?_ ?_); kernel_rfl; simp only [Act.put, List.setIfInBounds_toArray, List.set_cons_succ, List.set_cons_zero]))
  go_loopw [9] (fun i wr => ∃ (j : Nat), (j : Int) ≤ blk (x / 4) ∧ i = .int .i64 (x / 4 + j) ∧ (∀ j' : Nat, j' < j → gHit blk l (x / 4 + j') = none) ∧ Aw S w wr ((gc, .c 56 [.slice A0 m.length c0, .int .i64 F, .int .i64 T, v, .map (some sm), .map (some tm), .int .i64 (gWords blk l)]) :: (sm, Blk.m Try.prog 3 3 .i64 l.length (sizesF blk l)) :: (tm, Blk.m Try.prog 3 3 .i64 ((gWords blk l).toNat + j) (takenF blk l (x / 4) j)) :: Lv)) (fun i _ => (x / 4 + blk (x / 4) - intOf i).toNat)
  case atStart => exact ⟨0, by omega, by simp, by omega, by rw [Int.natCast_zero, takenF_zero]; exact HA⟩
  case round =>
    obtain ⟨j, hj, rfl, hno, HA⟩ := hrel
    have Hno := Lib.hid hno
    clear hno
    by_cases hlt : (j : Int) < blk (x / 4)
    · have hkj : keyOf Try.prog 3 (.int .i64 (x / 4 + j)) = some (.int .i64 (x / 4 + j)) := i_key (by omega) (by omega)
      have cj : decide (x / 4 + (j : Int) < x / 4 + blk (x / 4)) = true := decide_eq_true (by omega)
      have htj0 : takenF blk l (x / 4) j (.int .i64 (x / 4 + j)) = gHit blk l (x / 4 + j) := if_neg (by omega)
      obtain ⟨hh, hhe⟩ : ∃ hh, gHit blk l (x / 4 + j) = hh := ⟨_, rfl⟩
      have htj := htj0.trans hhe
      have Hhe := Lib.hid hhe
      clear hhe htj0
      cases hh with
      | some b =>
        go_wp2_with (first | ((with_reducible refine gate_dst (N := 57) rfl ?_); refine aw_lookup_ok 2 (f := takenF blk l (x / 4) j) (kl := .int .i64 (x / 4 + j)) i_keyed ii_under i_under i_zero rfl rfl rfl rfl HA rfl hkj htj ?_; simp only [Act.put, List.setIfInBounds_toArray, List.set_cons_succ, List.set_cons_zero]) | ((with_reducible refine gate_ld rfl ?_); (first | refine aw_loadA 0 (t := 52) (j := 0) rfl rfl HA rfl rfl 3 ?_ rfl rfl ?_ | refine aw_load 0 rfl rfl HA rfl rfl rfl ?_ ?_); kernel_rfl; simp only [Act.put, List.setIfInBounds_toArray, List.set_cons_succ, List.set_cons_zero]))
        go_ret
        have hr : res = none := by rw [← Hres.out]; exact if_pos (Hov.out.2 ⟨j, hlt, by rw [Hhe.out]; rfl⟩)
        subst hr
        exact ⟨rfl, HA.1⟩
      | none =>
        have hwa : (Lit.int .i64 (x / 4)).wf = true := i_wf (by omega) (by omega)
        have hnj : (gWords blk l).toNat + j < maxLen := by unfold maxLen; omega
        go_wp2_with (first | ((with_reducible refine gate_dst (N := 57) rfl ?_); refine aw_lookup_ok 2 (f := takenF blk l (x / 4) j) (kl := .int .i64 (x / 4 + j)) i_keyed ii_under i_under i_zero rfl rfl rfl rfl HA rfl hkj htj ?_; simp only [Act.put, List.setIfInBounds_toArray, List.set_cons_succ, List.set_cons_zero]) | ((with_reducible refine gate_ld rfl ?_); (first | refine aw_loadA 0 (t := 52) (j := 0) rfl rfl HA rfl rfl 3 ?_ rfl rfl ?_ | refine aw_load 0 rfl rfl HA rfl rfl rfl ?_ ?_); kernel_rfl; simp only [Act.put, List.setIfInBounds_toArray, List.set_cons_succ, List.set_cons_zero]) | ((with_reducible refine gate_mu rfl ?_); (refine aw_mapput 2 (kl := .int .i64 (x / 4 + j)) i_keyed ii_under i_under rfl rfl rfl rfl rfl rfl HA rfl hkj hwa hnj ?_); clear HA; intro W_ HA; dsimp only [List.set, List.take, List.cons_append, List.nil_append] at HA))
        go_roundw
        case rel =>
          refine ⟨j + 1, by omega, congrArg (Value.int .i64) (by omega), ?_, ?_⟩
          · intro j' hj'
            rcases Nat.lt_succ_iff_lt_or_eq.1 hj' with h | h
            · exact Hno.out j' h
            · rw [h]; exact Hhe.out
          · refine Aw.congr HA ?_
            rw [htj, takenF_put blk l (x / 4) j (by omega)]
            simp [Nat.add_assoc]
        case measure => simp [intOf]; omega
    · have cj : decide (x / 4 + (j : Int) < x / 4 + blk (x / 4)) = false := decide_eq_false (by omega)
      have hjb : (j : Int) = blk (x / 4) := by omega
      have hwb : (Lit.int .i64 (blk (x / 4))).wf = true := i_wf (by omega) (by omega)
      have hns : l.length < maxLen := by unfold maxLen; omega
      have hap1 : l.length + 1 ≤ maxLen := by unfold maxLen; omega
      have hap2 : (l.length + 1) * 8 ≤ 140737488355328 := by omega
      have Hjb := Lib.hid hjb
      clear hjb
      go_wp2_with (first | ((with_reducible refine gate_dst (N := 73) rfl ?_); refine aw_newv (fun g => .slice (some ⟨g, 0, none⟩) 1 1) 3 [.int .i64 (x / 4)] rfl (fun W => by kernel_rfl) HA ?_; clear HA; intro gn W_ HA; simp only [Act.put, List.setIfInBounds_toArray, List.set_cons_succ, List.set_cons_zero]) | ((with_reducible refine gate_dst (N := 74) rfl ?_); refine aw_append 4 0 rfl Try.underlying53 int_infoG rfl (Nat.le_refl 1) rfl hown rfl rfl HA rfl rfl rfl rfl hap1 hap2 ?_; clear HA; intro v_ W_ Lv_ hown_ HA; obtain ⟨A_, c_, rfl⟩ := hown_.form; dsimp only [List.set, List.take, List.cons_append, List.nil_append] at HA; simp only [Act.put, List.setIfInBounds_toArray, List.set_cons_succ, List.set_cons_zero]) | ((with_reducible refine gate_ld rfl ?_); (first | refine aw_load 0 rfl rfl HA rfl rfl rfl ?_ ?_ | refine aw_load 1 rfl rfl HA rfl rfl rfl ?_ ?_); kernel_rfl; simp only [Act.put, List.setIfInBounds_toArray, List.set_cons_succ, List.set_cons_zero]) | ((with_reducible refine gate_st rfl ?_); (first | refine aw_store 0 (v := .slice _ _ _) rfl rfl rfl rfl rfl HA rfl rfl rfl ?_ ?_ | refine aw_store 1 (v := .slice _ _ _) rfl rfl rfl rfl rfl HA rfl rfl rfl ?_ ?_ | refine aw_store 0 (v := .int _ _) rfl rfl rfl rfl rfl HA rfl rfl rfl ?_ ?_ | refine aw_store 1 (v := .int _ _) rfl rfl rfl rfl rfl HA rfl rfl rfl ?_ ?_); kernel_rfl; clear HA; intro W_ HA; dsimp only [List.set, List.take, List.cons_append, List.nil_append] at HA) | ((with_reducible refine gate_mu rfl ?_); (refine aw_mapput 2 (kl := .int .i64 (x / 4)) i_keyed ii_under i_under rfl rfl rfl rfl rfl rfl HA rfl hkx hwb hns ?_); clear HA; intro W_ HA; dsimp only [List.set, List.take, List.cons_append, List.nil_append] at HA))
      go_ret
      have hov : gOver blk l (x / 4) = false := by
        cases e : gOver blk l (x / 4) with
        | false => rfl
        | true =>
          obtain ⟨j', hj', h⟩ := Hov.out.1 e
          rw [Hno.out j' (by have := Hjb.out; omega)] at h
          cases h
      have hr : res = some (l ++ [x / 4]) := by rw [← Hres.out, hov]; rfl
      subst hr
      refine ⟨rfl, _, Lv_, by simpa using hown_, ?_⟩
      refine Aw.congr (HA.sub (List.sublist_cons_self _ _)) ?_
      have e1 : takenF blk l (x / 4) j = takenF blk (l ++ [x / 4]) 0 0 := by
        rw [Hjb.out]
        exact takenF_new (fun j' h => Hno.out j' (by have := Hjb.out; omega))
      have e2 : gWords blk (l ++ [x / 4]) = gWords blk l + blk (x / 4) := by rw [gWords_append]; simp [gWords]
      have e3 : (gWords blk (l ++ [x / 4])).toNat = (gWords blk l).toNat + j := by rw [e2]; have := Hjb.out; omega
      have e4 : (gWords blk l + blk (x / 4)) = gWords blk (l ++ [x / 4]) := e2.symm
      rw [hsz, sizesF_new, e1, e4, ← e3]
      simp
end Go.Proofs.Ytnkbfbhhioemoaa.Q
