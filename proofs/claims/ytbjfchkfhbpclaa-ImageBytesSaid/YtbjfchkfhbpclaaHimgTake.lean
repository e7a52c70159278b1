/- image.Take. By wip/gen/img_take.py. -/
import Derived.Test.YtbjfchkfhbpclaaQx0
import Derived.Test.YtbjfchkfhbpclaaQx2
import Derived.Test.YtbjfchkfhbpclaaAw
import Derived.Test.YtbjfchkfhbpclaaAwFrame
import Derived.Test.YtbjfchkfhbpclaaAwReg
import Derived.Test.YtbjfchkfhbpclaaAwSl
import Derived.Test.YtbjfchkfhbpclaaHimgPut
import Derived.Test.YtbjfchkfhbpclaaHimgSum
import Derived.Test.YtbjfchkfhbpclaaHimgTk
--@needs XAw
--@needs XAwSl
--@needs XAwFrame
--@needs XHimgPut
--@needs XHimgSum
--@needs XHimgTk
--@needs XAwReg
--@uses camlet/image.Right
import Derived.LoopTactic
import Derived.Deep.LoopGhost
import Derived.Lib.Hide
import Derived.Deep.QuietTactic
import Derived.BigQuiet
import Derived.IntWalk
namespace Go.Proofs.Ytbjfchkfhbpclaa.Q
open Go.RowKit Go.Proofs.YtbjfchkfhbpclaaW.PrintWords Go.Proofs.YtbjfchkfhbpclaaW.PrintLast Go.Proofs.YtbjfchkfhbpclaaW.PrintMore
attribute [local go_sem] max2_int min2_int max_two min_two max_three min_three max_four min_four   -- for this text's walks alone
set_option linter.unusedVariables false
set_option linter.unusedSimpArgs false

def nums (l : List Int) (n : Nat) : List Int := (List.range n).map fun i => num4 (l.drop (4 * i))
theorem nums_succ (l : List Int) (n : Nat) : nums l (n + 1) = nums l n ++ [num4 (l.drop (4 * n))] := by
  unfold nums
  rw [List.range_succ, List.map_append]
  rfl
theorem nums_len (l : List Int) (n : Nat) : (nums l n).length = n := by simp [nums]
theorem num4_range {l : List Int} (h : ∀ x ∈ l, 0 ≤ x ∧ x < 256) : 0 ≤ num4 l ∧ num4 l < 4294967296 := by
  have h0 := rd_byte h 0
  have h1 := rd_byte h 1
  have h2 := rd_byte h 2
  have h3 := rd_byte h 3
  have e : num4 l = rd l ((0 : Nat) : Int) * 16777216 + rd l ((1 : Nat) : Int) * 65536 + rd l ((2 : Nat) : Int) * 256 + rd l ((3 : Nat) : Int) := rfl
  rw [e]
  omega
def imgTake (l : List Int) : List Int × Int × Int :=
  if (l.length : Int) < 16 then ([], 0, 3) else
  if ¬ (strOfNums (l.take 4)).toList = ([67, 77, 76, 49] : List UInt8) then ([], 0, 3) else
  if 16384 < num4 (l.drop 4) then ([], 0, 4) else
  if ¬ (l.length : Int) = 16 + 4 * num4 (l.drop 4) then ([], 0, 3) else
  if ¬ num4 (l.drop (l.length - 4)) = sumB 1 (l.take (l.length - 4)) then ([], 0, 23) else
  if imgRight (nums (l.drop 12) (num4 (l.drop 4)).toNat) (num4 (l.drop 8)) = true then (nums (l.drop 12) (num4 (l.drop 4)).toNat, num4 (l.drop 8), 0) else ([], 0, 3)
def b8 (l : List Int) : Prop := l.length ≤ 1000000 ∧ ∀ x ∈ l, 0 ≤ x ∧ x < 256
instance (l : List Int) : Decidable (b8 l) := by unfold b8; infer_instance
def image_Take.f (l0 : List Int) : Option (List Int × Int × Int) := if b8 l0 then some (imgTake l0) else none
theorem b8_drop {l : List Int} (h : ∀ x ∈ l, 0 ≤ x ∧ x < 256) (n : Nat) : ∀ x ∈ l.drop n, 0 ≤ x ∧ x < 256 := fun x hx => h x (List.mem_of_mem_drop hx)
theorem u32_info : (Try.prog.info? 50).map (fun i => (i.zero, i.size, i.bytes)) = some (some (.int .u32 0), 1, 4) := by kernel_rfl
theorem img_zero (W : World) : (Instr.alloc 27 true (.tuple #[])).run Try.prog W = .ok (.pointer (some ⟨W.heap.size, 0, none⟩)) (W.alloc (.cells [.slice none 0 0, .int .i64 0].toArray 27 (0, 0))) := by kernel_rfl
theorem bs_zero (W : World) : (Instr.alloc 32 true (.tuple #[])).run Try.prog W = .ok (.pointer (some ⟨W.heap.size, 0, none⟩)) (W.alloc (.cells [.slice none 0 0].toArray 32 (0, 0))) := by kernel_rfl
theorem aw_conv {P : Program} {ops : Array Oper} {rest : List Oper} {o : Oper} {a : Act} {Q : Exit → Act → World → Prop} {W : World} {s d : TypeId} {x : Operand} {v u : Value} (ho : o.op = .convert s d x) (hx : a.eval x = u) (hw : Region.wanted o (yielded ops a.tmps) = true) (hrun : (convert s d u).run P W = .ok v W)
    (h : wpList P ops Q rest (a.put o.dst v) W) : wpList P ops Q (o :: rest) a W := by
  refine aw_ev hw ?_ h
  unfold execOp
  rw [ho]
  simp only [hx, Sem.run_bind, hrun]
  rfl
theorem aw_slice {P : Program} {ops : Array Oper} {rest : List Oper} {o : Oper} {a : Act} {Q : Exit → Act → World → Prop} {W : World} {t : TypeId} {x : Operand} {lo hi mx : Option Operand} {v : Value} {e : TypeId} (ht : P.underlying t = some (.slice e)) (ho : o.op = .slice t x lo hi mx) (hw : Region.wanted o (yielded ops a.tmps) = true) (hrun : (Instr.slice t (a.eval x) (lo.map a.eval) (hi.map a.eval) (mx.map a.eval)).run P W = .ok v W)
    (h : wpList P ops Q rest (a.put o.dst v) W) : wpList P ops Q (o :: rest) a W := by
  refine aw_ev hw ?_ h
  unfold execOp
  rw [ho]
  simp only [Instr.sliceAt, Sem.run_bind, run_underlying ht, Result.andThen_ok, hrun]
  rfl
/-- take, the box behind another block -/
theorem img_take2.calls {S : Nat → Prop} {w W : World} {R : List (Nat × Blk)} {b1 : Nat × Blk} {rx : Nat} (A : Option Addr) (c : Nat) (l : List Int) (h4 : 4 ≤ l.length) (hl : l.length ≤ 1000000) (hby : ∀ x ∈ l, 0 ≤ x ∧ x < 256) (hr : ∀ W', Kp S w W' → Kd.C (Kd.int .u8) W' A l.length l) (hc : l.length ≤ c) (HA : Aw S w W (b1 :: (rx, .c 32 [.slice A l.length c]) :: R)) :
    Calls Try.prog 27 #[.pointer (some ⟨rx, 0, none⟩)] W fun e W' => ∃ A', e = .returned (.int .u32 (num4 l)) ∧ Aw S w W' (b1 :: (rx, .c 32 [.slice A' (l.drop 4).length (l.drop 4).length]) :: R) ∧ ∀ V, Kd.C (Kd.int .u8) V A l.length l → Kd.C (Kd.int .u8) V A' (l.drop 4).length (l.drop 4) :=
  (img_take.calls A c l h4 hl hby (fun W' v h => hr W' h.1) hc (HA.perm (List.Perm.swap _ _ _))).mono (fun e W' ⟨A', he, h, hx⟩ => ⟨A', he, h.perm (List.Perm.swap _ _ _), hx⟩)
/-- take, the box behind two others -/
theorem img_take3.calls {S : Nat → Prop} {w W : World} {R : List (Nat × Blk)} {b0 b1 : Nat × Blk} {rx : Nat} (A : Option Addr) (c : Nat) (l : List Int) (h4 : 4 ≤ l.length) (hl : l.length ≤ 1000000) (hby : ∀ x ∈ l, 0 ≤ x ∧ x < 256) (hr : ∀ W', Kp S w W' → Kd.C (Kd.int .u8) W' A l.length l) (hc : l.length ≤ c) (HA : Aw S w W (b0 :: b1 :: (rx, .c 32 [.slice A l.length c]) :: R)) :
    Calls Try.prog 27 #[.pointer (some ⟨rx, 0, none⟩)] W fun e W' => ∃ A', e = .returned (.int .u32 (num4 l)) ∧ Aw S w W' (b0 :: b1 :: (rx, .c 32 [.slice A' (l.drop 4).length (l.drop 4).length]) :: R) ∧ ∀ V, Kd.C (Kd.int .u8) V A l.length l → Kd.C (Kd.int .u8) V A' (l.drop 4).length (l.drop 4) :=
  (img_take2.calls A c l h4 hl hby hr hc (HA.perm (List.Perm.cons _ (List.Perm.swap _ _ _)) : Aw S w W (b0 :: (rx, .c 32 [.slice A l.length c]) :: b1 :: R))).mono (fun e W' ⟨A', he, h, hx⟩ => ⟨A', he, h.perm (List.Perm.cons _ (List.Perm.swap _ _ _)), hx⟩)
set_option maxHeartbeats 8000000 in
set_option maxRecDepth 100000 in
theorem image_Take.calls (A0 : Option Addr) (c0 : Nat) (l0 : List Int) (r1 : List Int) (r2 : Int) (r3 : Int) (w : World) (hr0 : Kd.C (Kd.int .u8) w A0 l0.length l0) (hc0 : l0.length ≤ c0) (h : image_Take.f l0 = some (r1, r2, r3)) :
    Calls Try.prog 17 #[.slice A0 l0.length c0] w fun e w' => ∃ v0_ : Value, e = .returned (.tuple #[.agg #[v0_, .int .i64 r2], .int .i64 r3]) ∧ Kd.R (Kd.int .u32) 50 w' w.heap.size (fun _ => True) v0_ r1 ∧ Below w.heap.size w w' := by
  have HA := Aw.start noS w
  have HR0 : RowKit.Hid (∀ W', Kp noS w W' → Kd.C (Kd.int .u8) W' A0 l0.length l0) := Lib.hid (fun W' hk => hk.reads hr0)
  unfold image_Take.f at h
  by_cases hok : b8 l0
  case neg => rw [if_neg hok] at h; cases h
  rw [if_pos hok] at h
  replace h := Option.some.inj h
  have hl0 := hok.1
  have HBY := Lib.hid hok.2
  clear hok
  unfold imgTake at h
  by_cases h16 : (l0.length : Int) < 16
  · rw [if_pos h16] at h
    simp only [Prod.mk.injEq] at h
    obtain ⟨rfl, rfl, rfl⟩ := h
    have c1 := decide_eq_true h16
    clear h16 hr0
    go_enter Try.func17, Try.ntmps17
    go_wp2_with (first | ((with_reducible refine gate_dst (N := 2) rfl ?_); refine aw_alloc rfl rfl img_zero HA ?_; clear HA; intro i2 W_ HA; simp only [Act.put, List.setIfInBounds_toArray, List.set_cons_succ, List.set_cons_zero]) | ((with_reducible refine gate_ld rfl ?_); (first | refine aw_loadW 0 (t := 27) rfl rfl HA rfl rfl ?_ ?_ | refine aw_load 0 rfl rfl HA rfl rfl rfl ?_ ?_); kernel_rfl; simp only [Act.put, List.setIfInBounds_toArray, List.set_cons_succ, List.set_cons_zero]) | ((with_reducible refine gate_st rfl ?_); (first | refine aw_storeW 0 (t := 27) rfl rfl rfl rfl HA rfl rfl rfl ?_ rfl ?_ | refine aw_store 0 (v := .slice _ _ _) rfl rfl rfl rfl rfl HA rfl rfl rfl ?_ ?_); kernel_rfl; clear HA; intro W_ HA; dsimp only [List.set, List.take, List.cons_append, List.nil_append] at HA))
    (try simp only [Exit.inBlock, Exit.then]); (try rw [Exit.noGoto_ret]); refine bodyPost_ret (results_aw2 (i := 0) rfl _ HA rfl rfl rfl (by kernel_rfl)) rfl ?_; exact ⟨_, rfl, (Own.nil _ _).kdR (l := []) HA (by simp) (fun _ _ => trivial), HA.below⟩
  rw [if_neg h16] at h
  have c1 := decide_eq_false h16
  have h16' : 16 ≤ l0.length := by omega
  clear h16
  obtain ⟨inf, hi, hsz⟩ := Option.map_eq_some_iff.1 (show (Try.prog.info? 5).map (·.size) = some 1 by kernel_rfl)
  obtain ⟨hcutM, hAM, hCM⟩ := print_take_of (P := Try.prog) (Value.int .u8) 0 32 5 .i64 Try.underlying32 hi hsz A0 c0 l0 4 (by omega) (by omega) hc0
  have e4 : ((4 : Int).toNat) = 4 := rfl
  rw [e4] at hcutM hAM
  obtain ⟨T4, hT4⟩ : ∃ T, l0.take 4 = T := ⟨_, rfl⟩
  rw [hT4] at hcutM hAM h
  have hst : ∀ W, Kp noS w W → (convert 32 9 (.slice A0 T4.length c0)).run Try.prog W = .ok (.string (strOfNums T4)) W := fun W hk => Kd.C_string (P := Try.prog) (A := A0) (c := c0) Try.underlying32 Try.underlying5 Try.underlying9 (Kd.C_of_reads (h1 := fun _ => rfl) (hAM _ (Kd.reads_of_C (HR0.out W hk))))
  obtain ⟨ms, hms⟩ : ∃ ms, strOfNums T4 = ms := ⟨_, rfl⟩
  rw [hms] at h hst
  have HST := Lib.hid hst
  have hcutM' := Lib.hid hcutM
  clear hcutM
  have hcutM := hcutM'
  clear hcutM'
  clear hst hr0 hAM hCM hms hT4
  by_cases hm : ms.toList = ([67, 77, 76, 49] : List UInt8)
  case neg =>
    rw [if_pos hm] at h
    simp only [Prod.mk.injEq] at h
    obtain ⟨rfl, rfl, rfl⟩ := h
    have cm := bne_iff_ne.mpr hm
    have cm2 := beq_eq_false_iff_ne.mpr hm
    clear hm h16' hi hsz
    go_enter Try.func17, Try.ntmps17
    go_wp2_with (first | ((with_reducible refine gate_dst (N := 13) rfl ?_); refine aw_slice Try.underlying32 rfl rfl (hcutM.out _) ?_; simp only [Act.put, List.setIfInBounds_toArray, List.set_cons_succ, List.set_cons_zero]) | ((with_reducible refine gate_dst (N := 14) rfl ?_); refine aw_conv rfl rfl rfl (HST.out _ HA.1) ?_; simp only [Act.put, List.setIfInBounds_toArray, List.set_cons_succ, List.set_cons_zero]) | ((with_reducible refine gate_dst (N := 2) rfl ?_); refine aw_alloc rfl rfl img_zero HA ?_; clear HA; intro i2 W_ HA; simp only [Act.put, List.setIfInBounds_toArray, List.set_cons_succ, List.set_cons_zero]) | ((with_reducible refine gate_ld rfl ?_); (first | refine aw_loadW 0 (t := 27) rfl rfl HA rfl rfl ?_ ?_ | refine aw_load 0 rfl rfl HA rfl rfl rfl ?_ ?_); kernel_rfl; simp only [Act.put, List.setIfInBounds_toArray, List.set_cons_succ, List.set_cons_zero]) | ((with_reducible refine gate_st rfl ?_); (first | refine aw_storeW 0 (t := 27) rfl rfl rfl rfl HA rfl rfl rfl ?_ rfl ?_ | refine aw_store 0 (v := .slice _ _ _) rfl rfl rfl rfl rfl HA rfl rfl rfl ?_ ?_); kernel_rfl; clear HA; intro W_ HA; dsimp only [List.set, List.take, List.cons_append, List.nil_append] at HA))
    (try simp only [Exit.inBlock, Exit.then]); (try rw [Exit.noGoto_ret]); refine bodyPost_ret (results_aw2 (i := 0) rfl _ HA rfl rfl rfl (by kernel_rfl)) rfl ?_; exact ⟨_, rfl, (Own.nil _ _).kdR (l := []) HA (by simp) (fun _ _ => trivial), HA.below⟩
  rw [if_neg (fun h => h hm)] at h
  have cm := bne_eq_false_iff_eq.mpr hm
  have cm2 := beq_iff_eq.mpr hm
  obtain ⟨A1, hcut1, hrd1, hC1⟩ := print_drop_of (P := Try.prog) (Value.int .u8) 0 32 5 .i64 Try.underlying32 hi hsz A0 c0 l0 4 (by omega) (by omega) hc0
  rw [e4] at hcut1 hC1 hrd1
  obtain ⟨D1, hD1⟩ : ∃ D, l0.drop 4 = D := ⟨_, rfl⟩
  obtain ⟨D2, hD2⟩ : ∃ D, l0.drop 8 = D := ⟨_, rfl⟩
  obtain ⟨D3, hD3⟩ : ∃ D, l0.drop 12 = D := ⟨_, rfl⟩
  have HL1 : Aside0 (D1.length + 4 = l0.length) := ⟨by rw [← hD1, List.length_drop]; omega⟩
  have HL2 : Aside0 (D2.length + 8 = l0.length) := ⟨by rw [← hD2, List.length_drop]; omega⟩
  have HL3 : Aside0 (D3.length + 12 = l0.length) := ⟨by rw [← hD3, List.length_drop]; omega⟩
  have HD2 : Aside0 (D1.drop 4 = D2) := ⟨by rw [← hD1, ← hD2, List.drop_drop]⟩
  have HD3 : Aside0 (D2.drop 4 = D3) := ⟨by rw [← hD2, ← hD3, List.drop_drop]⟩
  have HDD : Aside0 (l0.drop 12 = D3) := ⟨hD3⟩
  have HBY1 := Lib.hid (show ∀ x ∈ D1, 0 ≤ x ∧ x < 256 by rw [← hD1]; exact b8_drop HBY.out 4)
  have HBY2 := Lib.hid (show ∀ x ∈ D2, 0 ≤ x ∧ x < 256 by rw [← hD2]; exact b8_drop HBY.out 8)
  have HBY3 := Lib.hid (show ∀ x ∈ D3, 0 ≤ x ∧ x < 256 by rw [← hD3]; exact b8_drop HBY.out 12)
  rw [hD1] at hcut1 hC1 hrd1 h
  rw [hD2, hD3] at h
  have HRD1 : RowKit.Hid (∀ V, Kp noS w V → Kd.C (Kd.int .u8) V A1 D1.length D1) := Lib.hid (fun V hV => Kd.C_of_reads (h1 := fun _ => rfl) (hrd1 V (Kd.reads_of_C (HR0.out V hV))))
  have hnr := num4_range HBY1.out
  have her := num4_range HBY2.out
  obtain ⟨nn, hnn⟩ : ∃ nn, num4 D1 = nn := ⟨_, rfl⟩
  obtain ⟨ee, hee⟩ : ∃ ee, num4 D2 = ee := ⟨_, rfl⟩
  rw [hnn] at hnr h
  rw [hee] at her h
  have HNN := Aside0.mk hnn
  have HEE := Aside0.mk hee
  have hcut1' := Lib.hid hcut1
  clear hcut1
  have hcut1 := hcut1'
  clear hcut1'
  clear hrd1 hm hi hsz hD1 hD2 hD3 hnn hee e4
  by_cases hn : 16384 < nn
  · rw [if_pos hn] at h
    simp only [Prod.mk.injEq] at h
    obtain ⟨rfl, rfl, rfl⟩ := h
    have cn := decide_eq_true hn
    clear hn hnr her
    go_enter Try.func17, Try.ntmps17
    go_wp2_with (first | ((with_reducible refine gate_dst (N := 13) rfl ?_); refine aw_slice Try.underlying32 rfl rfl (hcutM.out _) ?_; simp only [Act.put, List.setIfInBounds_toArray, List.set_cons_succ, List.set_cons_zero]) | ((with_reducible refine gate_dst (N := 19) rfl ?_); refine aw_slice Try.underlying32 rfl rfl (hcut1.out _) ?_; simp only [Act.put, List.setIfInBounds_toArray, List.set_cons_succ, List.set_cons_zero]) | ((with_reducible refine gate_dst (N := 14) rfl ?_); refine aw_conv rfl rfl rfl (HST.out _ HA.1) ?_; simp only [Act.put, List.setIfInBounds_toArray, List.set_cons_succ, List.set_cons_zero]) | ((with_reducible refine gate_dst (N := 2) rfl ?_); refine aw_alloc rfl rfl img_zero HA ?_; clear HA; intro i2 W_ HA; simp only [Act.put, List.setIfInBounds_toArray, List.set_cons_succ, List.set_cons_zero]) | ((with_reducible refine gate_dst (N := 4) rfl ?_); refine aw_alloc rfl rfl bs_zero HA ?_; clear HA; intro rx W_ HA; simp only [Act.put, List.setIfInBounds_toArray, List.set_cons_succ, List.set_cons_zero]) | (go_at_call 27; have hq := img_take.calls A1 _ D1 (by have := HL1.out; omega) (by have := HL1.out; omega) HBY1.out (fun W' v h => HRD1.out W' h.1) hC1 HA; rw [HD2.out] at hq; (try rw [HNN.out] at hq); refine hq.mono ?_; clear hq; clear HA; rintro e W_ ⟨A2, rfl, HA, hrd⟩; have HRD2 : RowKit.Hid (∀ V, Kp noS w V → Kd.C (Kd.int .u8) V A2 D2.length D2) := Lib.hid (fun V hV => hrd V (HRD1.out V hV)); clear hrd) | (go_at_call 27; have hq := img_take.calls A2 _ D2 (by have := HL2.out; omega) (by have := HL2.out; omega) HBY2.out (fun W' v h => HRD2.out W' h.1) (Nat.le_refl _) HA; rw [HD3.out] at hq; (try rw [HEE.out] at hq); refine hq.mono ?_; clear hq; clear HA; rintro e W_ ⟨A3, rfl, HA, hrd⟩; have HRD3 : RowKit.Hid (∀ V, Kp noS w V → Kd.C (Kd.int .u8) V A3 D3.length D3) := Lib.hid (fun V hV => hrd V (HRD2.out V hV)); clear hrd) | ((with_reducible refine gate_ld rfl ?_); (first | refine aw_loadW 0 (t := 27) rfl rfl HA rfl rfl ?_ ?_ | refine aw_loadW 1 (t := 27) rfl rfl HA rfl rfl ?_ ?_ | refine aw_load 0 rfl rfl HA rfl rfl rfl ?_ ?_ | refine aw_load 1 rfl rfl HA rfl rfl rfl ?_ ?_); kernel_rfl; simp only [Act.put, List.setIfInBounds_toArray, List.set_cons_succ, List.set_cons_zero]) | ((with_reducible refine gate_st rfl ?_); (first | refine aw_storeW 0 (t := 27) rfl rfl rfl rfl HA rfl rfl rfl ?_ rfl ?_ | refine aw_storeW 1 (t := 27) rfl rfl rfl rfl HA rfl rfl rfl ?_ rfl ?_ | refine aw_store 0 (v := .slice _ _ _) rfl rfl rfl rfl rfl HA rfl rfl rfl ?_ ?_ | refine aw_store 1 (v := .slice _ _ _) rfl rfl rfl rfl rfl HA rfl rfl rfl ?_ ?_); kernel_rfl; clear HA; intro W_ HA; dsimp only [List.set, List.take, List.cons_append, List.nil_append] at HA))
    (try simp only [Exit.inBlock, Exit.then]); (try rw [Exit.noGoto_ret]); refine bodyPost_ret (results_aw2 (i := 1) rfl _ HA rfl rfl rfl (by kernel_rfl)) rfl ?_; exact ⟨_, rfl, (Own.nil _ _).kdR (l := []) HA (by simp) (fun _ _ => trivial), HA.below⟩
  rw [if_neg hn] at h
  have cn := decide_eq_false hn
  obtain ⟨N, rfl⟩ := Int.eq_ofNat_of_zero_le hnr.1
  have hN : N ≤ 16384 := by omega
  have s1 : IntKind.i64.wrap (4 * (N : Int)) = 4 * (N : Int) := IntWalk.i64_in _ (by omega)
  have s2 : IntKind.i64.wrap (4 * (N : Int) + 4) = 4 * (N : Int) + 4 := IntWalk.i64_in _ (by omega)
  have s3 : IntKind.i64.wrap (N : Int) = (N : Int) := IntWalk.i64_in _ (by omega)
  have s4 : IntKind.i64.wrap ee = ee := IntWalk.i64_in _ (by omega)
  clear hn hnr
  by_cases hlen : (l0.length : Int) = 16 + 4 * (N : Int)
  case neg =>
    rw [if_pos hlen] at h
    simp only [Prod.mk.injEq] at h
    obtain ⟨rfl, rfl, rfl⟩ := h
    have cl := beq_eq_false_iff_ne.mpr (show (D3.length : Int) ≠ 4 * (N : Int) + 4 by have := HL3.out; omega)
    have cl2 := bne_iff_ne.mpr (show (D3.length : Int) ≠ 4 * (N : Int) + 4 by have := HL3.out; omega)
    clear hlen her hN
    go_enter Try.func17, Try.ntmps17
    go_wp2_with (first | ((with_reducible refine gate_dst (N := 13) rfl ?_); refine aw_slice Try.underlying32 rfl rfl (hcutM.out _) ?_; simp only [Act.put, List.setIfInBounds_toArray, List.set_cons_succ, List.set_cons_zero]) | ((with_reducible refine gate_dst (N := 19) rfl ?_); refine aw_slice Try.underlying32 rfl rfl (hcut1.out _) ?_; simp only [Act.put, List.setIfInBounds_toArray, List.set_cons_succ, List.set_cons_zero]) | ((with_reducible refine gate_dst (N := 14) rfl ?_); refine aw_conv rfl rfl rfl (HST.out _ HA.1) ?_; simp only [Act.put, List.setIfInBounds_toArray, List.set_cons_succ, List.set_cons_zero]) | ((with_reducible refine gate_dst (N := 2) rfl ?_); refine aw_alloc rfl rfl img_zero HA ?_; clear HA; intro i2 W_ HA; simp only [Act.put, List.setIfInBounds_toArray, List.set_cons_succ, List.set_cons_zero]) | ((with_reducible refine gate_dst (N := 4) rfl ?_); refine aw_alloc rfl rfl bs_zero HA ?_; clear HA; intro rx W_ HA; simp only [Act.put, List.setIfInBounds_toArray, List.set_cons_succ, List.set_cons_zero]) | (go_at_call 27; have hq := img_take.calls A1 _ D1 (by have := HL1.out; omega) (by have := HL1.out; omega) HBY1.out (fun W' v h => HRD1.out W' h.1) hC1 HA; rw [HD2.out] at hq; (try rw [HNN.out] at hq); refine hq.mono ?_; clear hq; clear HA; rintro e W_ ⟨A2, rfl, HA, hrd⟩; have HRD2 : RowKit.Hid (∀ V, Kp noS w V → Kd.C (Kd.int .u8) V A2 D2.length D2) := Lib.hid (fun V hV => hrd V (HRD1.out V hV)); clear hrd) | (go_at_call 27; have hq := img_take.calls A2 _ D2 (by have := HL2.out; omega) (by have := HL2.out; omega) HBY2.out (fun W' v h => HRD2.out W' h.1) (Nat.le_refl _) HA; rw [HD3.out] at hq; (try rw [HEE.out] at hq); refine hq.mono ?_; clear hq; clear HA; rintro e W_ ⟨A3, rfl, HA, hrd⟩; have HRD3 : RowKit.Hid (∀ V, Kp noS w V → Kd.C (Kd.int .u8) V A3 D3.length D3) := Lib.hid (fun V hV => hrd V (HRD2.out V hV)); clear hrd) | ((with_reducible refine gate_ld rfl ?_); (first | refine aw_loadW 0 (t := 27) rfl rfl HA rfl rfl ?_ ?_ | refine aw_loadW 1 (t := 27) rfl rfl HA rfl rfl ?_ ?_ | refine aw_load 0 rfl rfl HA rfl rfl rfl ?_ ?_ | refine aw_load 1 rfl rfl HA rfl rfl rfl ?_ ?_); kernel_rfl; simp only [Act.put, List.setIfInBounds_toArray, List.set_cons_succ, List.set_cons_zero]) | ((with_reducible refine gate_st rfl ?_); (first | refine aw_storeW 0 (t := 27) rfl rfl rfl rfl HA rfl rfl rfl ?_ rfl ?_ | refine aw_storeW 1 (t := 27) rfl rfl rfl rfl HA rfl rfl rfl ?_ rfl ?_ | refine aw_store 0 (v := .slice _ _ _) rfl rfl rfl rfl rfl HA rfl rfl rfl ?_ ?_ | refine aw_store 1 (v := .slice _ _ _) rfl rfl rfl rfl rfl HA rfl rfl rfl ?_ ?_); kernel_rfl; clear HA; intro W_ HA; dsimp only [List.set, List.take, List.cons_append, List.nil_append] at HA))
    (try simp only [Exit.inBlock, Exit.then]); (try rw [Exit.noGoto_ret]); refine bodyPost_ret (results_aw2 (i := 1) rfl _ HA rfl rfl rfl (by kernel_rfl)) rfl ?_; exact ⟨_, rfl, (Own.nil _ _).kdR (l := []) HA (by simp) (fun _ _ => trivial), HA.below⟩
  rw [if_neg (fun h => h hlen)] at h
  have hl3 : D3.length = 4 * N + 4 := by have := HL3.out; omega
  have cl := beq_iff_eq.mpr (show (D3.length : Int) = 4 * (N : Int) + 4 by omega)
  have cl2 := bne_eq_false_iff_eq.mpr (show (D3.length : Int) = 4 * (N : Int) + 4 by omega)
  have HL3' := Aside0.mk hl3
  have H := Aside0.mk h
  have HLEN := Aside0.mk hlen
  clear hlen h hl3 her
  go_enter Try.func17, Try.ntmps17
  go_wp2_with (first | ((with_reducible refine gate_dst (N := 13) rfl ?_); refine aw_slice Try.underlying32 rfl rfl (hcutM.out _) ?_; simp only [Act.put, List.setIfInBounds_toArray, List.set_cons_succ, List.set_cons_zero]) | ((with_reducible refine gate_dst (N := 19) rfl ?_); refine aw_slice Try.underlying32 rfl rfl (hcut1.out _) ?_; simp only [Act.put, List.setIfInBounds_toArray, List.set_cons_succ, List.set_cons_zero]) | ((with_reducible refine gate_dst (N := 14) rfl ?_); refine aw_conv rfl rfl rfl (HST.out _ HA.1) ?_; simp only [Act.put, List.setIfInBounds_toArray, List.set_cons_succ, List.set_cons_zero]) | ((with_reducible refine gate_dst (N := 2) rfl ?_); refine aw_alloc rfl rfl img_zero HA ?_; clear HA; intro i2 W_ HA; simp only [Act.put, List.setIfInBounds_toArray, List.set_cons_succ, List.set_cons_zero]) | ((with_reducible refine gate_dst (N := 4) rfl ?_); refine aw_alloc rfl rfl bs_zero HA ?_; clear HA; intro rx W_ HA; simp only [Act.put, List.setIfInBounds_toArray, List.set_cons_succ, List.set_cons_zero]) | ((with_reducible refine gate_dst (N := 7) rfl ?_); refine aw_alloc rfl rfl img_zero HA ?_; clear HA; intro ix W_ HA; simp only [Act.put, List.setIfInBounds_toArray, List.set_cons_succ, List.set_cons_zero]) | (go_at_call 27; have hq := img_take.calls A1 _ D1 (by have := HL1.out; omega) (by have := HL1.out; omega) HBY1.out (fun W' v h => HRD1.out W' h.1) hC1 HA; rw [HD2.out] at hq; (try rw [HNN.out] at hq); refine hq.mono ?_; clear hq; clear HA; rintro e W_ ⟨A2, rfl, HA, hrd⟩; have HRD2 : RowKit.Hid (∀ V, Kp noS w V → Kd.C (Kd.int .u8) V A2 D2.length D2) := Lib.hid (fun V hV => hrd V (HRD1.out V hV)); clear hrd) | (go_at_call 27; have hq := img_take.calls A2 _ D2 (by have := HL2.out; omega) (by have := HL2.out; omega) HBY2.out (fun W' v h => HRD2.out W' h.1) (Nat.le_refl _) HA; rw [HD3.out] at hq; (try rw [HEE.out] at hq); refine hq.mono ?_; clear hq; clear HA; rintro e W_ ⟨A3, rfl, HA, hrd⟩; have HRD3 : RowKit.Hid (∀ V, Kp noS w V → Kd.C (Kd.int .u8) V A3 D3.length D3) := Lib.hid (fun V hV => hrd V (HRD2.out V hV)); clear hrd) | ((with_reducible refine gate_ld rfl ?_); (first | refine aw_loadW 0 (t := 27) rfl rfl HA rfl rfl ?_ ?_ | refine aw_loadW 1 (t := 27) rfl rfl HA rfl rfl ?_ ?_ | refine aw_loadW 2 (t := 27) rfl rfl HA rfl rfl ?_ ?_ | refine aw_load 0 rfl rfl HA rfl rfl rfl ?_ ?_ | refine aw_load 1 rfl rfl HA rfl rfl rfl ?_ ?_ | refine aw_load 2 rfl rfl HA rfl rfl rfl ?_ ?_); kernel_rfl; simp only [Act.put, List.setIfInBounds_toArray, List.set_cons_succ, List.set_cons_zero]) | ((with_reducible refine gate_st rfl ?_); (first | refine aw_storeW 0 (t := 27) rfl rfl rfl rfl HA rfl rfl rfl ?_ rfl ?_ | refine aw_storeW 1 (t := 27) rfl rfl rfl rfl HA rfl rfl rfl ?_ rfl ?_ | refine aw_storeW 2 (t := 27) rfl rfl rfl rfl HA rfl rfl rfl ?_ rfl ?_ | refine aw_store 0 (v := .slice _ _ _) rfl rfl rfl rfl rfl HA rfl rfl rfl ?_ ?_ | refine aw_store 1 (v := .slice _ _ _) rfl rfl rfl rfl rfl HA rfl rfl rfl ?_ ?_ | refine aw_store 2 (v := .slice _ _ _) rfl rfl rfl rfl rfl HA rfl rfl rfl ?_ ?_); kernel_rfl; clear HA; intro W_ HA; dsimp only [List.set, List.take, List.cons_append, List.nil_append] at HA))
  clear cl cl2 cm cm2 cn s1 s2 s3 s4
  go_loopg [39] N (fun g i wx => ∃ (k : Nat) (v : Value) (Lv : List (Nat × Blk)) (A' : Option Addr) (Dk : List Int), k + g = N ∧ i = .int .u32 k ∧ Own 50 1 v k ((nums D3 k).map (Value.int .u32)) Lv ∧ Aside0 (D3.drop (4 * k) = Dk ∧ Dk.length + 4 * k = D3.length) ∧ RowKit.Hid (∀ V, Kp noS w V → Kd.C (Kd.int .u8) V A' Dk.length Dk) ∧ Aw noS w wx ((ix, .c 27 [v, .int .i64 ee]) :: (rx, .c 32 [.slice A' Dk.length Dk.length]) :: (i2, .c 27 [.slice none 0 0, .int .i64 0]) :: Lv))
  case atStart => exact ⟨0, _, [], A3, D3, by omega, rfl, Own.nil _ _, ⟨by simp, by omega⟩, HRD3, HA⟩
  case round =>
    clear HA
    obtain ⟨k, v, Lv, A', Dk, hk, rfl, hown, HDK, HRK, HA⟩ := hrel
    obtain ⟨A_, c_, rfl⟩ := img_form hown
    have HBYK := Lib.hid (show ∀ x ∈ Dk, 0 ≤ x ∧ x < 256 by rw [← HDK.out.1]; exact b8_drop HBY3.out _)
    by_cases hlt : k < N
    · have ck1 : decide ((k : Int) < (N : Int)) = true := decide_eq_true (by omega)
      have ck2 : decide (k < N) = true := decide_eq_true hlt
      have HDL : Aside0 (4 ≤ Dk.length ∧ Dk.length ≤ 1000000) := ⟨by have := HDK.out.2; have := HL3'.out; have := HL3.out; omega⟩
      obtain ⟨Dn, hDn⟩ : ∃ D, Dk.drop 4 = D := ⟨_, rfl⟩
      have HDN : Aside0 (D3.drop (4 * (k + 1)) = Dn ∧ Dn.length + 4 * (k + 1) = D3.length) := ⟨by rw [← hDn, ← HDK.out.1, List.drop_drop]; rfl, by have := HDK.out.2; have := HDL.out; rw [← hDn, List.length_drop]; omega⟩
      obtain ⟨nk, hnk⟩ : ∃ n, num4 Dk = n := ⟨_, rfl⟩
      have HNK : Aside0 (nums D3 (k + 1) = nums D3 k ++ [nk]) := ⟨by rw [nums_succ, HDK.out.1, hnk]⟩
      have hcall := fun W (b1 : Nat × Blk) R (h : Aw noS w W (b1 :: (rx, .c 32 [.slice A' Dk.length Dk.length]) :: R)) => img_take2.calls A' Dk.length Dk HDL.out.1 HDL.out.2 HBYK.out HRK.out (Nat.le_refl _) h
      rw [hDn, hnk] at hcall
      have HC := Lib.hid hcall
      have hap1 : k + 1 ≤ maxLen := by unfold maxLen; omega
      have hap2 : (k + 1) * 4 ≤ 140737488355328 := by omega
      have su : IntKind.u32.wrap ((k : Int) + 1) = (k : Int) + 1 := by show ((k : Int) + 1) % 4294967296 = _; omega
      clear hDn hnk hcall
      go_wp2
      replace HA := HA.drew
      have hc42 := HA.cell (i := 0) (j := 0) rfl rfl
      go_region_law (first | (go_simp; go_at_call 27; have hq := HC.out _ _ _ HA; refine hq.mono ?_; clear hq; clear HA; rintro e W1_ ⟨An_, rfl, HA, hrd⟩; have HRn : RowKit.Hid (∀ V, Kp noS w V → Kd.C (Kd.int .u8) V An_ Dn.length Dn) := Lib.hid (fun V hV => hrd V (HRK.out V hV)); clear hrd; have hc43 := HA.cell (i := 0) (j := 0) rfl rfl; have hc44 := (HA.newD 50 [.int .u32 nk]).cell (i := 1) (j := 0) rfl rfl) | (refine reg_step rfl ?_; refine aw_append 4 0 (Lv := Lv) rfl Try.underlying25 u32_info rfl (Nat.le_refl 1) rfl hown rfl rfl (HA.newD 50 [.int .u32 nk]) rfl rfl rfl rfl hap1 hap2 ?_; clear HA; intro v_ W2_ Lv_ hown_ HA; dsimp only [List.set, List.take, List.cons_append, List.nil_append] at HA; obtain ⟨A2_, c2_, rfl⟩ := img_form hown_; have hs1 := HA.cell (i := 1) (j := 0) rfl rfl; have hs2 : W2_.frozen? ⟨ix, 0, none⟩ = false := HA.free (i := 1) rfl; refine reg_end ?_; simp only [Act.put, List.setIfInBounds_toArray, List.set_cons_succ, List.set_cons_zero]))
      all_goals
        replace HA := HA.setD (i := 1) (j := 0) (.slice A2_ (k + 1) c2_) rfl
        dsimp only [List.set, List.take, List.cons_append, List.nil_append] at HA
        go_wp2
        go_roundg (N - (k + 1))
        case measure => omega
        case rel => exact ⟨k + 1, _, Lv_, An_, Dn, by omega, by first | go_num | simp, by rw [HNK.out]; simpa using hown_, HDN, HRn, HA.sub (List.sublist_cons_self _ _)⟩
    · have ck1 : decide ((k : Int) < (N : Int)) = false := decide_eq_false (by omega)
      have ck2 : decide (k < N) = false := decide_eq_false hlt
      obtain rfl : k = N := by omega
      obtain ⟨m, hm⟩ : ∃ m, l0.length = m + 4 := ⟨l0.length - 4, by omega⟩
      have hdk : l0.drop (l0.length - 4) = Dk := by rw [← HDK.out.1, ← HDD.out, List.drop_drop]; congr 1; have := HLEN.out; omega
      have hdl : Dk.length = 4 := by have := HDK.out.2; have := HL3'.out; omega
      obtain ⟨inf, hi, hsz⟩ := Option.map_eq_some_iff.1 (show (Try.prog.info? 5).map (·.size) = some 1 by kernel_rfl)
      obtain ⟨hcutE, hAE, hCE⟩ := print_take_of (P := Try.prog) (Value.int .u8) 0 32 5 .i64 Try.underlying32 hi hsz A0 c0 l0 (m : Int) (by omega) (by omega) hc0
      rw [Int.toNat_natCast] at hcutE hAE hCE
      have h := H.out
      rw [hdk, show l0.length - 4 = m by omega, Int.toNat_natCast] at h
      obtain ⟨TL, hTL⟩ : ∃ T, l0.take m = T := ⟨_, rfl⟩
      have hTLl : TL.length = m := by rw [← hTL, List.length_take]; omega
      have hTLb : ∀ x ∈ TL, 0 ≤ x ∧ x < 256 := by rw [← hTL]; exact fun x hx => HBY.out x (List.mem_of_mem_take hx)
      rw [hTL] at hcutE hAE hCE h
      have hrT : ∀ V, Kp noS w V → Kd.C (Kd.int .u8) V A0 TL.length TL := fun V hV => Kd.C_of_reads (h1 := fun _ => rfl) (hAE _ (Kd.reads_of_C (HR0.out V hV)))
      have hsum := fun W R (gs : Nat) (h : Aw noS w W ((gs, .c 50 [.int .u32 1]) :: R)) => img_sum.calls (S := noS) 1 (by omega) A0 c0 TL (fun W' s' h => hrT W' h.1) hTLb hCE (by omega) h
      obtain ⟨sm, hsm⟩ : ∃ sm, sumB 1 TL = sm := ⟨_, rfl⟩
      obtain ⟨q, hq0⟩ : ∃ q, num4 Dk = q := ⟨_, rfl⟩
      rw [hsm, hq0] at h
      rw [hTLl, hsm] at hsum
      rw [hTLl] at hcutE
      have s1 : IntKind.i64.wrap ((l0.length : Int) - 4) = (m : Int) := by rw [IntWalk.i64_in _ (by omega)]; omega
      obtain ⟨C, hC⟩ : ∃ C, nums D3 k = C := ⟨_, rfl⟩
      have hCl : C.length = k := by rw [← hC, nums_len]
      rw [hC] at hown h
      have hcall2 := fun W (b1 : Nat × Blk) R (h : Aw noS w W (b1 :: (rx, .c 32 [.slice A' Dk.length Dk.length]) :: R)) => img_take2.calls A' Dk.length Dk (by omega) (by omega) HBYK.out HRK.out (Nat.le_refl _) h
      have hcall3 := fun W (b0 b1 : Nat × Blk) R (h : Aw noS w W (b0 :: b1 :: (rx, .c 32 [.slice A' Dk.length Dk.length]) :: R)) => img_take3.calls A' Dk.length Dk (by omega) (by omega) HBYK.out HRK.out (Nat.le_refl _) h
      rw [hq0] at hcall2 hcall3
      have HC2 := Lib.hid hcall2
      have HC3 := Lib.hid hcall3
      have HSM := Lib.hid hsum
      have hown' : Own 50 1 (.slice A_ C.length c_) C.length (C.map (Value.int .u32)) Lv := by rw [hCl]; exact hown
      have hrt0 := fun W (h : Aw noS w W ((ix, .c 27 [.slice A_ k c_, .int .i64 ee]) :: Lv)) => image_Right.calls A_ c_ C ee _ _ (hown'.reads h (fun x hx => by simp [hx])).1 (hown'.reads h (fun x hx => by simp [hx])).2 (imgRight_eq C ee)
      rw [hCl] at hrt0
      obtain ⟨br, hbr⟩ : ∃ b, imgRight C ee = b := ⟨_, rfl⟩
      rw [hbr] at hrt0 h
      have HRT := Lib.hid hrt0
      have HOW := Lib.hid hown'
      have HCL := Aside0.mk hCl
      clear hTL hTLl hTLb hAE hCE hrT hsum hsm hq0 hCl hC hcall2 hcall3 hrt0 hown' hown hi hsz hdk hdl hlt hm hbr hk ck1 ck2
      have ck1 : decide ((k : Int) < (k : Int)) = false := decide_eq_false (by omega)
      have ck2 : decide (k < k) = false := decide_eq_false (by omega)
      by_cases hs : q = sm
      case neg =>
        rw [if_pos hs] at h
        simp only [Prod.mk.injEq] at h
        obtain ⟨rfl, rfl, rfl⟩ := h
        have ce := beq_eq_false_iff_ne.mpr hs
        have ce2 := bne_iff_ne.mpr hs
        clear hs
        go_wp2
        replace HA := HA.drew
        go_region_law (first | (go_simp; go_at_call 27; (first | have hq := HC2.out _ _ _ HA | have hq := HC3.out _ _ _ _ HA); refine hq.mono ?_; clear hq; clear HA; rintro e W1_ ⟨An_, rfl, HA, hrd⟩; clear hrd) | (go_simp; go_at_call 24; refine (img_adder.calls _).mono ?_; rintro e W2_ ⟨gs, rfl, hk_⟩; replace HA := HA.fresh hk_; clear hk_; dsimp only [List.cons_append, List.nil_append] at HA) | (go_simp; go_at_call 32; have hq := HSM.out _ _ _ HA; refine hq.mono ?_; clear hq; clear HA; rintro e W3_ ⟨rfl, HA⟩))
        all_goals
          go_wp2_with (first | (go_at_call 15; refine (HRT.out _ (HA.sub (List.Sublist.cons _ (List.Sublist.cons_cons _ (List.Sublist.cons _ (List.Sublist.cons _ (List.Sublist.refl _))))))).mono ?_; rintro e W_ ⟨rfl, hb_⟩; replace HA := HA.call hb_; clear hb_) | ((with_reducible refine gate_ld rfl ?_); (first | refine aw_loadW 0 (t := 27) rfl rfl HA rfl rfl ?_ ?_ | refine aw_loadW 1 (t := 27) rfl rfl HA rfl rfl ?_ ?_ | refine aw_loadW 2 (t := 27) rfl rfl HA rfl rfl ?_ ?_ | refine aw_loadW 3 (t := 27) rfl rfl HA rfl rfl ?_ ?_ | refine aw_load 0 rfl rfl HA rfl rfl rfl ?_ ?_ | refine aw_load 1 rfl rfl HA rfl rfl rfl ?_ ?_ | refine aw_load 2 rfl rfl HA rfl rfl rfl ?_ ?_ | refine aw_load 3 rfl rfl HA rfl rfl rfl ?_ ?_); kernel_rfl; simp only [Act.put, List.setIfInBounds_toArray, List.set_cons_succ, List.set_cons_zero]) | ((with_reducible refine gate_st rfl ?_); (first | refine aw_storeW 0 (t := 27) rfl rfl rfl rfl HA rfl rfl rfl ?_ rfl ?_ | refine aw_storeW 1 (t := 27) rfl rfl rfl rfl HA rfl rfl rfl ?_ rfl ?_ | refine aw_storeW 2 (t := 27) rfl rfl rfl rfl HA rfl rfl rfl ?_ rfl ?_ | refine aw_storeW 3 (t := 27) rfl rfl rfl rfl HA rfl rfl rfl ?_ rfl ?_ | refine aw_store 0 (v := .slice _ _ _) rfl rfl rfl rfl rfl HA rfl rfl rfl ?_ ?_ | refine aw_store 1 (v := .slice _ _ _) rfl rfl rfl rfl rfl HA rfl rfl rfl ?_ ?_ | refine aw_store 2 (v := .slice _ _ _) rfl rfl rfl rfl rfl HA rfl rfl rfl ?_ ?_ | refine aw_store 3 (v := .slice _ _ _) rfl rfl rfl rfl rfl HA rfl rfl rfl ?_ ?_); kernel_rfl; clear HA; intro W_ HA; dsimp only [List.set, List.take, List.cons_append, List.nil_append] at HA))
          (try simp only [Exit.inBlock, Exit.then]); (try rw [Exit.noGoto_ret]); refine bodyPost_ret (results_aw2 (i := 3) rfl _ HA rfl rfl rfl (by kernel_rfl)) rfl ?_; exact ⟨_, rfl, (Own.nil _ _).kdR (l := []) HA (by simp) (fun _ _ => trivial), HA.below⟩
      subst hs
      rw [if_neg (fun h => h rfl)] at h
      cases br with
      | false =>
        rw [if_neg (by decide)] at h
        simp only [Prod.mk.injEq] at h
        obtain ⟨rfl, rfl, rfl⟩ := h
        go_wp2
        replace HA := HA.drew
        go_region_law (first | (go_simp; go_at_call 27; (first | have hq := HC2.out _ _ _ HA | have hq := HC3.out _ _ _ _ HA); refine hq.mono ?_; clear hq; clear HA; rintro e W1_ ⟨An_, rfl, HA, hrd⟩; clear hrd) | (go_simp; go_at_call 24; refine (img_adder.calls _).mono ?_; rintro e W2_ ⟨gs, rfl, hk_⟩; replace HA := HA.fresh hk_; clear hk_; dsimp only [List.cons_append, List.nil_append] at HA) | (go_simp; go_at_call 32; have hq := HSM.out _ _ _ HA; refine hq.mono ?_; clear hq; clear HA; rintro e W3_ ⟨rfl, HA⟩))
        all_goals
          go_wp2_with (first | (go_at_call 15; refine (HRT.out _ (HA.sub (List.Sublist.cons _ (List.Sublist.cons_cons _ (List.Sublist.cons _ (List.Sublist.cons _ (List.Sublist.refl _))))))).mono ?_; rintro e W_ ⟨rfl, hb_⟩; replace HA := HA.call hb_; clear hb_) | ((with_reducible refine gate_ld rfl ?_); (first | refine aw_loadW 0 (t := 27) rfl rfl HA rfl rfl ?_ ?_ | refine aw_loadW 1 (t := 27) rfl rfl HA rfl rfl ?_ ?_ | refine aw_loadW 2 (t := 27) rfl rfl HA rfl rfl ?_ ?_ | refine aw_loadW 3 (t := 27) rfl rfl HA rfl rfl ?_ ?_ | refine aw_load 0 rfl rfl HA rfl rfl rfl ?_ ?_ | refine aw_load 1 rfl rfl HA rfl rfl rfl ?_ ?_ | refine aw_load 2 rfl rfl HA rfl rfl rfl ?_ ?_ | refine aw_load 3 rfl rfl HA rfl rfl rfl ?_ ?_); kernel_rfl; simp only [Act.put, List.setIfInBounds_toArray, List.set_cons_succ, List.set_cons_zero]) | ((with_reducible refine gate_st rfl ?_); (first | refine aw_storeW 0 (t := 27) rfl rfl rfl rfl HA rfl rfl rfl ?_ rfl ?_ | refine aw_storeW 1 (t := 27) rfl rfl rfl rfl HA rfl rfl rfl ?_ rfl ?_ | refine aw_storeW 2 (t := 27) rfl rfl rfl rfl HA rfl rfl rfl ?_ rfl ?_ | refine aw_storeW 3 (t := 27) rfl rfl rfl rfl HA rfl rfl rfl ?_ rfl ?_ | refine aw_store 0 (v := .slice _ _ _) rfl rfl rfl rfl rfl HA rfl rfl rfl ?_ ?_ | refine aw_store 1 (v := .slice _ _ _) rfl rfl rfl rfl rfl HA rfl rfl rfl ?_ ?_ | refine aw_store 2 (v := .slice _ _ _) rfl rfl rfl rfl rfl HA rfl rfl rfl ?_ ?_ | refine aw_store 3 (v := .slice _ _ _) rfl rfl rfl rfl rfl HA rfl rfl rfl ?_ ?_); kernel_rfl; clear HA; intro W_ HA; dsimp only [List.set, List.take, List.cons_append, List.nil_append] at HA))
          (try simp only [Exit.inBlock, Exit.then]); (try rw [Exit.noGoto_ret]); refine bodyPost_ret (results_aw2 (i := 3) rfl _ HA rfl rfl rfl (by kernel_rfl)) rfl ?_; exact ⟨_, rfl, (Own.nil _ _).kdR (l := []) HA (by simp) (fun _ _ => trivial), HA.below⟩
      | true =>
        rw [if_pos rfl] at h
        simp only [Prod.mk.injEq] at h
        obtain ⟨rfl, rfl, rfl⟩ := h
        go_wp2
        replace HA := HA.drew
        go_region_law (first | (go_simp; go_at_call 27; (first | have hq := HC2.out _ _ _ HA | have hq := HC3.out _ _ _ _ HA); refine hq.mono ?_; clear hq; clear HA; rintro e W1_ ⟨An_, rfl, HA, hrd⟩; clear hrd) | (go_simp; go_at_call 24; refine (img_adder.calls _).mono ?_; rintro e W2_ ⟨gs, rfl, hk_⟩; replace HA := HA.fresh hk_; clear hk_; dsimp only [List.cons_append, List.nil_append] at HA) | (go_simp; go_at_call 32; have hq := HSM.out _ _ _ HA; refine hq.mono ?_; clear hq; clear HA; rintro e W3_ ⟨rfl, HA⟩))
        all_goals
          go_wp2_with (first | (go_at_call 15; refine (HRT.out _ (HA.sub (List.Sublist.cons _ (List.Sublist.cons_cons _ (List.Sublist.cons _ (List.Sublist.cons _ (List.Sublist.refl _))))))).mono ?_; rintro e W_ ⟨rfl, hb_⟩; replace HA := HA.call hb_; clear hb_) | ((with_reducible refine gate_ld rfl ?_); (first | refine aw_loadW 0 (t := 27) rfl rfl HA rfl rfl ?_ ?_ | refine aw_loadW 1 (t := 27) rfl rfl HA rfl rfl ?_ ?_ | refine aw_loadW 2 (t := 27) rfl rfl HA rfl rfl ?_ ?_ | refine aw_loadW 3 (t := 27) rfl rfl HA rfl rfl ?_ ?_ | refine aw_load 0 rfl rfl HA rfl rfl rfl ?_ ?_ | refine aw_load 1 rfl rfl HA rfl rfl rfl ?_ ?_ | refine aw_load 2 rfl rfl HA rfl rfl rfl ?_ ?_ | refine aw_load 3 rfl rfl HA rfl rfl rfl ?_ ?_); kernel_rfl; simp only [Act.put, List.setIfInBounds_toArray, List.set_cons_succ, List.set_cons_zero]) | ((with_reducible refine gate_st rfl ?_); (first | refine aw_storeW 0 (t := 27) rfl rfl rfl rfl HA rfl rfl rfl ?_ rfl ?_ | refine aw_storeW 1 (t := 27) rfl rfl rfl rfl HA rfl rfl rfl ?_ rfl ?_ | refine aw_storeW 2 (t := 27) rfl rfl rfl rfl HA rfl rfl rfl ?_ rfl ?_ | refine aw_storeW 3 (t := 27) rfl rfl rfl rfl HA rfl rfl rfl ?_ rfl ?_ | refine aw_store 0 (v := .slice _ _ _) rfl rfl rfl rfl rfl HA rfl rfl rfl ?_ ?_ | refine aw_store 1 (v := .slice _ _ _) rfl rfl rfl rfl rfl HA rfl rfl rfl ?_ ?_ | refine aw_store 2 (v := .slice _ _ _) rfl rfl rfl rfl rfl HA rfl rfl rfl ?_ ?_ | refine aw_store 3 (v := .slice _ _ _) rfl rfl rfl rfl rfl HA rfl rfl rfl ?_ ?_); kernel_rfl; clear HA; intro W_ HA; dsimp only [List.set, List.take, List.cons_append, List.nil_append] at HA))
          (try simp only [Exit.inBlock, Exit.then]); (try rw [Exit.noGoto_ret]); refine bodyPost_ret (results_aw2 (i := 3) rfl _ HA rfl rfl rfl (by kernel_rfl)) rfl ?_
          exact ⟨_, rfl, by have h9 := HOW.out.kdR HA (ok := fun _ => True) (fun x hx => by simp [hx]) (fun _ _ => trivial); rw [HCL.out] at h9; exact h9, HA.below⟩
end Go.Proofs.Ytbjfchkfhbpclaa.Q
