/- heap.Right. By wip/gen/heap_right.py. -/
import Derived.Test.YtaddjeegplfjiaaQx0
import Derived.Test.YtaddjeegplfjiaaAw
import Derived.Test.YtaddjeegplfjiaaAwAny
import Derived.Test.YtaddjeegplfjiaaAwFrame
import Derived.Test.YtaddjeegplfjiaaAwMap
import Derived.Test.YtaddjeegplfjiaaAwMapRun
import Derived.Test.YtaddjeegplfjiaaAwReg
import Derived.Test.YtaddjeegplfjiaaAwRs
import Derived.Test.YtaddjeegplfjiaaAwSl
import Derived.Test.YtaddjeegplfjiaaAwTree
import Derived.Test.YtaddjeegplfjiaaHeapPlain
import Derived.Test.YtaddjeegplfjiaaHheapRt
import Derived.Test.YtaddjeegplfjiaaHheapStands
import Derived.Test.YtaddjeegplfjiaaHheapTk
import Derived.Test.YtaddjeegplfjiaaTakeM
--@needs XAwTree
--@needs XTakeM
--@needs XHeapPlain
--@needs XAwRs
--@needs XAwReg
--@needs XAwAny
--@needs XAwMapRun
--@needs XHheapTk
--@needs XHheapRt
--@needs XHheapStands
import Derived.LoopTactic
import Derived.Deep.LoopGhost
import Derived.Lib.Hide
import Derived.IntWalk
import Derived.Outline
namespace Go.Proofs.Ytaddjeegplfjiaa.Q
open Go.RowKit Go.Proofs.YtaddjeegplfjiaaW.PrintWords Go.Proofs.YtaddjeegplfjiaaW.PrintLast Go.Proofs.YtaddjeegplfjiaaW.PrintMore
attribute [local go_sem] max2_int min2_int max_two min_two max_three min_three max_four min_four   -- for this text's walks alone
set_option linter.unusedVariables false
set_option linter.unusedSimpArgs false

open Go.Maps
theorem hr_info : (Try.prog.info? 22).map (fun i => (i.zero, i.size, i.bytes)) = some (some (.int .u32 0), 1, 4) := by kernel_rfl
theorem hr_zero (W : World) : (Instr.alloc 61 true (.tuple #[])).run Try.prog W = .ok (.pointer (some ⟨W.heap.size, 0, none⟩)) (W.alloc (.cells ([.map none] : List Value).toArray 61 (0, 0))) := by kernel_rfl
/-- the blocks from a place on: the places, and the words that are asked for -/
def rloop (M : List Int) : Nat → Int → List Int → List Int → Option (List Int × List Int)
  | 0, _, ps, qs => some (ps, qs)
  | k + 1, a, ps, qs => if a < (M.length : Int) then (if blkB M a = true then rloop M k (a + 1 + (splV (rd M a)).2.2.1) (ps ++ [a]) (qs ++ kidsOf M a) else none) else some (ps, qs)
def outB : Option (List Int × List Int) → Bool
  | none => false
  | some x => !(x.2.any (astray x.1))
def rightB (m : List Int) (a b : Int) : Bool := if a < 0 ∨ a > b ∨ b > (m.length : Int) then false else outB (rloop (m.take b.toNat) ((b - a).toNat + 1) a [] [])
set_option maxHeartbeats 8000000 in
set_option maxRecDepth 100000 in
theorem hRight.bad (A0 : Option Addr) (c0 : Nat) (m : List Int) (a1 a2 : Int) (w : World) (h : a1 < 0 ∨ a1 > a2 ∨ a2 > (m.length : Int)) :
    Calls Try.prog 20 #[.slice A0 m.length c0, .int .i64 a1, .int .i64 a2] w fun e w' => e = .returned (.bool false) ∧ Below w.heap.size w w' := by
  by_cases h1 : a1 < 0
  · have c1 : decide (a1 < 0) = true := decide_eq_true h1
    clear h
    go_enter Try.func20, Try.ntmps20
    go_wp2
    go_ret
    exact ⟨rfl, Below.refl _ _⟩
  · have c1 : decide (a1 < 0) = false := decide_eq_false h1
    by_cases h2 : a1 > a2
    · have c2 : decide (a1 > a2) = true := decide_eq_true h2
      clear h
      go_enter Try.func20, Try.ntmps20
      go_wp2
      go_ret
      exact ⟨rfl, Below.refl _ _⟩
    · have c2 : decide (a1 > a2) = false := decide_eq_false h2
      have c3 : decide (a2 > (m.length : Int)) = true := decide_eq_true (by omega)
      clear h
      go_enter Try.func20, Try.ntmps20
      go_wp2
      go_ret
      exact ⟨rfl, Below.refl _ _⟩
theorem hr_inf_ex : ∃ i, Try.prog.info? 22 = some i ∧ i.size = 1 := by
  have h0 := hr_info
  cases h : Try.prog.info? 22 with
  | none => rw [h] at h0; simp at h0
  | some i => rw [h] at h0; simp at h0; exact ⟨i, rfl, h0.2.1⟩
theorem placesF_nil : placesF [] = fun _ => none := by
  funext k
  unfold placesF
  split
  · rw [if_neg (by simp)]
  · rfl
set_option maxHeartbeats 8000000 in
set_option maxRecDepth 100000 in
theorem hRight.main (A0 : Option Addr) (c0 : Nat) (m : List Int) (a1 a2 : Int) (w : World) (hr : Kd.C (Kd.int .u32) w A0 m.length m) (hc0 : m.length ≤ c0) (hm : m.length ≤ 1000000 ∧ ∀ x ∈ m, 0 ≤ x ∧ x < 4294967296) (h0 : 0 ≤ a1) (h1 : a1 ≤ a2) (h2 : a2 ≤ (m.length : Int)) :
    Calls Try.prog 20 #[.slice A0 m.length c0, .int .i64 a1, .int .i64 a2] w fun e w' => e = .returned (.bool (outB (rloop (m.take a2.toNat) ((a2 - a1).toNat + 1) a1 [] []))) ∧ Below w.heap.size w w' := by
  have hmf : ∀ (fn : Fn) (first cap : Array Value) (w : World), (Instr.makeFunc fn first cap).run Try.prog w = .ok (.func fn first cap) w := fun _ _ _ _ => rfl
  have c1 : decide (a1 < 0) = false := decide_eq_false (by omega)
  have c2 : decide (a1 > a2) = false := decide_eq_false (by omega)
  have c3 : decide (a2 > (m.length : Int)) = false := decide_eq_false (by omega)
  obtain ⟨hr_i, hr_inf, hr_size⟩ := hr_inf_ex
  have hcut := cut_to (P := Try.prog) 30 22 .i64 Try.underlying30 hr_inf A0 m.length c0 a2 (by omega) h2 hc0
  have hM0 : (m.take a2.toNat).length = a2.toNat := by rw [List.length_take]; omega
  have hrM := Kd.C_take (m := a2.toNat) hr (by omega)
  have hmM : (m.take a2.toNat).length ≤ 1000000 ∧ ∀ x ∈ m.take a2.toNat, 0 ≤ x ∧ x < 4294967296 := ⟨by omega, fun x hx => hm.2 x (List.mem_of_mem_take hx)⟩
  rw [← hM0] at hcut
  obtain ⟨M, hM⟩ : ∃ M, m.take a2.toNat = M := ⟨_, rfl⟩
  rw [hM] at hcut hrM hmM hM0
  rw [hM]
  have hML : (M.length : Int) = a2 := by omega
  have hcM : M.length ≤ c0 := by omega
  obtain ⟨res, hres⟩ : ∃ res, rloop M ((a2 - a1).toNat + 1) a1 [] [] = res := ⟨_, rfl⟩
  rw [hres]
  have HRES := Aside0.mk hres
  have HRM := Aside0.mk hrM
  have HMM := Lib.hid hmM.2
  have hm1 := hmM.1
  obtain ⟨P, HP⟩ : ∃ P : Ending → World → Prop, Aside0 (P = fun e w' => e = .returned (.bool (outB res)) ∧ Below w.heap.size w w') := ⟨_, ⟨rfl⟩⟩
  rw [← HP.out]
  have HA := Aw.start noS w
  have HFU := Aside0.mk (show (a2 - a1).toNat < (a2 - a1).toNat + 1 by omega)
  clear hres hr hrM hM hmM hm hM0
  go_enter Try.func20, Try.ntmps20
  go_wp2_with (first | ((with_reducible refine gate_dst (N := 27) rfl ?_); refine aw_makemap 22 3 .i64 rfl rfl HA ?_; clear HA; intro gm W_ HA; simp only [Act.put, List.setIfInBounds_toArray, List.set_cons_succ, List.set_cons_zero]) | ((with_reducible refine gate_dst (N := 7) rfl ?_); refine aw_alloc rfl rfl hr_zero HA ?_; clear HA; intro gp W_ HA; simp only [Act.put, List.setIfInBounds_toArray, List.set_cons_succ, List.set_cons_zero]) | ((with_reducible refine gate_ld rfl ?_); (first | refine aw_load 0 rfl rfl HA rfl rfl rfl ?_ ?_ | refine aw_load 1 rfl rfl HA rfl rfl rfl ?_ ?_ | refine aw_load 2 rfl rfl HA rfl rfl rfl ?_ ?_); kernel_rfl; simp only [Act.put, List.setIfInBounds_toArray, List.set_cons_succ, List.set_cons_zero]) | ((with_reducible refine gate_st rfl ?_); (first | refine aw_storeW 0 (t := 61) rfl rfl rfl rfl HA rfl rfl rfl ?_ rfl ?_ | refine aw_storeW 1 (t := 61) rfl rfl rfl rfl HA rfl rfl rfl ?_ rfl ?_ | refine aw_storeW 2 (t := 61) rfl rfl rfl rfl HA rfl rfl rfl ?_ rfl ?_ | refine aw_store 0 (v := .map _) rfl rfl rfl rfl rfl HA rfl rfl rfl ?_ ?_ | refine aw_store 1 (v := .map _) rfl rfl rfl rfl rfl HA rfl rfl rfl ?_ ?_ | refine aw_store 2 (v := .map _) rfl rfl rfl rfl rfl HA rfl rfl rfl ?_ ?_); kernel_rfl; clear HA; intro W_ HA; dsimp only [List.set, List.take, List.cons_append, List.nil_append] at HA))
  go_loopg [9, 8] ((a2 - a1).toNat) (fun g i v wx => ∃ (a : Int) (kq : Nat) (ps qs : List Int) (n : Nat) (Lv : List (Nat × Blk)), (a2 - a).toNat = g ∧ i = .int .i64 a ∧ 0 ≤ a ∧ a ≤ a2 ∧ g < kq ∧ Aside0 (rloop M kq a ps qs = res) ∧ (n : Int) ≤ a ∧ (qs.length : Int) ≤ a ∧ Aside0 (∀ x ∈ qs, 0 ≤ x ∧ x < 4294967296) ∧ Own 22 1 v qs.length (qs.map (Value.int .u32)) Lv ∧ Aw noS w wx ((gp, .c 61 [.map (some gm)]) :: hkM gm n (placesF ps) :: Lv))
  case atStart => exact ⟨a1, _, [], [], 0, [], rfl, rfl, h0, h1, HFU.out, HRES, by omega, by simpa using h0, ⟨by simp⟩, Own.nil _ _, Aw.congr HA (by rw [placesF_nil])⟩
  case round =>
    clear HA
    obtain ⟨a, kq, ps, qs, n, Lv, hg, rfl, ha0, ha2, hkq, HRL, hn, hql, HQV, hown, HA⟩ := hrel
    obtain ⟨kq, rfl⟩ : ∃ k, kq = k + 1 := ⟨kq - 1, by omega⟩
    have hrl := HRL.out
    rw [rloop] at hrl
    by_cases hlt : a < a2
    · rw [if_pos (by omega)] at hrl
      have ck : decide (a < a2) = true := decide_eq_true hlt
      have w1 : IntKind.i64.wrap (4 * a) = 4 * a := IntWalk.i64_in _ (by omega)
      have w2 : IntKind.u32.wrap (4 * a) = 4 * a := by show (4 * a) % 4294967296 = _; omega
      have e4 : 4 * a / 4 = a := by omega
      cases hb : blkB M a with
      | false =>
        rw [hb, if_neg (by decide)] at hrl
        have HST : Aside0 (∀ W', Kp noS w W' → Calls Try.prog 37 #[.slice A0 M.length c0, .int .u32 (4 * a)] W' fun e W2 => e = .returned (.tuple #[.int .i64 0, .int .i64 0, .slice none 0 0, .bool false]) ∧ Below W'.heap.size W' W2) := ⟨fun W' hk => stands.no M ⟨hm1, HMM.out⟩ A0 c0 hcM (4 * a) (by omega) (by omega) W' (Kp.reads hk HRM.out) (.inr (by rw [e4]; exact hb))⟩
        go_wp2_with (first | (go_at_call 37; refine (HST.out _ HA.1).mono ?_; rintro e W_ ⟨rfl, hb_⟩; replace HA := HA.call hb_; clear hb_))
        rw [HP.out, ← hrl]
        exact ⟨rfl, HA.below⟩
      | true =>
        rw [hb, if_pos rfl] at hrl
        obtain ⟨ad, had, _⟩ := Kd.at_int HRM.out a ha0 (by omega)
        subst had
        have ha := blkB_in' hb
        have hxw := HMM.out _ (rd_memT (l := M) (i := a) ha0 ha.2.1)
        have hsz := splV_size hxw.1 hxw.2
        have h31 := hsz.2.2.2.2.2.2 ha.2.2.1
        have hs256 := hsz.2.2.2.2.2.1
        have hlast := ha.2.2.2.1
        have hKl := kidsOf_lenH M a ha0 hlast h31
        have hKa := kidsOf_atH M a ha0 hlast h31
        have HST : Aside0 (∀ W', Kp noS w W' → Calls Try.prog 37 #[.slice (some ad) M.length c0, .int .u32 (4 * a)] W' fun e W2 => e = .returned (.tuple #[.int .i64 (splV (rd M a)).1, .int .i64 (splV (rd M a)).2.1, .slice (some (ad.add (a + 1).toNat)) (splV (rd M a)).2.2.1.toNat (c0 - (a + 1).toNat), .bool true]) ∧ Below W'.heap.size W' W2) := ⟨fun W' hk => by
          have h := stands.yea M ⟨hm1, HMM.out⟩ (some ad) c0 hcM (4 * a) (by omega) (by omega) W' (Kp.reads hk HRM.out) (by omega) (by rw [e4]; exact hb)
          rw [e4] at h
          exact h.mono (by rintro e W2 ⟨⟨ad_, had_, he_⟩, hb_⟩; cases had_; exact ⟨he_, hb_⟩)⟩
        have hKm : ∀ x ∈ kidsOf M a, 0 ≤ x ∧ x < 4294967296 := fun x hx => HMM.out x (List.mem_of_mem_drop (List.mem_of_mem_take hx))
        obtain ⟨F, hF⟩ : ∃ F, kidsFrom M a = F := ⟨_, rfl⟩
        have hFv : F = if (splV (rd M a)).1 = 1 then a + 2 else a + 1 := by rw [← hF]; rfl
        rw [hF] at hKl hKa
        obtain ⟨K, hK⟩ : ∃ K, kidsOf M a = K := ⟨_, rfl⟩
        rw [hK] at hrl hKl hKa hKm
        obtain ⟨s1, hs1⟩ : ∃ y, (splV (rd M a)).1 = y := ⟨_, rfl⟩
        obtain ⟨s2, hs2⟩ : ∃ y, (splV (rd M a)).2.1 = y := ⟨_, rfl⟩
        obtain ⟨s3, hs3⟩ : ∃ y, (splV (rd M a)).2.2.1 = y := ⟨_, rfl⟩
        rw [hs1, hs2, hs3] at HST
        rw [hs3] at h31 hs256 hlast hKl hrl
        rw [hs1] at hFv
        obtain ⟨N0, hN0⟩ : ∃ N0, s3.toNat = N0 := ⟨_, rfl⟩
        obtain ⟨c9, hc9⟩ : ∃ y, c0 - (a + 1).toNat = y := ⟨_, rfl⟩
        obtain ⟨AD, hAD⟩ : ∃ y, ad.add (a + 1).toNat = y := ⟨_, rfl⟩
        rw [hN0, hc9, hAD] at HST
        have hcell : ∀ W', Kp noS w W' → ∀ j : Nat, j < N0 → W'.cell? (AD.add j) = some (.int .u32 (rd M (a + 1 + j))) := fun W' hk j hj => by
          obtain ⟨ad2, e2, h⟩ := Kd.at_int (Kp.reads hk HRM.out) (a + 1 + j) (by omega) (by omega)
          cases e2
          rw [← hAD, add_add, show (a + 1).toNat + j = (a + 1 + j).toNat by omega]
          exact h
        have hNc : N0 ≤ c9 := by omega
        have w3 : IntKind.i64.wrap (1 + (N0 : Int)) = 1 + (N0 : Int) := IntWalk.i64_in _ (by omega)
        have w4 : IntKind.i64.wrap (a + (1 + (N0 : Int))) = a + (1 + (N0 : Int)) := IntWalk.i64_in _ (by omega)
        have hka := hk_key (x := 4 * a) (by omega) (by omega)
        have hwone : (Lit.int .i64 1).wf = true := hk_iwf (by decide) (by decide)
        have hnn : n < maxLen := by unfold maxLen; omega
        have HRL2 : Aside0 (rloop M kq (a + (1 + (N0 : Int))) (ps ++ [a]) (qs ++ K) = res) := ⟨by rw [← hrl]; congr 1; omega⟩
        have HKA := Lib.hid hKa
        have HQV2 : Aside0 (∀ x ∈ qs ++ K, 0 ≤ x ∧ x < 4294967296) := ⟨fun x hx => by rcases List.mem_append.1 hx with h | h; exact HQV.out x h; exact hKm x h⟩
        have HCE := Lib.hid hcell
        clear hrl ha hxw hsz hKa hKm hF hK hs1 hs2 hs3 hc9 hAD hcell hb HRL
        by_cases hk1 : s1 = 1
        · have k1 : (s1 == 1) = true := beq_iff_eq.mpr hk1
          rw [if_pos hk1] at hFv
          have hcut2 := cut_from (P := Try.prog) 30 22 .i64 Try.underlying30 hr_inf 1 hr_size (some AD) N0 c9 1 (by omega) (by omega)
          obtain ⟨A2, hA2⟩ : ∃ A2, (if c9 = (1 : Int).toNat then some AD else (some AD).map (·.add ((1 : Int).toNat * 1))) = A2 := ⟨_, rfl⟩
          rw [hA2] at hcut2
          replace hcut2 : ∀ W : World, (Instr.slice 30 (.slice (some AD) N0 c9) (some (.int .i64 1)) none none).run Try.prog W = .ok (.slice A2 (N0 - 1) (c9 - 1)) W := hcut2
          have HNW : RowKit.Hid (∀ W', Kp noS w W' → (A2 = none → N0 - 1 = 0) ∧ ∀ ad', A2 = some ad' → ∀ j u, (K.map (Value.int .u32))[j]? = some u → W'.cell? (ad'.add j) = some u) := Lib.hid (fun W' hk => by
            by_cases e : c9 = 1
            · rw [if_pos (by simpa using e)] at hA2
              refine ⟨fun _ => by omega, fun ad' _ j u hu => ?_⟩
              have hj := (List.getElem?_eq_some_iff.1 hu).1
              rw [List.length_map] at hj
              omega
            · rw [if_neg (by simpa using e)] at hA2
              refine ⟨fun h => by rw [h] at hA2; simp at hA2, fun ad' he j u hu => ?_⟩
              rw [he] at hA2
              obtain rfl : AD.add 1 = ad' := by simpa using hA2
              have hj := (List.getElem?_eq_some_iff.1 hu).1
              rw [List.length_map] at hj
              have h := HCE.out W' hk (1 + j) (by omega)
              rw [add_add, h]
              rw [List.getElem?_map] at hu
              have h5 := HKA.out j hj
              have h6 : K[j]? = some (rd M (F + j)) := by rw [← List.head?_drop, h5]; rfl
              rw [h6] at hu
              rw [← hu, hFv, show a + 1 + ((1 + j : Nat) : Int) = a + 2 + (j : Int) by omega]
              rfl)
          have hKN : K.length = N0 - 1 := by omega
          have HLK : Aside0 ((K.map (Value.int .u32)).length = (N0 - 1) * 1) := ⟨by rw [List.length_map, hKN, Nat.mul_one]⟩
          have hap1 : qs.length + (N0 - 1) ≤ maxLen := by unfold maxLen; omega
          have hap2 : (qs.length + (N0 - 1)) * 4 ≤ 140737488355328 := by omega
          clear hA2 hk1
          go_wp2_with (first | (go_at_call 37; refine (HST.out _ HA.1).mono ?_; rintro e W_ ⟨rfl, hb_⟩; replace HA := HA.call hb_; clear hb_) | ((with_reducible refine gate_dst (N := 61) rfl ?_); refine aw_append_any 2 rfl Try.underlying30 hr_info rfl (Nat.le_refl 1) rfl hown rfl rfl HA (news := K.map (Value.int .u32)) rfl HLK.out (HNW.out _ HA.1) (ints_one _) hap1 hap2 ?_; clear HA; intro v_ W_ Lv_ hown_ HA; dsimp only [List.take, List.cons_append, List.nil_append] at HA; simp only [Act.put, List.setIfInBounds_toArray, List.set_cons_succ, List.set_cons_zero]) | ((with_reducible refine gate_ld rfl ?_); (first | refine aw_load 0 rfl rfl HA rfl rfl rfl ?_ ?_ | refine aw_load 1 rfl rfl HA rfl rfl rfl ?_ ?_ | refine aw_load 2 rfl rfl HA rfl rfl rfl ?_ ?_); kernel_rfl; simp only [Act.put, List.setIfInBounds_toArray, List.set_cons_succ, List.set_cons_zero]) | ((with_reducible refine gate_mu rfl ?_); (refine aw_mapput 1 (kl := .int .u32 (4 * a)) hk_keyed hk_mu hk_iu rfl rfl rfl rfl rfl rfl HA rfl hka hwone hnn ?_); clear HA; intro W_ HA; dsimp only [List.set] at HA; rw [placesF_put] at HA))
          go_roundg ((a2 - (a + (1 + (N0 : Int)))).toNat)
          case measure => omega
          case rel =>
            exact ⟨a + (1 + (N0 : Int)), kq, ps ++ [a], qs ++ K, _, Lv_, rfl, rfl, by omega, by omega, by omega, HRL2, by split <;> omega, by rw [List.length_append, hKN]; omega, HQV2, by rw [List.length_append, List.map_append, hKN]; exact hown_, HA⟩
        · have k1 : (s1 == 1) = false := beq_eq_false_iff_ne.mpr hk1
          rw [if_neg hk1] at hFv
          have HNW : RowKit.Hid (∀ W', Kp noS w W' → (some AD = none → N0 = 0) ∧ ∀ ad', some AD = some ad' → ∀ j u, (K.map (Value.int .u32))[j]? = some u → W'.cell? (ad'.add j) = some u) := Lib.hid (fun W' hk => by
              refine ⟨fun h => by simp at h, fun ad' he j u hu => ?_⟩
              cases he
              have hj := (List.getElem?_eq_some_iff.1 hu).1
              rw [List.length_map] at hj
              have h := HCE.out W' hk j (by omega)
              rw [h]
              rw [List.getElem?_map] at hu
              have h5 := HKA.out j hj
              have h6 : K[j]? = some (rd M (F + j)) := by rw [← List.head?_drop, h5]; rfl
              rw [h6] at hu
              rw [← hu, hFv]
              rfl)
          have hKN : K.length = N0 := by omega
          have HLK : Aside0 ((K.map (Value.int .u32)).length = N0 * 1) := ⟨by rw [List.length_map, hKN, Nat.mul_one]⟩
          have hap1 : qs.length + N0 ≤ maxLen := by unfold maxLen; omega
          have hap2 : (qs.length + N0) * 4 ≤ 140737488355328 := by omega
          clear hk1
          go_wp2_with (first | (go_at_call 37; refine (HST.out _ HA.1).mono ?_; rintro e W_ ⟨rfl, hb_⟩; replace HA := HA.call hb_; clear hb_) | ((with_reducible refine gate_dst (N := 61) rfl ?_); refine aw_append_any 2 rfl Try.underlying30 hr_info rfl (Nat.le_refl 1) rfl hown rfl rfl HA (news := K.map (Value.int .u32)) rfl HLK.out (HNW.out _ HA.1) (ints_one _) hap1 hap2 ?_; clear HA; intro v_ W_ Lv_ hown_ HA; dsimp only [List.take, List.cons_append, List.nil_append] at HA; simp only [Act.put, List.setIfInBounds_toArray, List.set_cons_succ, List.set_cons_zero]) | ((with_reducible refine gate_ld rfl ?_); (first | refine aw_load 0 rfl rfl HA rfl rfl rfl ?_ ?_ | refine aw_load 1 rfl rfl HA rfl rfl rfl ?_ ?_ | refine aw_load 2 rfl rfl HA rfl rfl rfl ?_ ?_); kernel_rfl; simp only [Act.put, List.setIfInBounds_toArray, List.set_cons_succ, List.set_cons_zero]) | ((with_reducible refine gate_mu rfl ?_); (refine aw_mapput 1 (kl := .int .u32 (4 * a)) hk_keyed hk_mu hk_iu rfl rfl rfl rfl rfl rfl HA rfl hka hwone hnn ?_); clear HA; intro W_ HA; dsimp only [List.set] at HA; rw [placesF_put] at HA))
          go_roundg ((a2 - (a + (1 + (N0 : Int)))).toNat)
          case measure => omega
          case rel =>
            exact ⟨a + (1 + (N0 : Int)), kq, ps ++ [a], qs ++ K, _, Lv_, rfl, rfl, by omega, by omega, by omega, HRL2, by split <;> omega, by rw [List.length_append, hKN]; omega, HQV2, by rw [List.length_append, List.map_append, hKN]; exact hown_, HA⟩
    · rw [if_neg (by omega)] at hrl
      have ck : decide (a < a2) = false := decide_eq_false hlt
      have HQL : Aside0 (qs.length ≤ 4611686018427387904) := ⟨by omega⟩
      obtain ⟨Aq, cq, rfl⟩ := own_form hown
      have HOWN := Aside0.mk hown
      go_wp2_with (first | (go_at_call 38; refine (hRight.has (p := astray ps) (own_readsA HOWN.out HA (fun z hz => by simp [hz])).1 HQL.out (fun x w' hx hb => hRight.one (HQV.out x hx).1 (HQV.out x hx).2 (HA.call hb))).mono ?_; rintro e W_ ⟨rfl, hb_⟩; replace HA := HA.call hb_; clear hb_) | ((with_reducible refine gate_ld rfl ?_); (first | refine aw_load 0 rfl rfl HA rfl rfl rfl ?_ ?_ | refine aw_load 1 rfl rfl HA rfl rfl rfl ?_ ?_ | refine aw_load 2 rfl rfl HA rfl rfl rfl ?_ ?_); kernel_rfl; simp only [Act.put, List.setIfInBounds_toArray, List.set_cons_succ, List.set_cons_zero]))
      rw [HP.out, ← hrl]
      exact ⟨rfl, HA.below⟩
def heap_Right.f (l0 : List Int) (a1 a2 : Int) : Option Bool := if l0.length ≤ 1000000 ∧ ∀ x ∈ l0, 0 ≤ x ∧ x < 4294967296 then some (rightB l0 a1 a2) else none
theorem heap_Right.calls (A0 : Option Addr) (c0 : Nat) (l0 : List Int) (a1 : Int) (a2 : Int) (r : Bool) (w : World) (hr0 : Kd.C (Kd.int .u32) w A0 l0.length l0) (hc0 : l0.length ≤ c0) (h : heap_Right.f l0 a1 a2 = some r) :
    Calls Try.prog 20 #[.slice A0 l0.length c0, .int .i64 a1, .int .i64 a2] w fun e w' => e = .returned (.bool r) ∧ Below w.heap.size w w' := by
  unfold heap_Right.f at h
  split at h
  case isFalse => cases h
  case isTrue hm =>
  obtain rfl := Option.some.inj h
  unfold rightB
  by_cases hb : a1 < 0 ∨ a1 > a2 ∨ a2 > (l0.length : Int)
  · rw [if_pos hb]
    exact hRight.bad A0 c0 l0 a1 a2 w hb
  · rw [if_neg hb]
    exact hRight.main A0 c0 l0 a1 a2 w hr0 hc0 hm (by omega) (by omega) (by omega)
end Go.Proofs.Ytaddjeegplfjiaa.Q
