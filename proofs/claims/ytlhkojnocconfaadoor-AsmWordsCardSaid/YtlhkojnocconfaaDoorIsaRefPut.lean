/- The reference's Put (camletref39) of an instruction that is right is the walk's isaPut. -/
import Derived.Test.YtlhkojnocconfaaDoorQx0
import Derived.Test.YtlhkojnocconfaaDoorQx7
import Derived.Test.YtlhkojnocconfaaDoorQx8
import Derived.Test.YtlhkojnocconfaaDoorHisaOf
import Derived.Test.YtlhkojnocconfaaDoorHisaPut
import Derived.Test.YtlhkojnocconfaaDoorHisaRight
import Derived.Test.YtlhkojnocconfaaDoorIsaRef
--@needs XIsaRef
namespace Go.Proofs.YtlhkojnocconfaaDoor.Q
open Go.RowKit Go.Proofs.YtlhkojnocconfaaDoorW.PrintWords Go.Proofs.YtlhkojnocconfaaDoorW.PrintLast Go.Proofs.YtlhkojnocconfaaDoorW.PrintMore
attribute [local go_sem] max2_int min2_int max_two min_two max_three min_three max_four min_four   -- for this text's walks alone
set_option linter.unusedVariables false
set_option linter.unusedSimpArgs false

/-- the reference's loop over the letters -/
def refGo (D A B N P : Int) : List Nat → Int → List Int → Option (Int × Int)
  | [], w, _ => some (w % 4294967296, 0)
  | c :: r, w, pw => if c = 78 then (if N < 0 then refGo D A B N P r (wrap64 (w + (wrap64 (N + P)))) pw else refGo D A B N P r (wrap64 (w + N)) pw)
      else refGo D A B N P r (wrap64 (w + (wrap64 ((if c = 68 then D else if c = 65 then A else B) * pw.headD 0)))) pw.tail
def pows : List Int := [2097152, 65536, 2048]
def lettersK : List (List Nat) := [[], [68, 78], [68, 78], [68, 65, 78], [68, 65, 66], [68, 65, 66], [68, 65, 66], [68, 65, 66], [68, 65, 66], [68, 65, 66], [68, 65, 66], [68, 65, 66], [68, 65, 66], [68, 65, 78], [68, 65, 78], [68, 65, 78], [68, 65, 78], [68, 65, 78], [66, 65, 78], [65, 66, 78], [65, 66, 78], [65, 66, 78], [68, 78], [68, 65]]
theorem refPut_lit (n : Nat) (D A B N : Int) (kk : Nat) (hk : kk < 24) : camletref39_Put.f (n + 60) (kk : Int) D A B N = (camletref39_Right.f (n + 60) (kk : Int) D A B N).bind fun t => if t = true then refGo D A B N (if kk = 22 then 2097152 else 65536) (lettersK.getD kk []) (67108864 * kk) pows else some (0, 26) := by
  match kk, hk with
  | 0, _ => exact (by show camletref39_Put.f (n + 60) 0 D A B N = (camletref39_Right.f (n + 60) 0 D A B N).bind fun t => if t = true then refGo D A B N 65536 [] 0 pows else some (0, 26); kernel_rfl)
  | 1, _ => exact (by show camletref39_Put.f (n + 60) 1 D A B N = (camletref39_Right.f (n + 60) 1 D A B N).bind fun t => if t = true then refGo D A B N 65536 [68, 78] 67108864 pows else some (0, 26); kernel_rfl)
  | 2, _ => exact (by show camletref39_Put.f (n + 60) 2 D A B N = (camletref39_Right.f (n + 60) 2 D A B N).bind fun t => if t = true then refGo D A B N 65536 [68, 78] 134217728 pows else some (0, 26); kernel_rfl)
  | 3, _ => exact (by show camletref39_Put.f (n + 60) 3 D A B N = (camletref39_Right.f (n + 60) 3 D A B N).bind fun t => if t = true then refGo D A B N 65536 [68, 65, 78] 201326592 pows else some (0, 26); kernel_rfl)
  | 4, _ => exact (by show camletref39_Put.f (n + 60) 4 D A B N = (camletref39_Right.f (n + 60) 4 D A B N).bind fun t => if t = true then refGo D A B N 65536 [68, 65, 66] 268435456 pows else some (0, 26); kernel_rfl)
  | 5, _ => exact (by show camletref39_Put.f (n + 60) 5 D A B N = (camletref39_Right.f (n + 60) 5 D A B N).bind fun t => if t = true then refGo D A B N 65536 [68, 65, 66] 335544320 pows else some (0, 26); kernel_rfl)
  | 6, _ => exact (by show camletref39_Put.f (n + 60) 6 D A B N = (camletref39_Right.f (n + 60) 6 D A B N).bind fun t => if t = true then refGo D A B N 65536 [68, 65, 66] 402653184 pows else some (0, 26); kernel_rfl)
  | 7, _ => exact (by show camletref39_Put.f (n + 60) 7 D A B N = (camletref39_Right.f (n + 60) 7 D A B N).bind fun t => if t = true then refGo D A B N 65536 [68, 65, 66] 469762048 pows else some (0, 26); kernel_rfl)
  | 8, _ => exact (by show camletref39_Put.f (n + 60) 8 D A B N = (camletref39_Right.f (n + 60) 8 D A B N).bind fun t => if t = true then refGo D A B N 65536 [68, 65, 66] 536870912 pows else some (0, 26); kernel_rfl)
  | 9, _ => exact (by show camletref39_Put.f (n + 60) 9 D A B N = (camletref39_Right.f (n + 60) 9 D A B N).bind fun t => if t = true then refGo D A B N 65536 [68, 65, 66] 603979776 pows else some (0, 26); kernel_rfl)
  | 10, _ => exact (by show camletref39_Put.f (n + 60) 10 D A B N = (camletref39_Right.f (n + 60) 10 D A B N).bind fun t => if t = true then refGo D A B N 65536 [68, 65, 66] 671088640 pows else some (0, 26); kernel_rfl)
  | 11, _ => exact (by show camletref39_Put.f (n + 60) 11 D A B N = (camletref39_Right.f (n + 60) 11 D A B N).bind fun t => if t = true then refGo D A B N 65536 [68, 65, 66] 738197504 pows else some (0, 26); kernel_rfl)
  | 12, _ => exact (by show camletref39_Put.f (n + 60) 12 D A B N = (camletref39_Right.f (n + 60) 12 D A B N).bind fun t => if t = true then refGo D A B N 65536 [68, 65, 66] 805306368 pows else some (0, 26); kernel_rfl)
  | 13, _ => exact (by show camletref39_Put.f (n + 60) 13 D A B N = (camletref39_Right.f (n + 60) 13 D A B N).bind fun t => if t = true then refGo D A B N 65536 [68, 65, 78] 872415232 pows else some (0, 26); kernel_rfl)
  | 14, _ => exact (by show camletref39_Put.f (n + 60) 14 D A B N = (camletref39_Right.f (n + 60) 14 D A B N).bind fun t => if t = true then refGo D A B N 65536 [68, 65, 78] 939524096 pows else some (0, 26); kernel_rfl)
  | 15, _ => exact (by show camletref39_Put.f (n + 60) 15 D A B N = (camletref39_Right.f (n + 60) 15 D A B N).bind fun t => if t = true then refGo D A B N 65536 [68, 65, 78] 1006632960 pows else some (0, 26); kernel_rfl)
  | 16, _ => exact (by show camletref39_Put.f (n + 60) 16 D A B N = (camletref39_Right.f (n + 60) 16 D A B N).bind fun t => if t = true then refGo D A B N 65536 [68, 65, 78] 1073741824 pows else some (0, 26); kernel_rfl)
  | 17, _ => exact (by show camletref39_Put.f (n + 60) 17 D A B N = (camletref39_Right.f (n + 60) 17 D A B N).bind fun t => if t = true then refGo D A B N 65536 [68, 65, 78] 1140850688 pows else some (0, 26); kernel_rfl)
  | 18, _ => exact (by show camletref39_Put.f (n + 60) 18 D A B N = (camletref39_Right.f (n + 60) 18 D A B N).bind fun t => if t = true then refGo D A B N 65536 [66, 65, 78] 1207959552 pows else some (0, 26); kernel_rfl)
  | 19, _ => exact (by show camletref39_Put.f (n + 60) 19 D A B N = (camletref39_Right.f (n + 60) 19 D A B N).bind fun t => if t = true then refGo D A B N 65536 [65, 66, 78] 1275068416 pows else some (0, 26); kernel_rfl)
  | 20, _ => exact (by show camletref39_Put.f (n + 60) 20 D A B N = (camletref39_Right.f (n + 60) 20 D A B N).bind fun t => if t = true then refGo D A B N 65536 [65, 66, 78] 1342177280 pows else some (0, 26); kernel_rfl)
  | 21, _ => exact (by show camletref39_Put.f (n + 60) 21 D A B N = (camletref39_Right.f (n + 60) 21 D A B N).bind fun t => if t = true then refGo D A B N 65536 [65, 66, 78] 1409286144 pows else some (0, 26); kernel_rfl)
  | 22, _ => exact (by show camletref39_Put.f (n + 60) 22 D A B N = (camletref39_Right.f (n + 60) 22 D A B N).bind fun t => if t = true then refGo D A B N 2097152 [68, 78] 1476395008 pows else some (0, 26); kernel_rfl)
  | 23, _ => exact (by show camletref39_Put.f (n + 60) 23 D A B N = (camletref39_Right.f (n + 60) 23 D A B N).bind fun t => if t = true then refGo D A B N 65536 [68, 65] 1543503872 pows else some (0, 26); kernel_rfl)
  | n + 24, h => exact absurd h (by omega)
def horner (D A B : Int) : Nat → List UInt8 → Nat
  | h, [] => h
  | h, c :: r => horner D A B (32 * h + (regVal c D A B).toNat) r
theorem putGo_sum (D A B : Int) : ∀ (l : List UInt8) (pos h nn : Nat), pos + l.length ≤ 3 → (∀ c ∈ l, 0 ≤ regVal c D A B ∧ regVal c D A B ≤ 31) → nn < 2 ^ (26 - 5 * (pos + l.length)) → h < 2 ^ (6 + 5 * pos) →
    putGo D A B l pos ((2 ^ (26 - 5 * pos) * h + nn : Nat) : Int) = ((2 ^ (26 - 5 * (pos + l.length)) * horner D A B h l + nn : Nat) : Int)
  | [], pos, h, nn, _, _, _, _ => rfl
  | c :: r, pos, h, nn, hl, hv, hn, hh => by
    rw [List.length_cons] at hl hn ⊢
    obtain ⟨v, hvv⟩ : ∃ v : Nat, regVal c D A B = (v : Int) := ⟨(regVal c D A B).toNat, by have := (hv c (by simp)).1; omega⟩
    have hv31 : v ≤ 31 := by have := (hv c (by simp)).2; omega
    have hp : pos ≤ 2 := by omega
    have hnn : nn < 2 ^ (21 - 5 * pos) := Nat.lt_of_lt_of_le hn (Nat.pow_le_pow_right (by decide) (by omega))
    have hhh : 2 ^ (26 - 5 * pos) * h < 4294967296 := by
      have hd : 4294967296 = 2 ^ (26 - 5 * pos) * 2 ^ (6 + 5 * pos) := by rw [← Nat.pow_add, show 26 - 5 * pos + (6 + 5 * pos) = 32 by omega]
      rw [hd]
      exact Nat.mul_lt_mul_of_pos_left hh (Nat.pow_pos (by decide))
    have e1 := orAt_sum pos h nn v hp hv31 hnn hhh
    have hq2 : 21 - 5 * pos = 26 - 5 * (pos + 1) := by omega
    have hq1 : (2 : Nat) ^ (26 - 5 * pos) = 32 * 2 ^ (26 - 5 * (pos + 1)) := by rw [show 26 - 5 * pos = (26 - 5 * (pos + 1)) + 5 by omega, Nat.pow_add, Nat.mul_comm]
    have e4 : 2 ^ (26 - 5 * pos) * h + 2 ^ (21 - 5 * pos) * v + nn = 2 ^ (26 - 5 * (pos + 1)) * (32 * h + v) + nn := by
      rw [hq1, hq2]
      generalize (2 : Nat) ^ (26 - 5 * (pos + 1)) = q
      rw [Nat.mul_add, Nat.mul_comm 32 q, Nat.mul_assoc]
    show putGo D A B r (pos + 1) (orAt _ (regVal c D A B) pos) = _
    rw [hvv, e1, e4]
    have hh2 : 32 * h + v < 2 ^ (6 + 5 * (pos + 1)) := by
      have : 2 ^ (6 + 5 * (pos + 1)) = 2 ^ (6 + 5 * pos) * 32 := by rw [show 6 + 5 * (pos + 1) = 6 + 5 * pos + 5 by omega, Nat.pow_add]
      omega
    have ih := putGo_sum D A B r (pos + 1) (32 * h + v) nn (by omega) (fun c2 h2 => hv c2 (by simp [h2])) (by rw [show pos + 1 + r.length = pos + (r.length + 1) by omega]; exact hn) hh2
    rw [ih]
    show _ = ((2 ^ (26 - 5 * (pos + (r.length + 1))) * horner D A B (32 * h + (regVal c D A B).toNat) r + nn : Nat) : Int)
    rw [hvv, Int.toNat_natCast, show pos + 1 + r.length = pos + (r.length + 1) by omega]
theorem start_sum (kk : Nat) (hk : kk < 64) (N : Int) : putStart kk N = ((2 ^ 26 * kk + (N % (if (kk : Int) = 22 then 2097152 else 65536)).toNat : Nat) : Int) := by
  unfold putStart
  obtain ⟨m, hm⟩ : ∃ m : Nat, N % 4294967296 = (m : Int) := ⟨(N % 4294967296).toNat, by omega⟩
  have hmb : m < 4294967296 := by omega
  have e1 : (kk : Int) % 4294967296 * 67108864 % 4294967296 = ((2 ^ 26 * kk : Nat) : Int) := by
    have : (kk : Int) % 4294967296 = kk := by omega
    rw [this]
    omega
  rw [e1, hm]
  by_cases h : (kk : Int) = 22
  · rw [if_pos h, if_pos h]
    have e2 := bits_and_u32_nat' m 2097151 hmb (by decide)
    rw [show ((2097151 : Nat) : Int) = 2097151 from rfl, show m &&& 2097151 = m % 2097152 from Nat.and_two_pow_sub_one_eq_mod m 21] at e2
    rw [e2, bits_or_u32_nat _ _ (by omega) (by omega), ← Nat.two_pow_add_eq_or_of_lt (by omega)]
    congr 1
    omega
  · rw [if_neg h, if_neg h]
    have e2 := bits_and_u32_nat' m 65535 hmb (by decide)
    rw [show ((65535 : Nat) : Int) = 65535 from rfl, show m &&& 65535 = m % 65536 from Nat.and_two_pow_sub_one_eq_mod m 16] at e2
    rw [e2, bits_or_u32_nat _ _ (by omega) (by omega), ← Nat.two_pow_add_eq_or_of_lt (by omega)]
    congr 1
    omega
theorem w64 {x : Int} (h : -9223372036854775808 ≤ x ∧ x ≤ 9223372036854775807) : wrap64 x = x := by unfold wrap64; omega
theorem okR_t {n : Int} : okR true n = true ↔ 0 ≤ n ∧ n ≤ 31 := by unfold okR; simp
theorem okR_f {n : Int} : okR false n = true ↔ n = 0 := by unfold okR; simp
theorem right_N24 {D A B N : Int} (hr : isaRight 24 D A B N = true) : 1 ≤ N ∧ N ≤ 4 := by
  unfold isaRight at hr
  split at hr
  · cases hr
  · rename_i h
    have hlh : (isaOf 24 N).2.2 = (1, 4) := by unfold isaOf; split <;> rfl
    rw [hlh] at h
    omega
theorem says_n {d a b : Bool} {lo hi D A B N : Int} (h : rowSays ⟨d, a, b, true, lo, hi⟩ D A B N = true) : okR d D = true ∧ okR a A = true ∧ okR b B = true ∧ lo ≤ N ∧ N ≤ hi := by
  unfold rowSays at h
  simp only [Bool.and_eq_true, if_true, decide_eq_true_eq] at h
  exact ⟨h.1, h.2.1, h.2.2.1, h.2.2.2⟩
theorem says_0 {d a b : Bool} {lo hi D A B N : Int} (h : rowSays ⟨d, a, b, false, lo, hi⟩ D A B N = true) : okR d D = true ∧ okR a A = true ∧ okR b B = true ∧ N = 0 := by
  unfold rowSays at h
  simp only [Bool.and_eq_true, Bool.false_eq_true, if_false, beq_iff_eq] at h
  exact ⟨h.1, h.2.1, h.2.2.1, h.2.2.2⟩
theorem cls_none (kk : Nat) (hk : kk < 64) (h22 : ¬ (kk : Int) = 22) {lo hi D A B N : Int}  (h : rowSays ⟨false, false, false, false, lo, hi⟩ D A B N = true) : refGo D A B N 65536 [] (67108864 * kk) pows = some (putGo D A B [] 0 (putStart kk N), 0) := by
  obtain ⟨hD, hA, hB, hn⟩ := says_0 h
  have hD2 := okR_f.1 hD
  have hA2 := okR_f.1 hA
  have hB2 := okR_f.1 hB
  subst hn
  have hs := putGo_sum D A B [] 0 kk ((0 : Int) % 65536).toNat (by decide) (by
    intro c hc
    simp only [List.mem_cons, List.not_mem_nil, or_false] at hc
    skip) (by decide) (by simpa using hk)
  rw [start_sum kk hk 0, if_neg h22]
  refine Eq.trans ?_ (congrArg (fun x => some (x, (0 : Int))) hs.symm)
  show some ((67108864 * (kk : Int)) % 4294967296, (0 : Int)) = _
  have hh : horner D A B kk [] = kk := rfl
  rw [hh]
  rw [show 26 - 5 * (0 + ([] : List UInt8).length) = 26 from rfl]
  congr 2
  omega
theorem cls_DN (kk : Nat) (hk : kk < 64) (h22 : ¬ (kk : Int) = 22) {lo hi D A B N : Int} (hN : -65536 ≤ lo ∧ hi < 65536) (h : rowSays ⟨true, false, false, true, lo, hi⟩ D A B N = true) : refGo D A B N 65536 [68, 78] (67108864 * kk) pows = some (putGo D A B [68] 0 (putStart kk N), 0) := by
  obtain ⟨hD, hA, hB, hn1, hn2⟩ := says_n h
  have hD2 := okR_t.1 hD
  have hA2 := okR_f.1 hA
  have hB2 := okR_f.1 hB
  have hs := putGo_sum D A B [68] 0 kk (N % 65536).toNat (by decide) (by
    intro c hc
    simp only [List.mem_cons, List.not_mem_nil, or_false] at hc
    obtain rfl := hc
    exact hD2) (by
    show (N % 65536).toNat < 2 ^ (26 - 5 * (0 + 1))
    rw [show (2 : Nat) ^ (26 - 5 * (0 + 1)) = 2097152 from rfl]
    omega) (by simpa using hk)
  rw [start_sum kk hk N, if_neg h22]
  refine Eq.trans ?_ (congrArg (fun x => some (x, (0 : Int))) hs.symm)
  show (if N < 0 then some ((wrap64 (wrap64 (67108864 * (kk : Int) + wrap64 (D * 2097152)) + wrap64 (N + 65536))) % 4294967296, (0 : Int)) else some ((wrap64 (wrap64 (67108864 * (kk : Int) + wrap64 (D * 2097152)) + N)) % 4294967296, (0 : Int))) = _
  have hh : horner D A B kk [68] = (32 * kk + D.toNat) := rfl
  rw [hh]
  rw [show 26 - 5 * (0 + ([68] : List UInt8).length) = 21 from rfl]
  by_cases hneg : N < 0
  · rw [if_pos hneg]
    rw [w64 (x := D * 2097152) (by omega), w64 (x := 67108864 * (kk : Int) + D * 2097152) (by omega), w64 (x := N + 65536) (by omega), w64 (x := 67108864 * (kk : Int) + D * 2097152 + (N + 65536)) (by omega)]
    congr 2
    omega
  · rw [if_neg hneg]
    rw [w64 (x := D * 2097152) (by omega), w64 (x := 67108864 * (kk : Int) + D * 2097152) (by omega), w64 (x := 67108864 * (kk : Int) + D * 2097152 + N) (by omega)]
    congr 2
    omega
theorem cls_DNj (kk : Nat) (hk : kk < 64) (h22 : (kk : Int) = 22) {lo hi D A B N : Int} (hN : -2097152 ≤ lo ∧ hi < 2097152) (h : rowSays ⟨true, false, false, true, lo, hi⟩ D A B N = true) : refGo D A B N 2097152 [68, 78] (67108864 * kk) pows = some (putGo D A B [68] 0 (putStart kk N), 0) := by
  obtain ⟨hD, hA, hB, hn1, hn2⟩ := says_n h
  have hD2 := okR_t.1 hD
  have hA2 := okR_f.1 hA
  have hB2 := okR_f.1 hB
  have hs := putGo_sum D A B [68] 0 kk (N % 2097152).toNat (by decide) (by
    intro c hc
    simp only [List.mem_cons, List.not_mem_nil, or_false] at hc
    obtain rfl := hc
    exact hD2) (by
    show (N % 2097152).toNat < 2 ^ (26 - 5 * (0 + 1))
    rw [show (2 : Nat) ^ (26 - 5 * (0 + 1)) = 2097152 from rfl]
    omega) (by simpa using hk)
  rw [start_sum kk hk N, if_pos h22]
  refine Eq.trans ?_ (congrArg (fun x => some (x, (0 : Int))) hs.symm)
  show (if N < 0 then some ((wrap64 (wrap64 (67108864 * (kk : Int) + wrap64 (D * 2097152)) + wrap64 (N + 2097152))) % 4294967296, (0 : Int)) else some ((wrap64 (wrap64 (67108864 * (kk : Int) + wrap64 (D * 2097152)) + N)) % 4294967296, (0 : Int))) = _
  have hh : horner D A B kk [68] = (32 * kk + D.toNat) := rfl
  rw [hh]
  rw [show 26 - 5 * (0 + ([68] : List UInt8).length) = 21 from rfl]
  by_cases hneg : N < 0
  · rw [if_pos hneg]
    rw [w64 (x := D * 2097152) (by omega), w64 (x := 67108864 * (kk : Int) + D * 2097152) (by omega), w64 (x := N + 2097152) (by omega), w64 (x := 67108864 * (kk : Int) + D * 2097152 + (N + 2097152)) (by omega)]
    congr 2
    omega
  · rw [if_neg hneg]
    rw [w64 (x := D * 2097152) (by omega), w64 (x := 67108864 * (kk : Int) + D * 2097152) (by omega), w64 (x := 67108864 * (kk : Int) + D * 2097152 + N) (by omega)]
    congr 2
    omega
theorem cls_DAN (kk : Nat) (hk : kk < 64) (h22 : ¬ (kk : Int) = 22) {lo hi D A B N : Int} (hN : -65536 ≤ lo ∧ hi < 65536) (h : rowSays ⟨true, true, false, true, lo, hi⟩ D A B N = true) : refGo D A B N 65536 [68, 65, 78] (67108864 * kk) pows = some (putGo D A B [68, 65] 0 (putStart kk N), 0) := by
  obtain ⟨hD, hA, hB, hn1, hn2⟩ := says_n h
  have hD2 := okR_t.1 hD
  have hA2 := okR_t.1 hA
  have hB2 := okR_f.1 hB
  have hs := putGo_sum D A B [68, 65] 0 kk (N % 65536).toNat (by decide) (by
    intro c hc
    simp only [List.mem_cons, List.not_mem_nil, or_false] at hc
    rcases hc with rfl | rfl
    · exact hD2
    · exact hA2) (by
    show (N % 65536).toNat < 2 ^ (26 - 5 * (0 + 2))
    rw [show (2 : Nat) ^ (26 - 5 * (0 + 2)) = 65536 from rfl]
    omega) (by simpa using hk)
  rw [start_sum kk hk N, if_neg h22]
  refine Eq.trans ?_ (congrArg (fun x => some (x, (0 : Int))) hs.symm)
  show (if N < 0 then some ((wrap64 (wrap64 (wrap64 (67108864 * (kk : Int) + wrap64 (D * 2097152)) + wrap64 (A * 65536)) + wrap64 (N + 65536))) % 4294967296, (0 : Int)) else some ((wrap64 (wrap64 (wrap64 (67108864 * (kk : Int) + wrap64 (D * 2097152)) + wrap64 (A * 65536)) + N)) % 4294967296, (0 : Int))) = _
  have hh : horner D A B kk [68, 65] = (32 * (32 * kk + D.toNat) + A.toNat) := rfl
  rw [hh]
  rw [show 26 - 5 * (0 + ([68, 65] : List UInt8).length) = 16 from rfl]
  by_cases hneg : N < 0
  · rw [if_pos hneg]
    rw [w64 (x := D * 2097152) (by omega), w64 (x := 67108864 * (kk : Int) + D * 2097152) (by omega), w64 (x := A * 65536) (by omega), w64 (x := 67108864 * (kk : Int) + D * 2097152 + A * 65536) (by omega), w64 (x := N + 65536) (by omega), w64 (x := 67108864 * (kk : Int) + D * 2097152 + A * 65536 + (N + 65536)) (by omega)]
    congr 2
    omega
  · rw [if_neg hneg]
    rw [w64 (x := D * 2097152) (by omega), w64 (x := 67108864 * (kk : Int) + D * 2097152) (by omega), w64 (x := A * 65536) (by omega), w64 (x := 67108864 * (kk : Int) + D * 2097152 + A * 65536) (by omega), w64 (x := 67108864 * (kk : Int) + D * 2097152 + A * 65536 + N) (by omega)]
    congr 2
    omega
theorem cls_BAN (kk : Nat) (hk : kk < 64) (h22 : ¬ (kk : Int) = 22) {lo hi D A B N : Int} (hN : -65536 ≤ lo ∧ hi < 65536) (h : rowSays ⟨false, true, true, true, lo, hi⟩ D A B N = true) : refGo D A B N 65536 [66, 65, 78] (67108864 * kk) pows = some (putGo D A B [66, 65] 0 (putStart kk N), 0) := by
  obtain ⟨hD, hA, hB, hn1, hn2⟩ := says_n h
  have hD2 := okR_f.1 hD
  have hA2 := okR_t.1 hA
  have hB2 := okR_t.1 hB
  have hs := putGo_sum D A B [66, 65] 0 kk (N % 65536).toNat (by decide) (by
    intro c hc
    simp only [List.mem_cons, List.not_mem_nil, or_false] at hc
    rcases hc with rfl | rfl
    · exact hB2
    · exact hA2) (by
    show (N % 65536).toNat < 2 ^ (26 - 5 * (0 + 2))
    rw [show (2 : Nat) ^ (26 - 5 * (0 + 2)) = 65536 from rfl]
    omega) (by simpa using hk)
  rw [start_sum kk hk N, if_neg h22]
  refine Eq.trans ?_ (congrArg (fun x => some (x, (0 : Int))) hs.symm)
  show (if N < 0 then some ((wrap64 (wrap64 (wrap64 (67108864 * (kk : Int) + wrap64 (B * 2097152)) + wrap64 (A * 65536)) + wrap64 (N + 65536))) % 4294967296, (0 : Int)) else some ((wrap64 (wrap64 (wrap64 (67108864 * (kk : Int) + wrap64 (B * 2097152)) + wrap64 (A * 65536)) + N)) % 4294967296, (0 : Int))) = _
  have hh : horner D A B kk [66, 65] = (32 * (32 * kk + B.toNat) + A.toNat) := rfl
  rw [hh]
  rw [show 26 - 5 * (0 + ([66, 65] : List UInt8).length) = 16 from rfl]
  by_cases hneg : N < 0
  · rw [if_pos hneg]
    rw [w64 (x := B * 2097152) (by omega), w64 (x := 67108864 * (kk : Int) + B * 2097152) (by omega), w64 (x := A * 65536) (by omega), w64 (x := 67108864 * (kk : Int) + B * 2097152 + A * 65536) (by omega), w64 (x := N + 65536) (by omega), w64 (x := 67108864 * (kk : Int) + B * 2097152 + A * 65536 + (N + 65536)) (by omega)]
    congr 2
    omega
  · rw [if_neg hneg]
    rw [w64 (x := B * 2097152) (by omega), w64 (x := 67108864 * (kk : Int) + B * 2097152) (by omega), w64 (x := A * 65536) (by omega), w64 (x := 67108864 * (kk : Int) + B * 2097152 + A * 65536) (by omega), w64 (x := 67108864 * (kk : Int) + B * 2097152 + A * 65536 + N) (by omega)]
    congr 2
    omega
theorem cls_ABN (kk : Nat) (hk : kk < 64) (h22 : ¬ (kk : Int) = 22) {lo hi D A B N : Int} (hN : -65536 ≤ lo ∧ hi < 65536) (h : rowSays ⟨false, true, true, true, lo, hi⟩ D A B N = true) : refGo D A B N 65536 [65, 66, 78] (67108864 * kk) pows = some (putGo D A B [65, 66] 0 (putStart kk N), 0) := by
  obtain ⟨hD, hA, hB, hn1, hn2⟩ := says_n h
  have hD2 := okR_f.1 hD
  have hA2 := okR_t.1 hA
  have hB2 := okR_t.1 hB
  have hs := putGo_sum D A B [65, 66] 0 kk (N % 65536).toNat (by decide) (by
    intro c hc
    simp only [List.mem_cons, List.not_mem_nil, or_false] at hc
    rcases hc with rfl | rfl
    · exact hA2
    · exact hB2) (by
    show (N % 65536).toNat < 2 ^ (26 - 5 * (0 + 2))
    rw [show (2 : Nat) ^ (26 - 5 * (0 + 2)) = 65536 from rfl]
    omega) (by simpa using hk)
  rw [start_sum kk hk N, if_neg h22]
  refine Eq.trans ?_ (congrArg (fun x => some (x, (0 : Int))) hs.symm)
  show (if N < 0 then some ((wrap64 (wrap64 (wrap64 (67108864 * (kk : Int) + wrap64 (A * 2097152)) + wrap64 (B * 65536)) + wrap64 (N + 65536))) % 4294967296, (0 : Int)) else some ((wrap64 (wrap64 (wrap64 (67108864 * (kk : Int) + wrap64 (A * 2097152)) + wrap64 (B * 65536)) + N)) % 4294967296, (0 : Int))) = _
  have hh : horner D A B kk [65, 66] = (32 * (32 * kk + A.toNat) + B.toNat) := rfl
  rw [hh]
  rw [show 26 - 5 * (0 + ([65, 66] : List UInt8).length) = 16 from rfl]
  by_cases hneg : N < 0
  · rw [if_pos hneg]
    rw [w64 (x := A * 2097152) (by omega), w64 (x := 67108864 * (kk : Int) + A * 2097152) (by omega), w64 (x := B * 65536) (by omega), w64 (x := 67108864 * (kk : Int) + A * 2097152 + B * 65536) (by omega), w64 (x := N + 65536) (by omega), w64 (x := 67108864 * (kk : Int) + A * 2097152 + B * 65536 + (N + 65536)) (by omega)]
    congr 2
    omega
  · rw [if_neg hneg]
    rw [w64 (x := A * 2097152) (by omega), w64 (x := 67108864 * (kk : Int) + A * 2097152) (by omega), w64 (x := B * 65536) (by omega), w64 (x := 67108864 * (kk : Int) + A * 2097152 + B * 65536) (by omega), w64 (x := 67108864 * (kk : Int) + A * 2097152 + B * 65536 + N) (by omega)]
    congr 2
    omega
theorem cls_DA (kk : Nat) (hk : kk < 64) (h22 : ¬ (kk : Int) = 22) {lo hi D A B N : Int}  (h : rowSays ⟨true, true, false, false, lo, hi⟩ D A B N = true) : refGo D A B N 65536 [68, 65] (67108864 * kk) pows = some (putGo D A B [68, 65] 0 (putStart kk N), 0) := by
  obtain ⟨hD, hA, hB, hn⟩ := says_0 h
  have hD2 := okR_t.1 hD
  have hA2 := okR_t.1 hA
  have hB2 := okR_f.1 hB
  subst hn
  have hs := putGo_sum D A B [68, 65] 0 kk ((0 : Int) % 65536).toNat (by decide) (by
    intro c hc
    simp only [List.mem_cons, List.not_mem_nil, or_false] at hc
    rcases hc with rfl | rfl
    · exact hD2
    · exact hA2) (by
    show ((0 : Int) % 65536).toNat < 2 ^ (26 - 5 * (0 + 2))
    rw [show (2 : Nat) ^ (26 - 5 * (0 + 2)) = 65536 from rfl]
    omega) (by simpa using hk)
  rw [start_sum kk hk 0, if_neg h22]
  refine Eq.trans ?_ (congrArg (fun x => some (x, (0 : Int))) hs.symm)
  show some ((wrap64 (wrap64 (67108864 * (kk : Int) + wrap64 (D * 2097152)) + wrap64 (A * 65536))) % 4294967296, (0 : Int)) = _
  have hh : horner D A B kk [68, 65] = (32 * (32 * kk + D.toNat) + A.toNat) := rfl
  rw [hh]
  rw [show 26 - 5 * (0 + ([68, 65] : List UInt8).length) = 16 from rfl]
  rw [w64 (x := D * 2097152) (by omega), w64 (x := 67108864 * (kk : Int) + D * 2097152) (by omega), w64 (x := A * 65536) (by omega), w64 (x := 67108864 * (kk : Int) + D * 2097152 + A * 65536) (by omega)]
  congr 2
  omega
theorem cls_DAB (kk : Nat) (hk : kk < 64) (h22 : ¬ (kk : Int) = 22) {lo hi D A B N : Int}  (h : rowSays ⟨true, true, true, false, lo, hi⟩ D A B N = true) : refGo D A B N 65536 [68, 65, 66] (67108864 * kk) pows = some (putGo D A B [68, 65, 66] 0 (putStart kk N), 0) := by
  obtain ⟨hD, hA, hB, hn⟩ := says_0 h
  have hD2 := okR_t.1 hD
  have hA2 := okR_t.1 hA
  have hB2 := okR_t.1 hB
  subst hn
  have hs := putGo_sum D A B [68, 65, 66] 0 kk ((0 : Int) % 65536).toNat (by decide) (by
    intro c hc
    simp only [List.mem_cons, List.not_mem_nil, or_false] at hc
    rcases hc with rfl | rfl | rfl
    · exact hD2
    · exact hA2
    · exact hB2) (by
    show ((0 : Int) % 65536).toNat < 2 ^ (26 - 5 * (0 + 3))
    rw [show (2 : Nat) ^ (26 - 5 * (0 + 3)) = 2048 from rfl]
    omega) (by simpa using hk)
  rw [start_sum kk hk 0, if_neg h22]
  refine Eq.trans ?_ (congrArg (fun x => some (x, (0 : Int))) hs.symm)
  show some ((wrap64 (wrap64 (wrap64 (67108864 * (kk : Int) + wrap64 (D * 2097152)) + wrap64 (A * 65536)) + wrap64 (B * 2048))) % 4294967296, (0 : Int)) = _
  have hh : horner D A B kk [68, 65, 66] = (32 * (32 * (32 * kk + D.toNat) + A.toNat) + B.toNat) := rfl
  rw [hh]
  rw [show 26 - 5 * (0 + ([68, 65, 66] : List UInt8).length) = 11 from rfl]
  rw [w64 (x := D * 2097152) (by omega), w64 (x := 67108864 * (kk : Int) + D * 2097152) (by omega), w64 (x := A * 65536) (by omega), w64 (x := 67108864 * (kk : Int) + D * 2097152 + A * 65536) (by omega), w64 (x := B * 2048) (by omega), w64 (x := 67108864 * (kk : Int) + D * 2097152 + A * 65536 + B * 2048) (by omega)]
  congr 2
  omega
theorem cls_S1 {D A B : Int} (h : rowSays (rowS 1) D A B 1 = true) : refGo D A B 1 65536 [78, 65] 1610612736 pows = some (putGo D A B [65] 0 (putStart 24 1), 0) := by
  obtain ⟨hD, hA, hB, hn1, hn2⟩ := says_n (d := false) (a := true) (b := false) (lo := 1) (hi := 4) h
  have hD2 := okR_f.1 hD
  have hA2 := okR_t.1 hA
  have hB2 := okR_f.1 hB
  have hs := putGo_sum D A B [65] 0 24 1 (by decide) (by
    intro c hc
    simp only [List.mem_cons, List.not_mem_nil, or_false] at hc
    obtain rfl := hc
    exact hA2) (by decide) (by decide)
  have hp : putStart 24 1 = ((2 ^ (26 - 5 * 0) * 24 + 1 : Nat) : Int) := start_sum 24 (by decide) 1
  rw [hp]
  refine Eq.trans ?_ (congrArg (fun x => some (x, (0 : Int))) hs.symm)
  have hh : horner D A B 24 [65] = (32 * 24 + A.toNat) := rfl
  rw [hh]
  rw [show 26 - 5 * (0 + ([65] : List UInt8).length) = 21 from rfl]
  rw [refGo, if_pos rfl, if_neg (by decide), w64 (by decide)]
  rw [refGo, if_neg (by decide), if_neg (by decide), if_pos rfl, show List.headD pows (0 : Int) = 2097152 from rfl, w64 (x := A * 2097152) (by omega), w64 (x := _ + A * 2097152) (by omega)]
  rw [refGo]
  congr 2
  omega
theorem cls_S2 {D A B : Int} (h : rowSays (rowS 2) D A B 2 = true) : refGo D A B 2 65536 [78, 68] 1610612736 pows = some (putGo D A B [68] 0 (putStart 24 2), 0) := by
  obtain ⟨hD, hA, hB, hn1, hn2⟩ := says_n (d := true) (a := false) (b := false) (lo := 1) (hi := 4) h
  have hD2 := okR_t.1 hD
  have hA2 := okR_f.1 hA
  have hB2 := okR_f.1 hB
  have hs := putGo_sum D A B [68] 0 24 2 (by decide) (by
    intro c hc
    simp only [List.mem_cons, List.not_mem_nil, or_false] at hc
    obtain rfl := hc
    exact hD2) (by decide) (by decide)
  have hp : putStart 24 2 = ((2 ^ (26 - 5 * 0) * 24 + 2 : Nat) : Int) := start_sum 24 (by decide) 2
  rw [hp]
  refine Eq.trans ?_ (congrArg (fun x => some (x, (0 : Int))) hs.symm)
  have hh : horner D A B 24 [68] = (32 * 24 + D.toNat) := rfl
  rw [hh]
  rw [show 26 - 5 * (0 + ([68] : List UInt8).length) = 21 from rfl]
  rw [refGo, if_pos rfl, if_neg (by decide), w64 (by decide)]
  rw [refGo, if_neg (by decide), if_pos rfl, show List.headD pows (0 : Int) = 2097152 from rfl, w64 (x := D * 2097152) (by omega), w64 (x := _ + D * 2097152) (by omega)]
  rw [refGo]
  congr 2
  omega
theorem cls_S3 {D A B : Int} (h : rowSays (rowS 3) D A B 3 = true) : refGo D A B 3 65536 [78, 68, 66] 1610612736 pows = some (putGo D A B [68, 66] 0 (putStart 24 3), 0) := by
  obtain ⟨hD, hA, hB, hn1, hn2⟩ := says_n (d := true) (a := false) (b := true) (lo := 1) (hi := 4) h
  have hD2 := okR_t.1 hD
  have hA2 := okR_f.1 hA
  have hB2 := okR_t.1 hB
  have hs := putGo_sum D A B [68, 66] 0 24 3 (by decide) (by
    intro c hc
    simp only [List.mem_cons, List.not_mem_nil, or_false] at hc
    rcases hc with rfl | rfl
    · exact hD2
    · exact hB2) (by decide) (by decide)
  have hp : putStart 24 3 = ((2 ^ (26 - 5 * 0) * 24 + 3 : Nat) : Int) := start_sum 24 (by decide) 3
  rw [hp]
  refine Eq.trans ?_ (congrArg (fun x => some (x, (0 : Int))) hs.symm)
  have hh : horner D A B 24 [68, 66] = (32 * (32 * 24 + D.toNat) + B.toNat) := rfl
  rw [hh]
  rw [show 26 - 5 * (0 + ([68, 66] : List UInt8).length) = 16 from rfl]
  rw [refGo, if_pos rfl, if_neg (by decide), w64 (by decide)]
  rw [refGo, if_neg (by decide), if_pos rfl, show List.headD pows (0 : Int) = 2097152 from rfl, w64 (x := D * 2097152) (by omega), w64 (x := _ + D * 2097152) (by omega)]
  rw [refGo, if_neg (by decide), if_neg (by decide), if_neg (by decide), show List.headD pows.tail (0 : Int) = 65536 from rfl, w64 (x := B * 65536) (by omega), w64 (x := _ + B * 65536) (by omega)]
  rw [refGo]
  congr 2
  omega
theorem cls_S4 {D A B : Int} (h : rowSays (rowS 4) D A B 4 = true) : refGo D A B 4 65536 [78, 65] 1610612736 pows = some (putGo D A B [65] 0 (putStart 24 4), 0) := by
  obtain ⟨hD, hA, hB, hn1, hn2⟩ := says_n (d := false) (a := true) (b := false) (lo := 1) (hi := 4) h
  have hD2 := okR_f.1 hD
  have hA2 := okR_t.1 hA
  have hB2 := okR_f.1 hB
  have hs := putGo_sum D A B [65] 0 24 4 (by decide) (by
    intro c hc
    simp only [List.mem_cons, List.not_mem_nil, or_false] at hc
    obtain rfl := hc
    exact hA2) (by decide) (by decide)
  have hp : putStart 24 4 = ((2 ^ (26 - 5 * 0) * 24 + 4 : Nat) : Int) := start_sum 24 (by decide) 4
  rw [hp]
  refine Eq.trans ?_ (congrArg (fun x => some (x, (0 : Int))) hs.symm)
  have hh : horner D A B 24 [65] = (32 * 24 + A.toNat) := rfl
  rw [hh]
  rw [show 26 - 5 * (0 + ([65] : List UInt8).length) = 21 from rfl]
  rw [refGo, if_pos rfl, if_neg (by decide), w64 (by decide)]
  rw [refGo, if_neg (by decide), if_neg (by decide), if_pos rfl, show List.headD pows (0 : Int) = 2097152 from rfl, w64 (x := A * 2097152) (by omega), w64 (x := _ + A * 2097152) (by omega)]
  rw [refGo]
  congr 2
  omega
theorem refGo_lit (kk : Nat) (hk : kk < 24) (D A B N : Int) (h : rowSays (rowK kk) D A B N = true) : refGo D A B N (if kk = 22 then 2097152 else 65536) (lettersK.getD kk []) (67108864 * kk) pows = some (isaPut kk D A B N, 0) := by
  match kk, hk, h with
  | 0, _, h => exact cls_none 0 (by decide) (by decide) h
  | 1, _, h => exact cls_DN 1 (by decide) (by decide) (by decide) h
  | 2, _, h => exact cls_DN 2 (by decide) (by decide) (by decide) h
  | 3, _, h => exact cls_DAN 3 (by decide) (by decide) (by decide) h
  | 4, _, h => exact cls_DAB 4 (by decide) (by decide) h
  | 5, _, h => exact cls_DAB 5 (by decide) (by decide) h
  | 6, _, h => exact cls_DAB 6 (by decide) (by decide) h
  | 7, _, h => exact cls_DAB 7 (by decide) (by decide) h
  | 8, _, h => exact cls_DAB 8 (by decide) (by decide) h
  | 9, _, h => exact cls_DAB 9 (by decide) (by decide) h
  | 10, _, h => exact cls_DAB 10 (by decide) (by decide) h
  | 11, _, h => exact cls_DAB 11 (by decide) (by decide) h
  | 12, _, h => exact cls_DAB 12 (by decide) (by decide) h
  | 13, _, h => exact cls_DAN 13 (by decide) (by decide) (by decide) h
  | 14, _, h => exact cls_DAN 14 (by decide) (by decide) (by decide) h
  | 15, _, h => exact cls_DAN 15 (by decide) (by decide) (by decide) h
  | 16, _, h => exact cls_DAN 16 (by decide) (by decide) (by decide) h
  | 17, _, h => exact cls_DAN 17 (by decide) (by decide) (by decide) h
  | 18, _, h => exact cls_BAN 18 (by decide) (by decide) (by decide) h
  | 19, _, h => exact cls_ABN 19 (by decide) (by decide) (by decide) h
  | 20, _, h => exact cls_ABN 20 (by decide) (by decide) (by decide) h
  | 21, _, h => exact cls_ABN 21 (by decide) (by decide) (by decide) h
  | 22, _, h => exact cls_DNj 22 (by decide) (by decide) (by decide) h
  | 23, _, h => exact cls_DA 23 (by decide) (by decide) h
  | n + 24, h, _ => exact absurd h (by omega)
theorem refPut_sys (n : Nat) (D A B N : Int) : camletref39_Put.f (n + 60) 24 D A B N = isa_Put.f 24 D A B N := by
  have hR := refRight_eq (n + 40) 24 D A B N
  rw [show n + 40 + 20 = n + 60 by omega] at hR
  unfold isa_Put.f
  by_cases hr : isaRight 24 D A B N = true
  · rw [if_pos hr]
    have hs := hr
    rw [isaRight_sys] at hs
    have hb : 1 ≤ N ∧ N ≤ 4 := by
      have := right_N24 hr
      exact this
    have h4 : N = 1 ∨ N = 2 ∨ N = 3 ∨ N = 4 := by omega
    rw [hr] at hR
    rcases h4 with rfl | rfl | rfl | rfl
    · have e : camletref39_Put.f (n + 60) 24 D A B 1 = (camletref39_Right.f (n + 60) 24 D A B 1).bind fun t => if t = true then refGo D A B 1 65536 [78, 65] 1610612736 pows else some (0, 26) := by kernel_rfl
      rw [e, hR]
      exact cls_S1 hs
    · have e : camletref39_Put.f (n + 60) 24 D A B 2 = (camletref39_Right.f (n + 60) 24 D A B 2).bind fun t => if t = true then refGo D A B 2 65536 [78, 68] 1610612736 pows else some (0, 26) := by kernel_rfl
      rw [e, hR]
      exact cls_S2 hs
    · have e : camletref39_Put.f (n + 60) 24 D A B 3 = (camletref39_Right.f (n + 60) 24 D A B 3).bind fun t => if t = true then refGo D A B 3 65536 [78, 68, 66] 1610612736 pows else some (0, 26) := by kernel_rfl
      rw [e, hR]
      exact cls_S3 hs
    · have e : camletref39_Put.f (n + 60) 24 D A B 4 = (camletref39_Right.f (n + 60) 24 D A B 4).bind fun t => if t = true then refGo D A B 4 65536 [78, 65] 1610612736 pows else some (0, 26) := by kernel_rfl
      rw [e, hR]
      exact cls_S4 hs
  · rw [if_neg hr]
    have hf : isaRight 24 D A B N = false := by simpa using hr
    rw [hf] at hR
    unfold camletref39_Put.f
    rw [hR]
    rfl
theorem refPut_eq (n : Nat) (k D A B N : Int) : camletref39_Put.f (n + 60) k D A B N = isa_Put.f k D A B N := by
  have hR := refRight_eq (n + 40) k D A B N
  rw [show n + 40 + 20 = n + 60 by omega] at hR
  by_cases hr : isaRight k D A B N = true
  · have hk : ¬ (k < 0 ∨ 24 < k) := fun h => by rw [isaRight_out _ _ _ _ _ h] at hr; cases hr
    obtain ⟨kk, rfl⟩ : ∃ kk : Nat, k = (kk : Int) := ⟨k.toNat, by omega⟩
    by_cases h2 : kk = 24
    · subst h2
      exact refPut_sys n D A B N
    · rw [refPut_lit n D A B N kk (by omega), hR, hr]
      have hs := hr
      rw [isaRight_lit kk (by omega)] at hs
      unfold isa_Put.f
      rw [if_pos hr]
      exact refGo_lit kk (by omega) D A B N hs
  · have hf : isaRight k D A B N = false := by simpa using hr
    unfold isa_Put.f
    rw [if_neg hr]
    rw [hf] at hR
    unfold camletref39_Put.f
    rw [hR]
    rfl
end Go.Proofs.YtlhkojnocconfaaDoor.Q
