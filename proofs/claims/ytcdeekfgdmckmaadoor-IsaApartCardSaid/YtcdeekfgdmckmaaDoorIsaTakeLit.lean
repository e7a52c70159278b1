/- What Take reads of a word, kind by kind. By wip/gen/isa_reftake.py. -/
import Derived.Test.YtcdeekfgdmckmaaDoorQx0
import Derived.Test.YtcdeekfgdmckmaaDoorHisaForms
import Derived.Test.YtcdeekfgdmckmaaDoorHisaOf
import Derived.Test.YtcdeekfgdmckmaaDoorHisaTake
import Derived.Test.YtcdeekfgdmckmaaDoorIsaRef
import Derived.Test.YtcdeekfgdmckmaaDoorIsaRefPut
--@needs XIsaRefPut
--@needs XHisaTake
namespace Go.Proofs.YtcdeekfgdmckmaaDoor.Q
open Go.RowKit Go.Proofs.YtcdeekfgdmckmaaDoorW.PrintWords Go.Proofs.YtcdeekfgdmckmaaDoorW.PrintLast Go.Proofs.YtcdeekfgdmckmaaDoorW.PrintMore
attribute [local go_sem] max2_int min2_int max_two min_two max_three min_three max_four min_four   -- for this text's walks alone
set_option linter.unusedVariables false
set_option linter.unusedSimpArgs false

def fieldT (X p : Int) : Int := Int.tmod (wrap64 (Int.tdiv X p)) 32
/-- the number's part: of the low bits, perhaps less what they turn round at -/
def refN (kk : Nat) (X : Int) : Int := if ¬ (kk ∈ ([2, 3, 13, 14, 15, 24] : List Nat)) ∧ (if kk = 22 then 1048576 else 32768) ≤ Int.tmod X (if kk = 22 then 2097152 else 65536) then wrap64 (Int.tmod X (if kk = 22 then 2097152 else 65536) - (if kk = 22 then 2097152 else 65536)) else Int.tmod X (if kk = 22 then 2097152 else 65536)
def fldOf (kk : Nat) (X : Int) : Int × Int × Int := ([(0, 0, 0), (fieldT X 2097152, 0, 0), (fieldT X 2097152, 0, 0), (fieldT X 2097152, fieldT X 65536, 0), (fieldT X 2097152, fieldT X 65536, fieldT X 2048), (fieldT X 2097152, fieldT X 65536, fieldT X 2048), (fieldT X 2097152, fieldT X 65536, fieldT X 2048), (fieldT X 2097152, fieldT X 65536, fieldT X 2048), (fieldT X 2097152, fieldT X 65536, fieldT X 2048), (fieldT X 2097152, fieldT X 65536, fieldT X 2048), (fieldT X 2097152, fieldT X 65536, fieldT X 2048), (fieldT X 2097152, fieldT X 65536, fieldT X 2048), (fieldT X 2097152, fieldT X 65536, fieldT X 2048), (fieldT X 2097152, fieldT X 65536, 0), (fieldT X 2097152, fieldT X 65536, 0), (fieldT X 2097152, fieldT X 65536, 0), (fieldT X 2097152, fieldT X 65536, 0), (fieldT X 2097152, fieldT X 65536, 0), (0, fieldT X 65536, fieldT X 2097152), (0, fieldT X 2097152, fieldT X 65536), (0, fieldT X 2097152, fieldT X 65536), (0, fieldT X 2097152, fieldT X 65536), (fieldT X 2097152, 0, 0), (fieldT X 2097152, fieldT X 65536, 0)] : List (Int × Int × Int)).getD kk (0, 0, 0)
def hasN (kk : Nat) : Bool := ([false, true, true, true, false, false, false, false, false, false, false, false, false, true, true, true, true, true, true, true, true, true, true, false] : List Bool).getD kk false
theorem and_mask (x : Int) (hx0 : 0 ≤ x) (hx1 : x < 4294967296) (b : Nat) (hb : b ≤ 31) : bits BinOp.and IntKind.u32 x ((2 ^ b - 1 : Nat) : Int) = x % ((2 ^ b : Nat) : Int) := by
  obtain ⟨m, rfl⟩ := Int.eq_ofNat_of_zero_le hx0
  have hp : 2 ^ b ≤ 2 ^ 31 := Nat.pow_le_pow_right (by decide) hb
  have := bits_and_u32_nat' m (2 ^ b - 1) (by omega) (by omega)
  show bits BinOp.and IntKind.u32 (m : Int) _ = _
  rw [this, Nat.and_two_pow_sub_one_eq_mod]
  push_cast
  rfl
theorem tb (x : Int) (hx0 : 0 ≤ x) (hx1 : x < 4294967296) (pos : Nat) (p : Int) (hp : (2 : Int) ^ (21 - 5 * (pos : Int)).toNat = p) (hp1 : 2048 ≤ p) (hp2 : p ≤ 2097152) : takeBits x pos = fieldT x p := by
  unfold takeBits fieldT
  rw [hp]
  have hq0 : 0 ≤ x / p := Int.ediv_nonneg hx0 (by omega)
  have hq1 : x / p < 4294967296 := Int.lt_of_le_of_lt (Int.ediv_le_self _ hx0) hx1
  have h1 := and_mask (x / p) hq0 hq1 5 (by decide)
  rw [show ((2 ^ 5 - 1 : Nat) : Int) = 31 from rfl, show ((2 ^ 5 : Nat) : Int) = 32 from rfl] at h1
  rw [h1, i64w _ (by omega), Int.tdiv_eq_ediv_of_nonneg hx0, w64 (by omega), Int.tmod_eq_emod_of_nonneg hq0]
theorem takeRegs (x : Int) (hx0 : 0 ≤ x) (hx1 : x < 4294967296) (N : Int) (kk : Nat) (hk : kk < 24) : takeGo x (isaOf kk N).2.1.data.toList 0 0 0 0 = fldOf kk x := by
  have t0 := tb x hx0 hx1 0 2097152 rfl (by decide) (by decide)
  have t1 := tb x hx0 hx1 1 65536 rfl (by decide) (by decide)
  have t2 := tb x hx0 hx1 2 2048 rfl (by decide) (by decide)
  match kk, hk with
  | 0, _ => exact (by show ((0, 0, 0) : Int × Int × Int) = (0, 0, 0); rfl)
  | 1, _ => exact (by show ((takeBits x 0, 0, 0) : Int × Int × Int) = (fieldT x 2097152, 0, 0); rw [t0])
  | 2, _ => exact (by show ((takeBits x 0, 0, 0) : Int × Int × Int) = (fieldT x 2097152, 0, 0); rw [t0])
  | 3, _ => exact (by show ((takeBits x 0, takeBits x 1, 0) : Int × Int × Int) = (fieldT x 2097152, fieldT x 65536, 0); rw [t0, t1])
  | 4, _ => exact (by show ((takeBits x 0, takeBits x 1, takeBits x 2) : Int × Int × Int) = (fieldT x 2097152, fieldT x 65536, fieldT x 2048); rw [t0, t1, t2])
  | 5, _ => exact (by show ((takeBits x 0, takeBits x 1, takeBits x 2) : Int × Int × Int) = (fieldT x 2097152, fieldT x 65536, fieldT x 2048); rw [t0, t1, t2])
  | 6, _ => exact (by show ((takeBits x 0, takeBits x 1, takeBits x 2) : Int × Int × Int) = (fieldT x 2097152, fieldT x 65536, fieldT x 2048); rw [t0, t1, t2])
  | 7, _ => exact (by show ((takeBits x 0, takeBits x 1, takeBits x 2) : Int × Int × Int) = (fieldT x 2097152, fieldT x 65536, fieldT x 2048); rw [t0, t1, t2])
  | 8, _ => exact (by show ((takeBits x 0, takeBits x 1, takeBits x 2) : Int × Int × Int) = (fieldT x 2097152, fieldT x 65536, fieldT x 2048); rw [t0, t1, t2])
  | 9, _ => exact (by show ((takeBits x 0, takeBits x 1, takeBits x 2) : Int × Int × Int) = (fieldT x 2097152, fieldT x 65536, fieldT x 2048); rw [t0, t1, t2])
  | 10, _ => exact (by show ((takeBits x 0, takeBits x 1, takeBits x 2) : Int × Int × Int) = (fieldT x 2097152, fieldT x 65536, fieldT x 2048); rw [t0, t1, t2])
  | 11, _ => exact (by show ((takeBits x 0, takeBits x 1, takeBits x 2) : Int × Int × Int) = (fieldT x 2097152, fieldT x 65536, fieldT x 2048); rw [t0, t1, t2])
  | 12, _ => exact (by show ((takeBits x 0, takeBits x 1, takeBits x 2) : Int × Int × Int) = (fieldT x 2097152, fieldT x 65536, fieldT x 2048); rw [t0, t1, t2])
  | 13, _ => exact (by show ((takeBits x 0, takeBits x 1, 0) : Int × Int × Int) = (fieldT x 2097152, fieldT x 65536, 0); rw [t0, t1])
  | 14, _ => exact (by show ((takeBits x 0, takeBits x 1, 0) : Int × Int × Int) = (fieldT x 2097152, fieldT x 65536, 0); rw [t0, t1])
  | 15, _ => exact (by show ((takeBits x 0, takeBits x 1, 0) : Int × Int × Int) = (fieldT x 2097152, fieldT x 65536, 0); rw [t0, t1])
  | 16, _ => exact (by show ((takeBits x 0, takeBits x 1, 0) : Int × Int × Int) = (fieldT x 2097152, fieldT x 65536, 0); rw [t0, t1])
  | 17, _ => exact (by show ((takeBits x 0, takeBits x 1, 0) : Int × Int × Int) = (fieldT x 2097152, fieldT x 65536, 0); rw [t0, t1])
  | 18, _ => exact (by show ((0, takeBits x 1, takeBits x 0) : Int × Int × Int) = (0, fieldT x 65536, fieldT x 2097152); rw [t0, t1])
  | 19, _ => exact (by show ((0, takeBits x 0, takeBits x 1) : Int × Int × Int) = (0, fieldT x 2097152, fieldT x 65536); rw [t0, t1])
  | 20, _ => exact (by show ((0, takeBits x 0, takeBits x 1) : Int × Int × Int) = (0, fieldT x 2097152, fieldT x 65536); rw [t0, t1])
  | 21, _ => exact (by show ((0, takeBits x 0, takeBits x 1) : Int × Int × Int) = (0, fieldT x 2097152, fieldT x 65536); rw [t0, t1])
  | 22, _ => exact (by show ((takeBits x 0, 0, 0) : Int × Int × Int) = (fieldT x 2097152, 0, 0); rw [t0])
  | 23, _ => exact (by show ((takeBits x 0, takeBits x 1, 0) : Int × Int × Int) = (fieldT x 2097152, fieldT x 65536, 0); rw [t0, t1])
  | n + 24, h => exact absurd h (by omega)
theorem takeN_lit (x : Int) (hx0 : 0 ≤ x) (hx1 : x < 4294967296) (kk : Nat) (hk : kk < 25) : takeN kk (isaForm kk).2.2.1 (isaForm kk).2.2.2 x = if kk = 24 ∨ hasN kk = true then refN kk x else 0 := by
  have m16 := and_mask x hx0 hx1 16 (by decide)
  have m21 := and_mask x hx0 hx1 21 (by decide)
  rw [show ((2 ^ 16 - 1 : Nat) : Int) = 65535 from rfl, show ((2 ^ 16 : Nat) : Int) = 65536 from rfl] at m16
  rw [show ((2 ^ 21 - 1 : Nat) : Int) = 2097151 from rfl, show ((2 ^ 21 : Nat) : Int) = 2097152 from rfl] at m21
  have t16 : Int.tmod x 65536 = x % 65536 := Int.tmod_eq_emod_of_nonneg hx0
  have t21 : Int.tmod x 2097152 = x % 2097152 := Int.tmod_eq_emod_of_nonneg hx0
  match kk, hk with
  | 0, _ => exact (by show (if (0 : Int) < 0 then _ else (0 : Int)) = if 0 = 24 ∨ hasN 0 = true then _ else (0 : Int); rw [if_neg (by decide), if_neg (by decide)])
  | 1, _ =>
    have e1 : takeN 1 (isaForm 1).2.2.1 (isaForm 1).2.2.2 x = if (-32768 : Int) < 0 ∧ 32767 < bits BinOp.and IntKind.u32 x 65535 then bits BinOp.and IntKind.u32 x 65535 - 65536 else bits BinOp.and IntKind.u32 x 65535 := if_pos (by decide)
    refine Eq.trans e1 (Eq.trans ?_ (if_pos (by decide)).symm)
    rw [m16]
    by_cases hh : Int.tmod x 65536 ≥ 32768
    · rw [show refN 1 x = wrap64 (Int.tmod x 65536 - 65536) from if_pos ⟨by decide, hh⟩, t16, w64 (by omega), if_pos (by omega)]
    · rw [show refN 1 x = Int.tmod x 65536 from if_neg (fun h => hh h.2), t16, if_neg (by omega)]
  | 2, _ =>
    have e1 : takeN 2 (isaForm 2).2.2.1 (isaForm 2).2.2.2 x = if (0 : Int) < 0 ∧ 65535 < bits BinOp.and IntKind.u32 x 65535 then bits BinOp.and IntKind.u32 x 65535 - 65536 else bits BinOp.and IntKind.u32 x 65535 := if_pos (by decide)
    refine Eq.trans e1 (Eq.trans ?_ (if_pos (by decide)).symm)
    rw [m16]
    rw [if_neg (by omega), show refN 2 x = Int.tmod x 65536 from if_neg (fun h => h.1 (by decide)), t16]
  | 3, _ =>
    have e1 : takeN 3 (isaForm 3).2.2.1 (isaForm 3).2.2.2 x = if (0 : Int) < 0 ∧ 65535 < bits BinOp.and IntKind.u32 x 65535 then bits BinOp.and IntKind.u32 x 65535 - 65536 else bits BinOp.and IntKind.u32 x 65535 := if_pos (by decide)
    refine Eq.trans e1 (Eq.trans ?_ (if_pos (by decide)).symm)
    rw [m16]
    rw [if_neg (by omega), show refN 3 x = Int.tmod x 65536 from if_neg (fun h => h.1 (by decide)), t16]
  | 4, _ => exact (by show (if (0 : Int) < 0 then _ else (0 : Int)) = if 4 = 24 ∨ hasN 4 = true then _ else (0 : Int); rw [if_neg (by decide), if_neg (by decide)])
  | 5, _ => exact (by show (if (0 : Int) < 0 then _ else (0 : Int)) = if 5 = 24 ∨ hasN 5 = true then _ else (0 : Int); rw [if_neg (by decide), if_neg (by decide)])
  | 6, _ => exact (by show (if (0 : Int) < 0 then _ else (0 : Int)) = if 6 = 24 ∨ hasN 6 = true then _ else (0 : Int); rw [if_neg (by decide), if_neg (by decide)])
  | 7, _ => exact (by show (if (0 : Int) < 0 then _ else (0 : Int)) = if 7 = 24 ∨ hasN 7 = true then _ else (0 : Int); rw [if_neg (by decide), if_neg (by decide)])
  | 8, _ => exact (by show (if (0 : Int) < 0 then _ else (0 : Int)) = if 8 = 24 ∨ hasN 8 = true then _ else (0 : Int); rw [if_neg (by decide), if_neg (by decide)])
  | 9, _ => exact (by show (if (0 : Int) < 0 then _ else (0 : Int)) = if 9 = 24 ∨ hasN 9 = true then _ else (0 : Int); rw [if_neg (by decide), if_neg (by decide)])
  | 10, _ => exact (by show (if (0 : Int) < 0 then _ else (0 : Int)) = if 10 = 24 ∨ hasN 10 = true then _ else (0 : Int); rw [if_neg (by decide), if_neg (by decide)])
  | 11, _ => exact (by show (if (0 : Int) < 0 then _ else (0 : Int)) = if 11 = 24 ∨ hasN 11 = true then _ else (0 : Int); rw [if_neg (by decide), if_neg (by decide)])
  | 12, _ => exact (by show (if (0 : Int) < 0 then _ else (0 : Int)) = if 12 = 24 ∨ hasN 12 = true then _ else (0 : Int); rw [if_neg (by decide), if_neg (by decide)])
  | 13, _ =>
    have e1 : takeN 13 (isaForm 13).2.2.1 (isaForm 13).2.2.2 x = if (0 : Int) < 0 ∧ 31 < bits BinOp.and IntKind.u32 x 65535 then bits BinOp.and IntKind.u32 x 65535 - 65536 else bits BinOp.and IntKind.u32 x 65535 := if_pos (by decide)
    refine Eq.trans e1 (Eq.trans ?_ (if_pos (by decide)).symm)
    rw [m16]
    rw [if_neg (by omega), show refN 13 x = Int.tmod x 65536 from if_neg (fun h => h.1 (by decide)), t16]
  | 14, _ =>
    have e1 : takeN 14 (isaForm 14).2.2.1 (isaForm 14).2.2.2 x = if (0 : Int) < 0 ∧ 31 < bits BinOp.and IntKind.u32 x 65535 then bits BinOp.and IntKind.u32 x 65535 - 65536 else bits BinOp.and IntKind.u32 x 65535 := if_pos (by decide)
    refine Eq.trans e1 (Eq.trans ?_ (if_pos (by decide)).symm)
    rw [m16]
    rw [if_neg (by omega), show refN 14 x = Int.tmod x 65536 from if_neg (fun h => h.1 (by decide)), t16]
  | 15, _ =>
    have e1 : takeN 15 (isaForm 15).2.2.1 (isaForm 15).2.2.2 x = if (0 : Int) < 0 ∧ 31 < bits BinOp.and IntKind.u32 x 65535 then bits BinOp.and IntKind.u32 x 65535 - 65536 else bits BinOp.and IntKind.u32 x 65535 := if_pos (by decide)
    refine Eq.trans e1 (Eq.trans ?_ (if_pos (by decide)).symm)
    rw [m16]
    rw [if_neg (by omega), show refN 15 x = Int.tmod x 65536 from if_neg (fun h => h.1 (by decide)), t16]
  | 16, _ =>
    have e1 : takeN 16 (isaForm 16).2.2.1 (isaForm 16).2.2.2 x = if (-32768 : Int) < 0 ∧ 32767 < bits BinOp.and IntKind.u32 x 65535 then bits BinOp.and IntKind.u32 x 65535 - 65536 else bits BinOp.and IntKind.u32 x 65535 := if_pos (by decide)
    refine Eq.trans e1 (Eq.trans ?_ (if_pos (by decide)).symm)
    rw [m16]
    by_cases hh : Int.tmod x 65536 ≥ 32768
    · rw [show refN 16 x = wrap64 (Int.tmod x 65536 - 65536) from if_pos ⟨by decide, hh⟩, t16, w64 (by omega), if_pos (by omega)]
    · rw [show refN 16 x = Int.tmod x 65536 from if_neg (fun h => hh h.2), t16, if_neg (by omega)]
  | 17, _ =>
    have e1 : takeN 17 (isaForm 17).2.2.1 (isaForm 17).2.2.2 x = if (-32768 : Int) < 0 ∧ 32767 < bits BinOp.and IntKind.u32 x 65535 then bits BinOp.and IntKind.u32 x 65535 - 65536 else bits BinOp.and IntKind.u32 x 65535 := if_pos (by decide)
    refine Eq.trans e1 (Eq.trans ?_ (if_pos (by decide)).symm)
    rw [m16]
    by_cases hh : Int.tmod x 65536 ≥ 32768
    · rw [show refN 17 x = wrap64 (Int.tmod x 65536 - 65536) from if_pos ⟨by decide, hh⟩, t16, w64 (by omega), if_pos (by omega)]
    · rw [show refN 17 x = Int.tmod x 65536 from if_neg (fun h => hh h.2), t16, if_neg (by omega)]
  | 18, _ =>
    have e1 : takeN 18 (isaForm 18).2.2.1 (isaForm 18).2.2.2 x = if (-32768 : Int) < 0 ∧ 32767 < bits BinOp.and IntKind.u32 x 65535 then bits BinOp.and IntKind.u32 x 65535 - 65536 else bits BinOp.and IntKind.u32 x 65535 := if_pos (by decide)
    refine Eq.trans e1 (Eq.trans ?_ (if_pos (by decide)).symm)
    rw [m16]
    by_cases hh : Int.tmod x 65536 ≥ 32768
    · rw [show refN 18 x = wrap64 (Int.tmod x 65536 - 65536) from if_pos ⟨by decide, hh⟩, t16, w64 (by omega), if_pos (by omega)]
    · rw [show refN 18 x = Int.tmod x 65536 from if_neg (fun h => hh h.2), t16, if_neg (by omega)]
  | 19, _ =>
    have e1 : takeN 19 (isaForm 19).2.2.1 (isaForm 19).2.2.2 x = if (-32768 : Int) < 0 ∧ 32767 < bits BinOp.and IntKind.u32 x 65535 then bits BinOp.and IntKind.u32 x 65535 - 65536 else bits BinOp.and IntKind.u32 x 65535 := if_pos (by decide)
    refine Eq.trans e1 (Eq.trans ?_ (if_pos (by decide)).symm)
    rw [m16]
    by_cases hh : Int.tmod x 65536 ≥ 32768
    · rw [show refN 19 x = wrap64 (Int.tmod x 65536 - 65536) from if_pos ⟨by decide, hh⟩, t16, w64 (by omega), if_pos (by omega)]
    · rw [show refN 19 x = Int.tmod x 65536 from if_neg (fun h => hh h.2), t16, if_neg (by omega)]
  | 20, _ =>
    have e1 : takeN 20 (isaForm 20).2.2.1 (isaForm 20).2.2.2 x = if (-32768 : Int) < 0 ∧ 32767 < bits BinOp.and IntKind.u32 x 65535 then bits BinOp.and IntKind.u32 x 65535 - 65536 else bits BinOp.and IntKind.u32 x 65535 := if_pos (by decide)
    refine Eq.trans e1 (Eq.trans ?_ (if_pos (by decide)).symm)
    rw [m16]
    by_cases hh : Int.tmod x 65536 ≥ 32768
    · rw [show refN 20 x = wrap64 (Int.tmod x 65536 - 65536) from if_pos ⟨by decide, hh⟩, t16, w64 (by omega), if_pos (by omega)]
    · rw [show refN 20 x = Int.tmod x 65536 from if_neg (fun h => hh h.2), t16, if_neg (by omega)]
  | 21, _ =>
    have e1 : takeN 21 (isaForm 21).2.2.1 (isaForm 21).2.2.2 x = if (-32768 : Int) < 0 ∧ 32767 < bits BinOp.and IntKind.u32 x 65535 then bits BinOp.and IntKind.u32 x 65535 - 65536 else bits BinOp.and IntKind.u32 x 65535 := if_pos (by decide)
    refine Eq.trans e1 (Eq.trans ?_ (if_pos (by decide)).symm)
    rw [m16]
    by_cases hh : Int.tmod x 65536 ≥ 32768
    · rw [show refN 21 x = wrap64 (Int.tmod x 65536 - 65536) from if_pos ⟨by decide, hh⟩, t16, w64 (by omega), if_pos (by omega)]
    · rw [show refN 21 x = Int.tmod x 65536 from if_neg (fun h => hh h.2), t16, if_neg (by omega)]
  | 22, _ =>
    have e1 : takeN 22 (isaForm 22).2.2.1 (isaForm 22).2.2.2 x = if (-1048576 : Int) < 0 ∧ 1048575 < bits BinOp.and IntKind.u32 x 2097151 then bits BinOp.and IntKind.u32 x 2097151 - 2097152 else bits BinOp.and IntKind.u32 x 2097151 := if_pos (by decide)
    refine Eq.trans e1 (Eq.trans ?_ (if_pos (by decide)).symm)
    rw [m21]
    by_cases hh : Int.tmod x 2097152 ≥ 1048576
    · rw [show refN 22 x = wrap64 (Int.tmod x 2097152 - 2097152) from if_pos ⟨by decide, hh⟩, t21, w64 (by omega), if_pos (by omega)]
    · rw [show refN 22 x = Int.tmod x 2097152 from if_neg (fun h => hh h.2), t21, if_neg (by omega)]
  | 23, _ => exact (by show (if (0 : Int) < 0 then _ else (0 : Int)) = if 23 = 24 ∨ hasN 23 = true then _ else (0 : Int); rw [if_neg (by decide), if_neg (by decide)])
  | 24, _ =>
    have e1 : takeN 24 (isaForm 24).2.2.1 (isaForm 24).2.2.2 x = if (1 : Int) < 0 ∧ 4 < bits BinOp.and IntKind.u32 x 65535 then bits BinOp.and IntKind.u32 x 65535 - 65536 else bits BinOp.and IntKind.u32 x 65535 := if_pos (by decide)
    refine Eq.trans e1 (Eq.trans ?_ (if_pos (by decide)).symm)
    rw [m16]
    rw [if_neg (by omega), show refN 24 x = Int.tmod x 65536 from if_neg (fun h => h.1 (by decide)), t16]
  | n + 25, h => exact absurd h (by omega)
theorem formName (kk : Nat) (hk : kk < 25) : ¬ (isaForm kk).1 = ⟨#[]⟩ := by
  match kk, hk with
  | 0, _ => exact (by decide)
  | 1, _ => exact (by decide)
  | 2, _ => exact (by decide)
  | 3, _ => exact (by decide)
  | 4, _ => exact (by decide)
  | 5, _ => exact (by decide)
  | 6, _ => exact (by decide)
  | 7, _ => exact (by decide)
  | 8, _ => exact (by decide)
  | 9, _ => exact (by decide)
  | 10, _ => exact (by decide)
  | 11, _ => exact (by decide)
  | 12, _ => exact (by decide)
  | 13, _ => exact (by decide)
  | 14, _ => exact (by decide)
  | 15, _ => exact (by decide)
  | 16, _ => exact (by decide)
  | 17, _ => exact (by decide)
  | 18, _ => exact (by decide)
  | 19, _ => exact (by decide)
  | 20, _ => exact (by decide)
  | 21, _ => exact (by decide)
  | 22, _ => exact (by decide)
  | 23, _ => exact (by decide)
  | 24, _ => exact (by decide)
  | n + 25, h => exact absurd h (by omega)
end Go.Proofs.YtcdeekfgdmckmaaDoor.Q
