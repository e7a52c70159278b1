/- The reference's Take (camletref39) of any word is the walk's. By wip/gen/isa_reftake.py. -/
import Derived.Test.YtcdeekfgdmckmaaDoorQx0
import Derived.Test.YtcdeekfgdmckmaaDoorQx10
import Derived.Test.YtcdeekfgdmckmaaDoorQx3
import Derived.Test.YtcdeekfgdmckmaaDoorQx4
import Derived.Test.YtcdeekfgdmckmaaDoorQx5
import Derived.Test.YtcdeekfgdmckmaaDoorQx6
import Derived.Test.YtcdeekfgdmckmaaDoorHisaForms
import Derived.Test.YtcdeekfgdmckmaaDoorHisaOf
import Derived.Test.YtcdeekfgdmckmaaDoorHisaPut
import Derived.Test.YtcdeekfgdmckmaaDoorHisaRight
import Derived.Test.YtcdeekfgdmckmaaDoorHisaTake
import Derived.Test.YtcdeekfgdmckmaaDoorIsaRef
import Derived.Test.YtcdeekfgdmckmaaDoorIsaRefPut
--@needs XIsaRefPut
--@needs XHisaTake
namespace Go.Proofs.YtcdeekfgdmckmaaDoor.Q
open Go.RowKit Go.Proofs.YtcdeekfgdmckmaaDoorW.PrintWords Go.Proofs.YtcdeekfgdmckmaaDoorW.PrintLast Go.Proofs.YtcdeekfgdmckmaaDoorW.PrintMore
attribute [local go_sem] max2_int min2_int max_two min_two max_three min_three max_four min_four   -- for this text's walks alone
set_option linter.unusedVariables false
set_option linter.unusedSimpArgs false

def takeFin (x k D A B N : Int) (r : Int × Int) : Option (Int × Int × Int × Int × Int × Bool) := if r.2 = 0 then (if r.1 = x then some (k, D, A, B, N, true) else some (0, 0, 0, 0, 0, false)) else some (0, 0, 0, 0, 0, false)
def fieldT (X p : Int) : Int := Int.tmod (wrap64 (Int.tdiv X p)) 32
theorem refTake_head0 (n : Nat) (x X q : Int) (hX : wrap64 x = X) (hq : wrap64 (Int.tdiv X 67108864) = q) : camletref39_Take.f (n + 90) x = (camletref39_name.f q).bind fun t139 => (if t139.toList = ([] : List UInt8) then (some (0, 0, 0, 0, 0, false)) else ((camletref39_span.f (n + 90) q).bind fun bt140 => ((camletref39_bits.f q).bind fun t142 => ((camletref39_power.f (n + 90) t142).bind fun t143 => (if t143 = 0 then (none) else (if bt140.1 < 0 then ((camletref39_power.f (n + 90) (wrap64 (t142 - 1))).bind fun t144 => (camletref39_Take.j0 (n + 90) x X (Int.tmod X t143) (decide ((Int.tmod X t143) ≥ t144)) q 0 0 0 0)) else (camletref39_Take.j0 (n + 90) x X (Int.tmod X t143) false q 0 0 0 0))))))) := by
  have hp : camletref39_power.f (n + 90) 26 = some 67108864 := by kernel_rfl
  unfold camletref39_Take.f
  rw [hp]
  simp only [Option.bind_some]
  rw [if_neg (by decide), hX, hq]
/-- the number's part: of the low bits, perhaps less what they turn round at -/
def refN (kk : Nat) (X : Int) : Int := if ¬ (kk ∈ ([2, 3, 13, 14, 15, 24] : List Nat)) ∧ (if kk = 22 then 1048576 else 32768) ≤ Int.tmod X (if kk = 22 then 2097152 else 65536) then wrap64 (Int.tmod X (if kk = 22 then 2097152 else 65536) - (if kk = 22 then 2097152 else 65536)) else Int.tmod X (if kk = 22 then 2097152 else 65536)
theorem j0_16 (n : Nat) (x X q : Int) (hb : camletref39_bits.f q = some 16) (b : Bool) : camletref39_Take.j0 (n + 90) x X (Int.tmod X 65536) b q 0 0 0 0 = if b = true then camletref39_Take.j1 (n + 89) x X (wrap64 (Int.tmod X 65536 - 65536)) q 0 0 0 0 else camletref39_Take.j1 (n + 89) x X (Int.tmod X 65536) q 0 0 0 0 := by
  have hp : camletref39_power.f (n + 89) 16 = some 65536 := by kernel_rfl
  rw [camletref39_Take.j0, hb]
  simp only [Option.bind_some]
  rw [hp]
  rfl
theorem j0_21 (n : Nat) (x X q : Int) (hb : camletref39_bits.f q = some 21) (b : Bool) : camletref39_Take.j0 (n + 90) x X (Int.tmod X 2097152) b q 0 0 0 0 = if b = true then camletref39_Take.j1 (n + 89) x X (wrap64 (Int.tmod X 2097152 - 2097152)) q 0 0 0 0 else camletref39_Take.j1 (n + 89) x X (Int.tmod X 2097152) q 0 0 0 0 := by
  have hp : camletref39_power.f (n + 89) 21 = some 2097152 := by kernel_rfl
  rw [camletref39_Take.j0, hb]
  simp only [Option.bind_some]
  rw [hp]
  rfl
theorem head_0 (n : Nat) (x X : Int) : ((camletref39_name.f 0).bind fun t139 => (if t139.toList = ([] : List UInt8) then (some (0, 0, 0, 0, 0, false)) else ((camletref39_span.f (n + 90) 0).bind fun bt140 => ((camletref39_bits.f 0).bind fun t142 => ((camletref39_power.f (n + 90) t142).bind fun t143 => (if t143 = 0 then (none) else (if bt140.1 < 0 then ((camletref39_power.f (n + 90) (wrap64 (t142 - 1))).bind fun t144 => (camletref39_Take.j0 (n + 90) x X (Int.tmod X t143) (decide ((Int.tmod X t143) ≥ t144)) 0 0 0 0 0)) else (camletref39_Take.j0 (n + 90) x X (Int.tmod X t143) false 0 0 0 0 0)))))))) = camletref39_Take.j1 (n + 89) x X (refN 0 X) 0 0 0 0 0 := by
  have e1 : (camletref39_span.f (n + 90) 0).map (fun t => decide (t.1 < 0)) = some true := by kernel_rfl
  obtain ⟨sp, hsp, hlow⟩ := Option.map_eq_some_iff.1 e1
  have e2 : camletref39_bits.f 0 = some 16 := by kernel_rfl
  have e3 : camletref39_power.f (n + 90) 16 = some 65536 := by kernel_rfl
  have e4 : camletref39_power.f (n + 90) (wrap64 (16 - 1)) = some 32768 := by kernel_rfl
  have e5 : ∃ s, camletref39_name.f 0 = some s ∧ s.toList ≠ [] := ⟨_, rfl, by rw [ByteArray.toList_eq]; decide⟩
  obtain ⟨s, hs1, hs2⟩ := e5
  rw [hs1, hsp, e2]
  simp only [Option.bind_some]
  rw [if_neg hs2, e3]
  simp only [Option.bind_some]
  rw [if_neg (by decide)]
  rw [if_pos (of_decide_eq_true hlow), e4]
  simp only [Option.bind_some]
  rw [j0_16 n x X 0 e2]
  by_cases hh : Int.tmod X 65536 ≥ 32768
  · rw [if_pos (decide_eq_true hh), show refN 0 X = wrap64 (Int.tmod X 65536 - 65536) from if_pos ⟨by decide, hh⟩]
  · rw [if_neg (by simpa using hh), show refN 0 X = Int.tmod X 65536 from if_neg (fun h => hh h.2)]
theorem head_1 (n : Nat) (x X : Int) : ((camletref39_name.f 1).bind fun t139 => (if t139.toList = ([] : List UInt8) then (some (0, 0, 0, 0, 0, false)) else ((camletref39_span.f (n + 90) 1).bind fun bt140 => ((camletref39_bits.f 1).bind fun t142 => ((camletref39_power.f (n + 90) t142).bind fun t143 => (if t143 = 0 then (none) else (if bt140.1 < 0 then ((camletref39_power.f (n + 90) (wrap64 (t142 - 1))).bind fun t144 => (camletref39_Take.j0 (n + 90) x X (Int.tmod X t143) (decide ((Int.tmod X t143) ≥ t144)) 1 0 0 0 0)) else (camletref39_Take.j0 (n + 90) x X (Int.tmod X t143) false 1 0 0 0 0)))))))) = camletref39_Take.j1 (n + 89) x X (refN 1 X) 1 0 0 0 0 := by
  have e1 : (camletref39_span.f (n + 90) 1).map (fun t => decide (t.1 < 0)) = some true := by kernel_rfl
  obtain ⟨sp, hsp, hlow⟩ := Option.map_eq_some_iff.1 e1
  have e2 : camletref39_bits.f 1 = some 16 := by kernel_rfl
  have e3 : camletref39_power.f (n + 90) 16 = some 65536 := by kernel_rfl
  have e4 : camletref39_power.f (n + 90) (wrap64 (16 - 1)) = some 32768 := by kernel_rfl
  have e5 : ∃ s, camletref39_name.f 1 = some s ∧ s.toList ≠ [] := ⟨_, rfl, by rw [ByteArray.toList_eq]; decide⟩
  obtain ⟨s, hs1, hs2⟩ := e5
  rw [hs1, hsp, e2]
  simp only [Option.bind_some]
  rw [if_neg hs2, e3]
  simp only [Option.bind_some]
  rw [if_neg (by decide)]
  rw [if_pos (of_decide_eq_true hlow), e4]
  simp only [Option.bind_some]
  rw [j0_16 n x X 1 e2]
  by_cases hh : Int.tmod X 65536 ≥ 32768
  · rw [if_pos (decide_eq_true hh), show refN 1 X = wrap64 (Int.tmod X 65536 - 65536) from if_pos ⟨by decide, hh⟩]
  · rw [if_neg (by simpa using hh), show refN 1 X = Int.tmod X 65536 from if_neg (fun h => hh h.2)]
theorem head_2 (n : Nat) (x X : Int) : ((camletref39_name.f 2).bind fun t139 => (if t139.toList = ([] : List UInt8) then (some (0, 0, 0, 0, 0, false)) else ((camletref39_span.f (n + 90) 2).bind fun bt140 => ((camletref39_bits.f 2).bind fun t142 => ((camletref39_power.f (n + 90) t142).bind fun t143 => (if t143 = 0 then (none) else (if bt140.1 < 0 then ((camletref39_power.f (n + 90) (wrap64 (t142 - 1))).bind fun t144 => (camletref39_Take.j0 (n + 90) x X (Int.tmod X t143) (decide ((Int.tmod X t143) ≥ t144)) 2 0 0 0 0)) else (camletref39_Take.j0 (n + 90) x X (Int.tmod X t143) false 2 0 0 0 0)))))))) = camletref39_Take.j1 (n + 89) x X (refN 2 X) 2 0 0 0 0 := by
  have e1 : (camletref39_span.f (n + 90) 2).map (fun t => decide (t.1 < 0)) = some false := by kernel_rfl
  obtain ⟨sp, hsp, hlow⟩ := Option.map_eq_some_iff.1 e1
  have e2 : camletref39_bits.f 2 = some 16 := by kernel_rfl
  have e3 : camletref39_power.f (n + 90) 16 = some 65536 := by kernel_rfl
  have e4 : camletref39_power.f (n + 90) (wrap64 (16 - 1)) = some 32768 := by kernel_rfl
  have e5 : ∃ s, camletref39_name.f 2 = some s ∧ s.toList ≠ [] := ⟨_, rfl, by rw [ByteArray.toList_eq]; decide⟩
  obtain ⟨s, hs1, hs2⟩ := e5
  rw [hs1, hsp, e2]
  simp only [Option.bind_some]
  rw [if_neg hs2, e3]
  simp only [Option.bind_some]
  rw [if_neg (by decide)]
  rw [if_neg (of_decide_eq_false hlow), j0_16 n x X 2 e2, if_neg (by decide), show refN 2 X = Int.tmod X 65536 from if_neg (fun h => h.1 (by decide))]
theorem head_3 (n : Nat) (x X : Int) : ((camletref39_name.f 3).bind fun t139 => (if t139.toList = ([] : List UInt8) then (some (0, 0, 0, 0, 0, false)) else ((camletref39_span.f (n + 90) 3).bind fun bt140 => ((camletref39_bits.f 3).bind fun t142 => ((camletref39_power.f (n + 90) t142).bind fun t143 => (if t143 = 0 then (none) else (if bt140.1 < 0 then ((camletref39_power.f (n + 90) (wrap64 (t142 - 1))).bind fun t144 => (camletref39_Take.j0 (n + 90) x X (Int.tmod X t143) (decide ((Int.tmod X t143) ≥ t144)) 3 0 0 0 0)) else (camletref39_Take.j0 (n + 90) x X (Int.tmod X t143) false 3 0 0 0 0)))))))) = camletref39_Take.j1 (n + 89) x X (refN 3 X) 3 0 0 0 0 := by
  have e1 : (camletref39_span.f (n + 90) 3).map (fun t => decide (t.1 < 0)) = some false := by kernel_rfl
  obtain ⟨sp, hsp, hlow⟩ := Option.map_eq_some_iff.1 e1
  have e2 : camletref39_bits.f 3 = some 16 := by kernel_rfl
  have e3 : camletref39_power.f (n + 90) 16 = some 65536 := by kernel_rfl
  have e4 : camletref39_power.f (n + 90) (wrap64 (16 - 1)) = some 32768 := by kernel_rfl
  have e5 : ∃ s, camletref39_name.f 3 = some s ∧ s.toList ≠ [] := ⟨_, rfl, by rw [ByteArray.toList_eq]; decide⟩
  obtain ⟨s, hs1, hs2⟩ := e5
  rw [hs1, hsp, e2]
  simp only [Option.bind_some]
  rw [if_neg hs2, e3]
  simp only [Option.bind_some]
  rw [if_neg (by decide)]
  rw [if_neg (of_decide_eq_false hlow), j0_16 n x X 3 e2, if_neg (by decide), show refN 3 X = Int.tmod X 65536 from if_neg (fun h => h.1 (by decide))]
theorem head_4 (n : Nat) (x X : Int) : ((camletref39_name.f 4).bind fun t139 => (if t139.toList = ([] : List UInt8) then (some (0, 0, 0, 0, 0, false)) else ((camletref39_span.f (n + 90) 4).bind fun bt140 => ((camletref39_bits.f 4).bind fun t142 => ((camletref39_power.f (n + 90) t142).bind fun t143 => (if t143 = 0 then (none) else (if bt140.1 < 0 then ((camletref39_power.f (n + 90) (wrap64 (t142 - 1))).bind fun t144 => (camletref39_Take.j0 (n + 90) x X (Int.tmod X t143) (decide ((Int.tmod X t143) ≥ t144)) 4 0 0 0 0)) else (camletref39_Take.j0 (n + 90) x X (Int.tmod X t143) false 4 0 0 0 0)))))))) = camletref39_Take.j1 (n + 89) x X (refN 4 X) 4 0 0 0 0 := by
  have e1 : (camletref39_span.f (n + 90) 4).map (fun t => decide (t.1 < 0)) = some true := by kernel_rfl
  obtain ⟨sp, hsp, hlow⟩ := Option.map_eq_some_iff.1 e1
  have e2 : camletref39_bits.f 4 = some 16 := by kernel_rfl
  have e3 : camletref39_power.f (n + 90) 16 = some 65536 := by kernel_rfl
  have e4 : camletref39_power.f (n + 90) (wrap64 (16 - 1)) = some 32768 := by kernel_rfl
  have e5 : ∃ s, camletref39_name.f 4 = some s ∧ s.toList ≠ [] := ⟨_, rfl, by rw [ByteArray.toList_eq]; decide⟩
  obtain ⟨s, hs1, hs2⟩ := e5
  rw [hs1, hsp, e2]
  simp only [Option.bind_some]
  rw [if_neg hs2, e3]
  simp only [Option.bind_some]
  rw [if_neg (by decide)]
  rw [if_pos (of_decide_eq_true hlow), e4]
  simp only [Option.bind_some]
  rw [j0_16 n x X 4 e2]
  by_cases hh : Int.tmod X 65536 ≥ 32768
  · rw [if_pos (decide_eq_true hh), show refN 4 X = wrap64 (Int.tmod X 65536 - 65536) from if_pos ⟨by decide, hh⟩]
  · rw [if_neg (by simpa using hh), show refN 4 X = Int.tmod X 65536 from if_neg (fun h => hh h.2)]
theorem head_5 (n : Nat) (x X : Int) : ((camletref39_name.f 5).bind fun t139 => (if t139.toList = ([] : List UInt8) then (some (0, 0, 0, 0, 0, false)) else ((camletref39_span.f (n + 90) 5).bind fun bt140 => ((camletref39_bits.f 5).bind fun t142 => ((camletref39_power.f (n + 90) t142).bind fun t143 => (if t143 = 0 then (none) else (if bt140.1 < 0 then ((camletref39_power.f (n + 90) (wrap64 (t142 - 1))).bind fun t144 => (camletref39_Take.j0 (n + 90) x X (Int.tmod X t143) (decide ((Int.tmod X t143) ≥ t144)) 5 0 0 0 0)) else (camletref39_Take.j0 (n + 90) x X (Int.tmod X t143) false 5 0 0 0 0)))))))) = camletref39_Take.j1 (n + 89) x X (refN 5 X) 5 0 0 0 0 := by
  have e1 : (camletref39_span.f (n + 90) 5).map (fun t => decide (t.1 < 0)) = some true := by kernel_rfl
  obtain ⟨sp, hsp, hlow⟩ := Option.map_eq_some_iff.1 e1
  have e2 : camletref39_bits.f 5 = some 16 := by kernel_rfl
  have e3 : camletref39_power.f (n + 90) 16 = some 65536 := by kernel_rfl
  have e4 : camletref39_power.f (n + 90) (wrap64 (16 - 1)) = some 32768 := by kernel_rfl
  have e5 : ∃ s, camletref39_name.f 5 = some s ∧ s.toList ≠ [] := ⟨_, rfl, by rw [ByteArray.toList_eq]; decide⟩
  obtain ⟨s, hs1, hs2⟩ := e5
  rw [hs1, hsp, e2]
  simp only [Option.bind_some]
  rw [if_neg hs2, e3]
  simp only [Option.bind_some]
  rw [if_neg (by decide)]
  rw [if_pos (of_decide_eq_true hlow), e4]
  simp only [Option.bind_some]
  rw [j0_16 n x X 5 e2]
  by_cases hh : Int.tmod X 65536 ≥ 32768
  · rw [if_pos (decide_eq_true hh), show refN 5 X = wrap64 (Int.tmod X 65536 - 65536) from if_pos ⟨by decide, hh⟩]
  · rw [if_neg (by simpa using hh), show refN 5 X = Int.tmod X 65536 from if_neg (fun h => hh h.2)]
theorem head_6 (n : Nat) (x X : Int) : ((camletref39_name.f 6).bind fun t139 => (if t139.toList = ([] : List UInt8) then (some (0, 0, 0, 0, 0, false)) else ((camletref39_span.f (n + 90) 6).bind fun bt140 => ((camletref39_bits.f 6).bind fun t142 => ((camletref39_power.f (n + 90) t142).bind fun t143 => (if t143 = 0 then (none) else (if bt140.1 < 0 then ((camletref39_power.f (n + 90) (wrap64 (t142 - 1))).bind fun t144 => (camletref39_Take.j0 (n + 90) x X (Int.tmod X t143) (decide ((Int.tmod X t143) ≥ t144)) 6 0 0 0 0)) else (camletref39_Take.j0 (n + 90) x X (Int.tmod X t143) false 6 0 0 0 0)))))))) = camletref39_Take.j1 (n + 89) x X (refN 6 X) 6 0 0 0 0 := by
  have e1 : (camletref39_span.f (n + 90) 6).map (fun t => decide (t.1 < 0)) = some true := by kernel_rfl
  obtain ⟨sp, hsp, hlow⟩ := Option.map_eq_some_iff.1 e1
  have e2 : camletref39_bits.f 6 = some 16 := by kernel_rfl
  have e3 : camletref39_power.f (n + 90) 16 = some 65536 := by kernel_rfl
  have e4 : camletref39_power.f (n + 90) (wrap64 (16 - 1)) = some 32768 := by kernel_rfl
  have e5 : ∃ s, camletref39_name.f 6 = some s ∧ s.toList ≠ [] := ⟨_, rfl, by rw [ByteArray.toList_eq]; decide⟩
  obtain ⟨s, hs1, hs2⟩ := e5
  rw [hs1, hsp, e2]
  simp only [Option.bind_some]
  rw [if_neg hs2, e3]
  simp only [Option.bind_some]
  rw [if_neg (by decide)]
  rw [if_pos (of_decide_eq_true hlow), e4]
  simp only [Option.bind_some]
  rw [j0_16 n x X 6 e2]
  by_cases hh : Int.tmod X 65536 ≥ 32768
  · rw [if_pos (decide_eq_true hh), show refN 6 X = wrap64 (Int.tmod X 65536 - 65536) from if_pos ⟨by decide, hh⟩]
  · rw [if_neg (by simpa using hh), show refN 6 X = Int.tmod X 65536 from if_neg (fun h => hh h.2)]
theorem head_7 (n : Nat) (x X : Int) : ((camletref39_name.f 7).bind fun t139 => (if t139.toList = ([] : List UInt8) then (some (0, 0, 0, 0, 0, false)) else ((camletref39_span.f (n + 90) 7).bind fun bt140 => ((camletref39_bits.f 7).bind fun t142 => ((camletref39_power.f (n + 90) t142).bind fun t143 => (if t143 = 0 then (none) else (if bt140.1 < 0 then ((camletref39_power.f (n + 90) (wrap64 (t142 - 1))).bind fun t144 => (camletref39_Take.j0 (n + 90) x X (Int.tmod X t143) (decide ((Int.tmod X t143) ≥ t144)) 7 0 0 0 0)) else (camletref39_Take.j0 (n + 90) x X (Int.tmod X t143) false 7 0 0 0 0)))))))) = camletref39_Take.j1 (n + 89) x X (refN 7 X) 7 0 0 0 0 := by
  have e1 : (camletref39_span.f (n + 90) 7).map (fun t => decide (t.1 < 0)) = some true := by kernel_rfl
  obtain ⟨sp, hsp, hlow⟩ := Option.map_eq_some_iff.1 e1
  have e2 : camletref39_bits.f 7 = some 16 := by kernel_rfl
  have e3 : camletref39_power.f (n + 90) 16 = some 65536 := by kernel_rfl
  have e4 : camletref39_power.f (n + 90) (wrap64 (16 - 1)) = some 32768 := by kernel_rfl
  have e5 : ∃ s, camletref39_name.f 7 = some s ∧ s.toList ≠ [] := ⟨_, rfl, by rw [ByteArray.toList_eq]; decide⟩
  obtain ⟨s, hs1, hs2⟩ := e5
  rw [hs1, hsp, e2]
  simp only [Option.bind_some]
  rw [if_neg hs2, e3]
  simp only [Option.bind_some]
  rw [if_neg (by decide)]
  rw [if_pos (of_decide_eq_true hlow), e4]
  simp only [Option.bind_some]
  rw [j0_16 n x X 7 e2]
  by_cases hh : Int.tmod X 65536 ≥ 32768
  · rw [if_pos (decide_eq_true hh), show refN 7 X = wrap64 (Int.tmod X 65536 - 65536) from if_pos ⟨by decide, hh⟩]
  · rw [if_neg (by simpa using hh), show refN 7 X = Int.tmod X 65536 from if_neg (fun h => hh h.2)]
theorem head_8 (n : Nat) (x X : Int) : ((camletref39_name.f 8).bind fun t139 => (if t139.toList = ([] : List UInt8) then (some (0, 0, 0, 0, 0, false)) else ((camletref39_span.f (n + 90) 8).bind fun bt140 => ((camletref39_bits.f 8).bind fun t142 => ((camletref39_power.f (n + 90) t142).bind fun t143 => (if t143 = 0 then (none) else (if bt140.1 < 0 then ((camletref39_power.f (n + 90) (wrap64 (t142 - 1))).bind fun t144 => (camletref39_Take.j0 (n + 90) x X (Int.tmod X t143) (decide ((Int.tmod X t143) ≥ t144)) 8 0 0 0 0)) else (camletref39_Take.j0 (n + 90) x X (Int.tmod X t143) false 8 0 0 0 0)))))))) = camletref39_Take.j1 (n + 89) x X (refN 8 X) 8 0 0 0 0 := by
  have e1 : (camletref39_span.f (n + 90) 8).map (fun t => decide (t.1 < 0)) = some true := by kernel_rfl
  obtain ⟨sp, hsp, hlow⟩ := Option.map_eq_some_iff.1 e1
  have e2 : camletref39_bits.f 8 = some 16 := by kernel_rfl
  have e3 : camletref39_power.f (n + 90) 16 = some 65536 := by kernel_rfl
  have e4 : camletref39_power.f (n + 90) (wrap64 (16 - 1)) = some 32768 := by kernel_rfl
  have e5 : ∃ s, camletref39_name.f 8 = some s ∧ s.toList ≠ [] := ⟨_, rfl, by rw [ByteArray.toList_eq]; decide⟩
  obtain ⟨s, hs1, hs2⟩ := e5
  rw [hs1, hsp, e2]
  simp only [Option.bind_some]
  rw [if_neg hs2, e3]
  simp only [Option.bind_some]
  rw [if_neg (by decide)]
  rw [if_pos (of_decide_eq_true hlow), e4]
  simp only [Option.bind_some]
  rw [j0_16 n x X 8 e2]
  by_cases hh : Int.tmod X 65536 ≥ 32768
  · rw [if_pos (decide_eq_true hh), show refN 8 X = wrap64 (Int.tmod X 65536 - 65536) from if_pos ⟨by decide, hh⟩]
  · rw [if_neg (by simpa using hh), show refN 8 X = Int.tmod X 65536 from if_neg (fun h => hh h.2)]
theorem head_9 (n : Nat) (x X : Int) : ((camletref39_name.f 9).bind fun t139 => (if t139.toList = ([] : List UInt8) then (some (0, 0, 0, 0, 0, false)) else ((camletref39_span.f (n + 90) 9).bind fun bt140 => ((camletref39_bits.f 9).bind fun t142 => ((camletref39_power.f (n + 90) t142).bind fun t143 => (if t143 = 0 then (none) else (if bt140.1 < 0 then ((camletref39_power.f (n + 90) (wrap64 (t142 - 1))).bind fun t144 => (camletref39_Take.j0 (n + 90) x X (Int.tmod X t143) (decide ((Int.tmod X t143) ≥ t144)) 9 0 0 0 0)) else (camletref39_Take.j0 (n + 90) x X (Int.tmod X t143) false 9 0 0 0 0)))))))) = camletref39_Take.j1 (n + 89) x X (refN 9 X) 9 0 0 0 0 := by
  have e1 : (camletref39_span.f (n + 90) 9).map (fun t => decide (t.1 < 0)) = some true := by kernel_rfl
  obtain ⟨sp, hsp, hlow⟩ := Option.map_eq_some_iff.1 e1
  have e2 : camletref39_bits.f 9 = some 16 := by kernel_rfl
  have e3 : camletref39_power.f (n + 90) 16 = some 65536 := by kernel_rfl
  have e4 : camletref39_power.f (n + 90) (wrap64 (16 - 1)) = some 32768 := by kernel_rfl
  have e5 : ∃ s, camletref39_name.f 9 = some s ∧ s.toList ≠ [] := ⟨_, rfl, by rw [ByteArray.toList_eq]; decide⟩
  obtain ⟨s, hs1, hs2⟩ := e5
  rw [hs1, hsp, e2]
  simp only [Option.bind_some]
  rw [if_neg hs2, e3]
  simp only [Option.bind_some]
  rw [if_neg (by decide)]
  rw [if_pos (of_decide_eq_true hlow), e4]
  simp only [Option.bind_some]
  rw [j0_16 n x X 9 e2]
  by_cases hh : Int.tmod X 65536 ≥ 32768
  · rw [if_pos (decide_eq_true hh), show refN 9 X = wrap64 (Int.tmod X 65536 - 65536) from if_pos ⟨by decide, hh⟩]
  · rw [if_neg (by simpa using hh), show refN 9 X = Int.tmod X 65536 from if_neg (fun h => hh h.2)]
theorem head_10 (n : Nat) (x X : Int) : ((camletref39_name.f 10).bind fun t139 => (if t139.toList = ([] : List UInt8) then (some (0, 0, 0, 0, 0, false)) else ((camletref39_span.f (n + 90) 10).bind fun bt140 => ((camletref39_bits.f 10).bind fun t142 => ((camletref39_power.f (n + 90) t142).bind fun t143 => (if t143 = 0 then (none) else (if bt140.1 < 0 then ((camletref39_power.f (n + 90) (wrap64 (t142 - 1))).bind fun t144 => (camletref39_Take.j0 (n + 90) x X (Int.tmod X t143) (decide ((Int.tmod X t143) ≥ t144)) 10 0 0 0 0)) else (camletref39_Take.j0 (n + 90) x X (Int.tmod X t143) false 10 0 0 0 0)))))))) = camletref39_Take.j1 (n + 89) x X (refN 10 X) 10 0 0 0 0 := by
  have e1 : (camletref39_span.f (n + 90) 10).map (fun t => decide (t.1 < 0)) = some true := by kernel_rfl
  obtain ⟨sp, hsp, hlow⟩ := Option.map_eq_some_iff.1 e1
  have e2 : camletref39_bits.f 10 = some 16 := by kernel_rfl
  have e3 : camletref39_power.f (n + 90) 16 = some 65536 := by kernel_rfl
  have e4 : camletref39_power.f (n + 90) (wrap64 (16 - 1)) = some 32768 := by kernel_rfl
  have e5 : ∃ s, camletref39_name.f 10 = some s ∧ s.toList ≠ [] := ⟨_, rfl, by rw [ByteArray.toList_eq]; decide⟩
  obtain ⟨s, hs1, hs2⟩ := e5
  rw [hs1, hsp, e2]
  simp only [Option.bind_some]
  rw [if_neg hs2, e3]
  simp only [Option.bind_some]
  rw [if_neg (by decide)]
  rw [if_pos (of_decide_eq_true hlow), e4]
  simp only [Option.bind_some]
  rw [j0_16 n x X 10 e2]
  by_cases hh : Int.tmod X 65536 ≥ 32768
  · rw [if_pos (decide_eq_true hh), show refN 10 X = wrap64 (Int.tmod X 65536 - 65536) from if_pos ⟨by decide, hh⟩]
  · rw [if_neg (by simpa using hh), show refN 10 X = Int.tmod X 65536 from if_neg (fun h => hh h.2)]
theorem head_11 (n : Nat) (x X : Int) : ((camletref39_name.f 11).bind fun t139 => (if t139.toList = ([] : List UInt8) then (some (0, 0, 0, 0, 0, false)) else ((camletref39_span.f (n + 90) 11).bind fun bt140 => ((camletref39_bits.f 11).bind fun t142 => ((camletref39_power.f (n + 90) t142).bind fun t143 => (if t143 = 0 then (none) else (if bt140.1 < 0 then ((camletref39_power.f (n + 90) (wrap64 (t142 - 1))).bind fun t144 => (camletref39_Take.j0 (n + 90) x X (Int.tmod X t143) (decide ((Int.tmod X t143) ≥ t144)) 11 0 0 0 0)) else (camletref39_Take.j0 (n + 90) x X (Int.tmod X t143) false 11 0 0 0 0)))))))) = camletref39_Take.j1 (n + 89) x X (refN 11 X) 11 0 0 0 0 := by
  have e1 : (camletref39_span.f (n + 90) 11).map (fun t => decide (t.1 < 0)) = some true := by kernel_rfl
  obtain ⟨sp, hsp, hlow⟩ := Option.map_eq_some_iff.1 e1
  have e2 : camletref39_bits.f 11 = some 16 := by kernel_rfl
  have e3 : camletref39_power.f (n + 90) 16 = some 65536 := by kernel_rfl
  have e4 : camletref39_power.f (n + 90) (wrap64 (16 - 1)) = some 32768 := by kernel_rfl
  have e5 : ∃ s, camletref39_name.f 11 = some s ∧ s.toList ≠ [] := ⟨_, rfl, by rw [ByteArray.toList_eq]; decide⟩
  obtain ⟨s, hs1, hs2⟩ := e5
  rw [hs1, hsp, e2]
  simp only [Option.bind_some]
  rw [if_neg hs2, e3]
  simp only [Option.bind_some]
  rw [if_neg (by decide)]
  rw [if_pos (of_decide_eq_true hlow), e4]
  simp only [Option.bind_some]
  rw [j0_16 n x X 11 e2]
  by_cases hh : Int.tmod X 65536 ≥ 32768
  · rw [if_pos (decide_eq_true hh), show refN 11 X = wrap64 (Int.tmod X 65536 - 65536) from if_pos ⟨by decide, hh⟩]
  · rw [if_neg (by simpa using hh), show refN 11 X = Int.tmod X 65536 from if_neg (fun h => hh h.2)]
theorem head_12 (n : Nat) (x X : Int) : ((camletref39_name.f 12).bind fun t139 => (if t139.toList = ([] : List UInt8) then (some (0, 0, 0, 0, 0, false)) else ((camletref39_span.f (n + 90) 12).bind fun bt140 => ((camletref39_bits.f 12).bind fun t142 => ((camletref39_power.f (n + 90) t142).bind fun t143 => (if t143 = 0 then (none) else (if bt140.1 < 0 then ((camletref39_power.f (n + 90) (wrap64 (t142 - 1))).bind fun t144 => (camletref39_Take.j0 (n + 90) x X (Int.tmod X t143) (decide ((Int.tmod X t143) ≥ t144)) 12 0 0 0 0)) else (camletref39_Take.j0 (n + 90) x X (Int.tmod X t143) false 12 0 0 0 0)))))))) = camletref39_Take.j1 (n + 89) x X (refN 12 X) 12 0 0 0 0 := by
  have e1 : (camletref39_span.f (n + 90) 12).map (fun t => decide (t.1 < 0)) = some true := by kernel_rfl
  obtain ⟨sp, hsp, hlow⟩ := Option.map_eq_some_iff.1 e1
  have e2 : camletref39_bits.f 12 = some 16 := by kernel_rfl
  have e3 : camletref39_power.f (n + 90) 16 = some 65536 := by kernel_rfl
  have e4 : camletref39_power.f (n + 90) (wrap64 (16 - 1)) = some 32768 := by kernel_rfl
  have e5 : ∃ s, camletref39_name.f 12 = some s ∧ s.toList ≠ [] := ⟨_, rfl, by rw [ByteArray.toList_eq]; decide⟩
  obtain ⟨s, hs1, hs2⟩ := e5
  rw [hs1, hsp, e2]
  simp only [Option.bind_some]
  rw [if_neg hs2, e3]
  simp only [Option.bind_some]
  rw [if_neg (by decide)]
  rw [if_pos (of_decide_eq_true hlow), e4]
  simp only [Option.bind_some]
  rw [j0_16 n x X 12 e2]
  by_cases hh : Int.tmod X 65536 ≥ 32768
  · rw [if_pos (decide_eq_true hh), show refN 12 X = wrap64 (Int.tmod X 65536 - 65536) from if_pos ⟨by decide, hh⟩]
  · rw [if_neg (by simpa using hh), show refN 12 X = Int.tmod X 65536 from if_neg (fun h => hh h.2)]
theorem head_13 (n : Nat) (x X : Int) : ((camletref39_name.f 13).bind fun t139 => (if t139.toList = ([] : List UInt8) then (some (0, 0, 0, 0, 0, false)) else ((camletref39_span.f (n + 90) 13).bind fun bt140 => ((camletref39_bits.f 13).bind fun t142 => ((camletref39_power.f (n + 90) t142).bind fun t143 => (if t143 = 0 then (none) else (if bt140.1 < 0 then ((camletref39_power.f (n + 90) (wrap64 (t142 - 1))).bind fun t144 => (camletref39_Take.j0 (n + 90) x X (Int.tmod X t143) (decide ((Int.tmod X t143) ≥ t144)) 13 0 0 0 0)) else (camletref39_Take.j0 (n + 90) x X (Int.tmod X t143) false 13 0 0 0 0)))))))) = camletref39_Take.j1 (n + 89) x X (refN 13 X) 13 0 0 0 0 := by
  have e1 : (camletref39_span.f (n + 90) 13).map (fun t => decide (t.1 < 0)) = some false := by kernel_rfl
  obtain ⟨sp, hsp, hlow⟩ := Option.map_eq_some_iff.1 e1
  have e2 : camletref39_bits.f 13 = some 16 := by kernel_rfl
  have e3 : camletref39_power.f (n + 90) 16 = some 65536 := by kernel_rfl
  have e4 : camletref39_power.f (n + 90) (wrap64 (16 - 1)) = some 32768 := by kernel_rfl
  have e5 : ∃ s, camletref39_name.f 13 = some s ∧ s.toList ≠ [] := ⟨_, rfl, by rw [ByteArray.toList_eq]; decide⟩
  obtain ⟨s, hs1, hs2⟩ := e5
  rw [hs1, hsp, e2]
  simp only [Option.bind_some]
  rw [if_neg hs2, e3]
  simp only [Option.bind_some]
  rw [if_neg (by decide)]
  rw [if_neg (of_decide_eq_false hlow), j0_16 n x X 13 e2, if_neg (by decide), show refN 13 X = Int.tmod X 65536 from if_neg (fun h => h.1 (by decide))]
theorem head_14 (n : Nat) (x X : Int) : ((camletref39_name.f 14).bind fun t139 => (if t139.toList = ([] : List UInt8) then (some (0, 0, 0, 0, 0, false)) else ((camletref39_span.f (n + 90) 14).bind fun bt140 => ((camletref39_bits.f 14).bind fun t142 => ((camletref39_power.f (n + 90) t142).bind fun t143 => (if t143 = 0 then (none) else (if bt140.1 < 0 then ((camletref39_power.f (n + 90) (wrap64 (t142 - 1))).bind fun t144 => (camletref39_Take.j0 (n + 90) x X (Int.tmod X t143) (decide ((Int.tmod X t143) ≥ t144)) 14 0 0 0 0)) else (camletref39_Take.j0 (n + 90) x X (Int.tmod X t143) false 14 0 0 0 0)))))))) = camletref39_Take.j1 (n + 89) x X (refN 14 X) 14 0 0 0 0 := by
  have e1 : (camletref39_span.f (n + 90) 14).map (fun t => decide (t.1 < 0)) = some false := by kernel_rfl
  obtain ⟨sp, hsp, hlow⟩ := Option.map_eq_some_iff.1 e1
  have e2 : camletref39_bits.f 14 = some 16 := by kernel_rfl
  have e3 : camletref39_power.f (n + 90) 16 = some 65536 := by kernel_rfl
  have e4 : camletref39_power.f (n + 90) (wrap64 (16 - 1)) = some 32768 := by kernel_rfl
  have e5 : ∃ s, camletref39_name.f 14 = some s ∧ s.toList ≠ [] := ⟨_, rfl, by rw [ByteArray.toList_eq]; decide⟩
  obtain ⟨s, hs1, hs2⟩ := e5
  rw [hs1, hsp, e2]
  simp only [Option.bind_some]
  rw [if_neg hs2, e3]
  simp only [Option.bind_some]
  rw [if_neg (by decide)]
  rw [if_neg (of_decide_eq_false hlow), j0_16 n x X 14 e2, if_neg (by decide), show refN 14 X = Int.tmod X 65536 from if_neg (fun h => h.1 (by decide))]
theorem head_15 (n : Nat) (x X : Int) : ((camletref39_name.f 15).bind fun t139 => (if t139.toList = ([] : List UInt8) then (some (0, 0, 0, 0, 0, false)) else ((camletref39_span.f (n + 90) 15).bind fun bt140 => ((camletref39_bits.f 15).bind fun t142 => ((camletref39_power.f (n + 90) t142).bind fun t143 => (if t143 = 0 then (none) else (if bt140.1 < 0 then ((camletref39_power.f (n + 90) (wrap64 (t142 - 1))).bind fun t144 => (camletref39_Take.j0 (n + 90) x X (Int.tmod X t143) (decide ((Int.tmod X t143) ≥ t144)) 15 0 0 0 0)) else (camletref39_Take.j0 (n + 90) x X (Int.tmod X t143) false 15 0 0 0 0)))))))) = camletref39_Take.j1 (n + 89) x X (refN 15 X) 15 0 0 0 0 := by
  have e1 : (camletref39_span.f (n + 90) 15).map (fun t => decide (t.1 < 0)) = some false := by kernel_rfl
  obtain ⟨sp, hsp, hlow⟩ := Option.map_eq_some_iff.1 e1
  have e2 : camletref39_bits.f 15 = some 16 := by kernel_rfl
  have e3 : camletref39_power.f (n + 90) 16 = some 65536 := by kernel_rfl
  have e4 : camletref39_power.f (n + 90) (wrap64 (16 - 1)) = some 32768 := by kernel_rfl
  have e5 : ∃ s, camletref39_name.f 15 = some s ∧ s.toList ≠ [] := ⟨_, rfl, by rw [ByteArray.toList_eq]; decide⟩
  obtain ⟨s, hs1, hs2⟩ := e5
  rw [hs1, hsp, e2]
  simp only [Option.bind_some]
  rw [if_neg hs2, e3]
  simp only [Option.bind_some]
  rw [if_neg (by decide)]
  rw [if_neg (of_decide_eq_false hlow), j0_16 n x X 15 e2, if_neg (by decide), show refN 15 X = Int.tmod X 65536 from if_neg (fun h => h.1 (by decide))]
theorem head_16 (n : Nat) (x X : Int) : ((camletref39_name.f 16).bind fun t139 => (if t139.toList = ([] : List UInt8) then (some (0, 0, 0, 0, 0, false)) else ((camletref39_span.f (n + 90) 16).bind fun bt140 => ((camletref39_bits.f 16).bind fun t142 => ((camletref39_power.f (n + 90) t142).bind fun t143 => (if t143 = 0 then (none) else (if bt140.1 < 0 then ((camletref39_power.f (n + 90) (wrap64 (t142 - 1))).bind fun t144 => (camletref39_Take.j0 (n + 90) x X (Int.tmod X t143) (decide ((Int.tmod X t143) ≥ t144)) 16 0 0 0 0)) else (camletref39_Take.j0 (n + 90) x X (Int.tmod X t143) false 16 0 0 0 0)))))))) = camletref39_Take.j1 (n + 89) x X (refN 16 X) 16 0 0 0 0 := by
  have e1 : (camletref39_span.f (n + 90) 16).map (fun t => decide (t.1 < 0)) = some true := by kernel_rfl
  obtain ⟨sp, hsp, hlow⟩ := Option.map_eq_some_iff.1 e1
  have e2 : camletref39_bits.f 16 = some 16 := by kernel_rfl
  have e3 : camletref39_power.f (n + 90) 16 = some 65536 := by kernel_rfl
  have e4 : camletref39_power.f (n + 90) (wrap64 (16 - 1)) = some 32768 := by kernel_rfl
  have e5 : ∃ s, camletref39_name.f 16 = some s ∧ s.toList ≠ [] := ⟨_, rfl, by rw [ByteArray.toList_eq]; decide⟩
  obtain ⟨s, hs1, hs2⟩ := e5
  rw [hs1, hsp, e2]
  simp only [Option.bind_some]
  rw [if_neg hs2, e3]
  simp only [Option.bind_some]
  rw [if_neg (by decide)]
  rw [if_pos (of_decide_eq_true hlow), e4]
  simp only [Option.bind_some]
  rw [j0_16 n x X 16 e2]
  by_cases hh : Int.tmod X 65536 ≥ 32768
  · rw [if_pos (decide_eq_true hh), show refN 16 X = wrap64 (Int.tmod X 65536 - 65536) from if_pos ⟨by decide, hh⟩]
  · rw [if_neg (by simpa using hh), show refN 16 X = Int.tmod X 65536 from if_neg (fun h => hh h.2)]
theorem head_17 (n : Nat) (x X : Int) : ((camletref39_name.f 17).bind fun t139 => (if t139.toList = ([] : List UInt8) then (some (0, 0, 0, 0, 0, false)) else ((camletref39_span.f (n + 90) 17).bind fun bt140 => ((camletref39_bits.f 17).bind fun t142 => ((camletref39_power.f (n + 90) t142).bind fun t143 => (if t143 = 0 then (none) else (if bt140.1 < 0 then ((camletref39_power.f (n + 90) (wrap64 (t142 - 1))).bind fun t144 => (camletref39_Take.j0 (n + 90) x X (Int.tmod X t143) (decide ((Int.tmod X t143) ≥ t144)) 17 0 0 0 0)) else (camletref39_Take.j0 (n + 90) x X (Int.tmod X t143) false 17 0 0 0 0)))))))) = camletref39_Take.j1 (n + 89) x X (refN 17 X) 17 0 0 0 0 := by
  have e1 : (camletref39_span.f (n + 90) 17).map (fun t => decide (t.1 < 0)) = some true := by kernel_rfl
  obtain ⟨sp, hsp, hlow⟩ := Option.map_eq_some_iff.1 e1
  have e2 : camletref39_bits.f 17 = some 16 := by kernel_rfl
  have e3 : camletref39_power.f (n + 90) 16 = some 65536 := by kernel_rfl
  have e4 : camletref39_power.f (n + 90) (wrap64 (16 - 1)) = some 32768 := by kernel_rfl
  have e5 : ∃ s, camletref39_name.f 17 = some s ∧ s.toList ≠ [] := ⟨_, rfl, by rw [ByteArray.toList_eq]; decide⟩
  obtain ⟨s, hs1, hs2⟩ := e5
  rw [hs1, hsp, e2]
  simp only [Option.bind_some]
  rw [if_neg hs2, e3]
  simp only [Option.bind_some]
  rw [if_neg (by decide)]
  rw [if_pos (of_decide_eq_true hlow), e4]
  simp only [Option.bind_some]
  rw [j0_16 n x X 17 e2]
  by_cases hh : Int.tmod X 65536 ≥ 32768
  · rw [if_pos (decide_eq_true hh), show refN 17 X = wrap64 (Int.tmod X 65536 - 65536) from if_pos ⟨by decide, hh⟩]
  · rw [if_neg (by simpa using hh), show refN 17 X = Int.tmod X 65536 from if_neg (fun h => hh h.2)]
theorem head_18 (n : Nat) (x X : Int) : ((camletref39_name.f 18).bind fun t139 => (if t139.toList = ([] : List UInt8) then (some (0, 0, 0, 0, 0, false)) else ((camletref39_span.f (n + 90) 18).bind fun bt140 => ((camletref39_bits.f 18).bind fun t142 => ((camletref39_power.f (n + 90) t142).bind fun t143 => (if t143 = 0 then (none) else (if bt140.1 < 0 then ((camletref39_power.f (n + 90) (wrap64 (t142 - 1))).bind fun t144 => (camletref39_Take.j0 (n + 90) x X (Int.tmod X t143) (decide ((Int.tmod X t143) ≥ t144)) 18 0 0 0 0)) else (camletref39_Take.j0 (n + 90) x X (Int.tmod X t143) false 18 0 0 0 0)))))))) = camletref39_Take.j1 (n + 89) x X (refN 18 X) 18 0 0 0 0 := by
  have e1 : (camletref39_span.f (n + 90) 18).map (fun t => decide (t.1 < 0)) = some true := by kernel_rfl
  obtain ⟨sp, hsp, hlow⟩ := Option.map_eq_some_iff.1 e1
  have e2 : camletref39_bits.f 18 = some 16 := by kernel_rfl
  have e3 : camletref39_power.f (n + 90) 16 = some 65536 := by kernel_rfl
  have e4 : camletref39_power.f (n + 90) (wrap64 (16 - 1)) = some 32768 := by kernel_rfl
  have e5 : ∃ s, camletref39_name.f 18 = some s ∧ s.toList ≠ [] := ⟨_, rfl, by rw [ByteArray.toList_eq]; decide⟩
  obtain ⟨s, hs1, hs2⟩ := e5
  rw [hs1, hsp, e2]
  simp only [Option.bind_some]
  rw [if_neg hs2, e3]
  simp only [Option.bind_some]
  rw [if_neg (by decide)]
  rw [if_pos (of_decide_eq_true hlow), e4]
  simp only [Option.bind_some]
  rw [j0_16 n x X 18 e2]
  by_cases hh : Int.tmod X 65536 ≥ 32768
  · rw [if_pos (decide_eq_true hh), show refN 18 X = wrap64 (Int.tmod X 65536 - 65536) from if_pos ⟨by decide, hh⟩]
  · rw [if_neg (by simpa using hh), show refN 18 X = Int.tmod X 65536 from if_neg (fun h => hh h.2)]
theorem head_19 (n : Nat) (x X : Int) : ((camletref39_name.f 19).bind fun t139 => (if t139.toList = ([] : List UInt8) then (some (0, 0, 0, 0, 0, false)) else ((camletref39_span.f (n + 90) 19).bind fun bt140 => ((camletref39_bits.f 19).bind fun t142 => ((camletref39_power.f (n + 90) t142).bind fun t143 => (if t143 = 0 then (none) else (if bt140.1 < 0 then ((camletref39_power.f (n + 90) (wrap64 (t142 - 1))).bind fun t144 => (camletref39_Take.j0 (n + 90) x X (Int.tmod X t143) (decide ((Int.tmod X t143) ≥ t144)) 19 0 0 0 0)) else (camletref39_Take.j0 (n + 90) x X (Int.tmod X t143) false 19 0 0 0 0)))))))) = camletref39_Take.j1 (n + 89) x X (refN 19 X) 19 0 0 0 0 := by
  have e1 : (camletref39_span.f (n + 90) 19).map (fun t => decide (t.1 < 0)) = some true := by kernel_rfl
  obtain ⟨sp, hsp, hlow⟩ := Option.map_eq_some_iff.1 e1
  have e2 : camletref39_bits.f 19 = some 16 := by kernel_rfl
  have e3 : camletref39_power.f (n + 90) 16 = some 65536 := by kernel_rfl
  have e4 : camletref39_power.f (n + 90) (wrap64 (16 - 1)) = some 32768 := by kernel_rfl
  have e5 : ∃ s, camletref39_name.f 19 = some s ∧ s.toList ≠ [] := ⟨_, rfl, by rw [ByteArray.toList_eq]; decide⟩
  obtain ⟨s, hs1, hs2⟩ := e5
  rw [hs1, hsp, e2]
  simp only [Option.bind_some]
  rw [if_neg hs2, e3]
  simp only [Option.bind_some]
  rw [if_neg (by decide)]
  rw [if_pos (of_decide_eq_true hlow), e4]
  simp only [Option.bind_some]
  rw [j0_16 n x X 19 e2]
  by_cases hh : Int.tmod X 65536 ≥ 32768
  · rw [if_pos (decide_eq_true hh), show refN 19 X = wrap64 (Int.tmod X 65536 - 65536) from if_pos ⟨by decide, hh⟩]
  · rw [if_neg (by simpa using hh), show refN 19 X = Int.tmod X 65536 from if_neg (fun h => hh h.2)]
theorem head_20 (n : Nat) (x X : Int) : ((camletref39_name.f 20).bind fun t139 => (if t139.toList = ([] : List UInt8) then (some (0, 0, 0, 0, 0, false)) else ((camletref39_span.f (n + 90) 20).bind fun bt140 => ((camletref39_bits.f 20).bind fun t142 => ((camletref39_power.f (n + 90) t142).bind fun t143 => (if t143 = 0 then (none) else (if bt140.1 < 0 then ((camletref39_power.f (n + 90) (wrap64 (t142 - 1))).bind fun t144 => (camletref39_Take.j0 (n + 90) x X (Int.tmod X t143) (decide ((Int.tmod X t143) ≥ t144)) 20 0 0 0 0)) else (camletref39_Take.j0 (n + 90) x X (Int.tmod X t143) false 20 0 0 0 0)))))))) = camletref39_Take.j1 (n + 89) x X (refN 20 X) 20 0 0 0 0 := by
  have e1 : (camletref39_span.f (n + 90) 20).map (fun t => decide (t.1 < 0)) = some true := by kernel_rfl
  obtain ⟨sp, hsp, hlow⟩ := Option.map_eq_some_iff.1 e1
  have e2 : camletref39_bits.f 20 = some 16 := by kernel_rfl
  have e3 : camletref39_power.f (n + 90) 16 = some 65536 := by kernel_rfl
  have e4 : camletref39_power.f (n + 90) (wrap64 (16 - 1)) = some 32768 := by kernel_rfl
  have e5 : ∃ s, camletref39_name.f 20 = some s ∧ s.toList ≠ [] := ⟨_, rfl, by rw [ByteArray.toList_eq]; decide⟩
  obtain ⟨s, hs1, hs2⟩ := e5
  rw [hs1, hsp, e2]
  simp only [Option.bind_some]
  rw [if_neg hs2, e3]
  simp only [Option.bind_some]
  rw [if_neg (by decide)]
  rw [if_pos (of_decide_eq_true hlow), e4]
  simp only [Option.bind_some]
  rw [j0_16 n x X 20 e2]
  by_cases hh : Int.tmod X 65536 ≥ 32768
  · rw [if_pos (decide_eq_true hh), show refN 20 X = wrap64 (Int.tmod X 65536 - 65536) from if_pos ⟨by decide, hh⟩]
  · rw [if_neg (by simpa using hh), show refN 20 X = Int.tmod X 65536 from if_neg (fun h => hh h.2)]
theorem head_21 (n : Nat) (x X : Int) : ((camletref39_name.f 21).bind fun t139 => (if t139.toList = ([] : List UInt8) then (some (0, 0, 0, 0, 0, false)) else ((camletref39_span.f (n + 90) 21).bind fun bt140 => ((camletref39_bits.f 21).bind fun t142 => ((camletref39_power.f (n + 90) t142).bind fun t143 => (if t143 = 0 then (none) else (if bt140.1 < 0 then ((camletref39_power.f (n + 90) (wrap64 (t142 - 1))).bind fun t144 => (camletref39_Take.j0 (n + 90) x X (Int.tmod X t143) (decide ((Int.tmod X t143) ≥ t144)) 21 0 0 0 0)) else (camletref39_Take.j0 (n + 90) x X (Int.tmod X t143) false 21 0 0 0 0)))))))) = camletref39_Take.j1 (n + 89) x X (refN 21 X) 21 0 0 0 0 := by
  have e1 : (camletref39_span.f (n + 90) 21).map (fun t => decide (t.1 < 0)) = some true := by kernel_rfl
  obtain ⟨sp, hsp, hlow⟩ := Option.map_eq_some_iff.1 e1
  have e2 : camletref39_bits.f 21 = some 16 := by kernel_rfl
  have e3 : camletref39_power.f (n + 90) 16 = some 65536 := by kernel_rfl
  have e4 : camletref39_power.f (n + 90) (wrap64 (16 - 1)) = some 32768 := by kernel_rfl
  have e5 : ∃ s, camletref39_name.f 21 = some s ∧ s.toList ≠ [] := ⟨_, rfl, by rw [ByteArray.toList_eq]; decide⟩
  obtain ⟨s, hs1, hs2⟩ := e5
  rw [hs1, hsp, e2]
  simp only [Option.bind_some]
  rw [if_neg hs2, e3]
  simp only [Option.bind_some]
  rw [if_neg (by decide)]
  rw [if_pos (of_decide_eq_true hlow), e4]
  simp only [Option.bind_some]
  rw [j0_16 n x X 21 e2]
  by_cases hh : Int.tmod X 65536 ≥ 32768
  · rw [if_pos (decide_eq_true hh), show refN 21 X = wrap64 (Int.tmod X 65536 - 65536) from if_pos ⟨by decide, hh⟩]
  · rw [if_neg (by simpa using hh), show refN 21 X = Int.tmod X 65536 from if_neg (fun h => hh h.2)]
theorem head_22 (n : Nat) (x X : Int) : ((camletref39_name.f 22).bind fun t139 => (if t139.toList = ([] : List UInt8) then (some (0, 0, 0, 0, 0, false)) else ((camletref39_span.f (n + 90) 22).bind fun bt140 => ((camletref39_bits.f 22).bind fun t142 => ((camletref39_power.f (n + 90) t142).bind fun t143 => (if t143 = 0 then (none) else (if bt140.1 < 0 then ((camletref39_power.f (n + 90) (wrap64 (t142 - 1))).bind fun t144 => (camletref39_Take.j0 (n + 90) x X (Int.tmod X t143) (decide ((Int.tmod X t143) ≥ t144)) 22 0 0 0 0)) else (camletref39_Take.j0 (n + 90) x X (Int.tmod X t143) false 22 0 0 0 0)))))))) = camletref39_Take.j1 (n + 89) x X (refN 22 X) 22 0 0 0 0 := by
  have e1 : (camletref39_span.f (n + 90) 22).map (fun t => decide (t.1 < 0)) = some true := by kernel_rfl
  obtain ⟨sp, hsp, hlow⟩ := Option.map_eq_some_iff.1 e1
  have e2 : camletref39_bits.f 22 = some 21 := by kernel_rfl
  have e3 : camletref39_power.f (n + 90) 21 = some 2097152 := by kernel_rfl
  have e4 : camletref39_power.f (n + 90) (wrap64 (21 - 1)) = some 1048576 := by kernel_rfl
  have e5 : ∃ s, camletref39_name.f 22 = some s ∧ s.toList ≠ [] := ⟨_, rfl, by rw [ByteArray.toList_eq]; decide⟩
  obtain ⟨s, hs1, hs2⟩ := e5
  rw [hs1, hsp, e2]
  simp only [Option.bind_some]
  rw [if_neg hs2, e3]
  simp only [Option.bind_some]
  rw [if_neg (by decide)]
  rw [if_pos (of_decide_eq_true hlow), e4]
  simp only [Option.bind_some]
  rw [j0_21 n x X 22 e2]
  by_cases hh : Int.tmod X 2097152 ≥ 1048576
  · rw [if_pos (decide_eq_true hh), show refN 22 X = wrap64 (Int.tmod X 2097152 - 2097152) from if_pos ⟨by decide, hh⟩]
  · rw [if_neg (by simpa using hh), show refN 22 X = Int.tmod X 2097152 from if_neg (fun h => hh h.2)]
theorem head_23 (n : Nat) (x X : Int) : ((camletref39_name.f 23).bind fun t139 => (if t139.toList = ([] : List UInt8) then (some (0, 0, 0, 0, 0, false)) else ((camletref39_span.f (n + 90) 23).bind fun bt140 => ((camletref39_bits.f 23).bind fun t142 => ((camletref39_power.f (n + 90) t142).bind fun t143 => (if t143 = 0 then (none) else (if bt140.1 < 0 then ((camletref39_power.f (n + 90) (wrap64 (t142 - 1))).bind fun t144 => (camletref39_Take.j0 (n + 90) x X (Int.tmod X t143) (decide ((Int.tmod X t143) ≥ t144)) 23 0 0 0 0)) else (camletref39_Take.j0 (n + 90) x X (Int.tmod X t143) false 23 0 0 0 0)))))))) = camletref39_Take.j1 (n + 89) x X (refN 23 X) 23 0 0 0 0 := by
  have e1 : (camletref39_span.f (n + 90) 23).map (fun t => decide (t.1 < 0)) = some true := by kernel_rfl
  obtain ⟨sp, hsp, hlow⟩ := Option.map_eq_some_iff.1 e1
  have e2 : camletref39_bits.f 23 = some 16 := by kernel_rfl
  have e3 : camletref39_power.f (n + 90) 16 = some 65536 := by kernel_rfl
  have e4 : camletref39_power.f (n + 90) (wrap64 (16 - 1)) = some 32768 := by kernel_rfl
  have e5 : ∃ s, camletref39_name.f 23 = some s ∧ s.toList ≠ [] := ⟨_, rfl, by rw [ByteArray.toList_eq]; decide⟩
  obtain ⟨s, hs1, hs2⟩ := e5
  rw [hs1, hsp, e2]
  simp only [Option.bind_some]
  rw [if_neg hs2, e3]
  simp only [Option.bind_some]
  rw [if_neg (by decide)]
  rw [if_pos (of_decide_eq_true hlow), e4]
  simp only [Option.bind_some]
  rw [j0_16 n x X 23 e2]
  by_cases hh : Int.tmod X 65536 ≥ 32768
  · rw [if_pos (decide_eq_true hh), show refN 23 X = wrap64 (Int.tmod X 65536 - 65536) from if_pos ⟨by decide, hh⟩]
  · rw [if_neg (by simpa using hh), show refN 23 X = Int.tmod X 65536 from if_neg (fun h => hh h.2)]
theorem head_24 (n : Nat) (x X : Int) : ((camletref39_name.f 24).bind fun t139 => (if t139.toList = ([] : List UInt8) then (some (0, 0, 0, 0, 0, false)) else ((camletref39_span.f (n + 90) 24).bind fun bt140 => ((camletref39_bits.f 24).bind fun t142 => ((camletref39_power.f (n + 90) t142).bind fun t143 => (if t143 = 0 then (none) else (if bt140.1 < 0 then ((camletref39_power.f (n + 90) (wrap64 (t142 - 1))).bind fun t144 => (camletref39_Take.j0 (n + 90) x X (Int.tmod X t143) (decide ((Int.tmod X t143) ≥ t144)) 24 0 0 0 0)) else (camletref39_Take.j0 (n + 90) x X (Int.tmod X t143) false 24 0 0 0 0)))))))) = camletref39_Take.j1 (n + 89) x X (refN 24 X) 24 0 0 0 0 := by
  have e1 : (camletref39_span.f (n + 90) 24).map (fun t => decide (t.1 < 0)) = some false := by kernel_rfl
  obtain ⟨sp, hsp, hlow⟩ := Option.map_eq_some_iff.1 e1
  have e2 : camletref39_bits.f 24 = some 16 := by kernel_rfl
  have e3 : camletref39_power.f (n + 90) 16 = some 65536 := by kernel_rfl
  have e4 : camletref39_power.f (n + 90) (wrap64 (16 - 1)) = some 32768 := by kernel_rfl
  have e5 : ∃ s, camletref39_name.f 24 = some s ∧ s.toList ≠ [] := ⟨_, rfl, by rw [ByteArray.toList_eq]; decide⟩
  obtain ⟨s, hs1, hs2⟩ := e5
  rw [hs1, hsp, e2]
  simp only [Option.bind_some]
  rw [if_neg hs2, e3]
  simp only [Option.bind_some]
  rw [if_neg (by decide)]
  rw [if_neg (of_decide_eq_false hlow), j0_16 n x X 24 e2, if_neg (by decide), show refN 24 X = Int.tmod X 65536 from if_neg (fun h => h.1 (by decide))]
theorem refTake_head (n : Nat) (x X : Int) (kk : Nat) (hk : kk < 25) (hX : wrap64 x = X) (hq : wrap64 (Int.tdiv X 67108864) = (kk : Int)) : camletref39_Take.f (n + 90) x = camletref39_Take.j1 (n + 89) x X (refN kk X) kk 0 0 0 0 := by
  rw [refTake_head0 n x X kk hX hq]
  clear hX hq
  match kk, hk with
  | 0, _ => exact head_0 n x X
  | 1, _ => exact head_1 n x X
  | 2, _ => exact head_2 n x X
  | 3, _ => exact head_3 n x X
  | 4, _ => exact head_4 n x X
  | 5, _ => exact head_5 n x X
  | 6, _ => exact head_6 n x X
  | 7, _ => exact head_7 n x X
  | 8, _ => exact head_8 n x X
  | 9, _ => exact head_9 n x X
  | 10, _ => exact head_10 n x X
  | 11, _ => exact head_11 n x X
  | 12, _ => exact head_12 n x X
  | 13, _ => exact head_13 n x X
  | 14, _ => exact head_14 n x X
  | 15, _ => exact head_15 n x X
  | 16, _ => exact head_16 n x X
  | 17, _ => exact head_17 n x X
  | 18, _ => exact head_18 n x X
  | 19, _ => exact head_19 n x X
  | 20, _ => exact head_20 n x X
  | 21, _ => exact head_21 n x X
  | 22, _ => exact head_22 n x X
  | 23, _ => exact head_23 n x X
  | 24, _ => exact head_24 n x X
  | n + 25, h => exact absurd h (by omega)
def fldOf (kk : Nat) (X : Int) : Int × Int × Int := ([(0, 0, 0), (fieldT X 2097152, 0, 0), (fieldT X 2097152, 0, 0), (fieldT X 2097152, fieldT X 65536, 0), (fieldT X 2097152, fieldT X 65536, fieldT X 2048), (fieldT X 2097152, fieldT X 65536, fieldT X 2048), (fieldT X 2097152, fieldT X 65536, fieldT X 2048), (fieldT X 2097152, fieldT X 65536, fieldT X 2048), (fieldT X 2097152, fieldT X 65536, fieldT X 2048), (fieldT X 2097152, fieldT X 65536, fieldT X 2048), (fieldT X 2097152, fieldT X 65536, fieldT X 2048), (fieldT X 2097152, fieldT X 65536, fieldT X 2048), (fieldT X 2097152, fieldT X 65536, fieldT X 2048), (fieldT X 2097152, fieldT X 65536, 0), (fieldT X 2097152, fieldT X 65536, 0), (fieldT X 2097152, fieldT X 65536, 0), (fieldT X 2097152, fieldT X 65536, 0), (fieldT X 2097152, fieldT X 65536, 0), (0, fieldT X 65536, fieldT X 2097152), (0, fieldT X 2097152, fieldT X 65536), (0, fieldT X 2097152, fieldT X 65536), (0, fieldT X 2097152, fieldT X 65536), (fieldT X 2097152, 0, 0), (fieldT X 2097152, fieldT X 65536, 0)] : List (Int × Int × Int)).getD kk (0, 0, 0)
def hasN (kk : Nat) : Bool := ([false, true, true, true, false, false, false, false, false, false, false, false, false, true, true, true, true, true, true, true, true, true, true, false] : List Bool).getD kk false
def lenL (kk : Nat) : Nat := ([0, 2, 2, 3, 3, 3, 3, 3, 3, 3, 3, 3, 3, 3, 3, 3, 3, 3, 3, 3, 3, 3, 2, 2] : List Nat).getD kk 0
theorem lenL_le (kk : Nat) (h : kk < 24) : lenL kk ≤ 3 := by
  match kk, h with
  | 0, _ => exact (by decide)
  | 1, _ => exact (by decide)
  | 2, _ => exact (by decide)
  | 3, _ => exact (by decide)
  | 4, _ => exact (by decide)
  | 5, _ => exact (by decide)
  | 6, _ => exact (by decide)
  | 7, _ => exact (by decide)
  | 8, _ => exact (by decide)
  | 9, _ => exact (by decide)
  | 10, _ => exact (by decide)
  | 11, _ => exact (by decide)
  | 12, _ => exact (by decide)
  | 13, _ => exact (by decide)
  | 14, _ => exact (by decide)
  | 15, _ => exact (by decide)
  | 16, _ => exact (by decide)
  | 17, _ => exact (by decide)
  | 18, _ => exact (by decide)
  | 19, _ => exact (by decide)
  | 20, _ => exact (by decide)
  | 21, _ => exact (by decide)
  | 22, _ => exact (by decide)
  | 23, _ => exact (by decide)
  | n + 24, h => exact absurd h (by omega)
theorem refTake_loop (n : Nat) (x X Nv : Int) (kk : Nat) (hk : kk < 24) : camletref39_Take.j1 (n + 89) x X Nv kk 0 0 0 0 = (camletref39_Put.f (n + (85 - lenL kk)) kk (fldOf kk X).1 (fldOf kk X).2.1 (fldOf kk X).2.2 (if hasN kk = true then Nv else 0)).bind (takeFin x kk (fldOf kk X).1 (fldOf kk X).2.1 (fldOf kk X).2.2 (if hasN kk = true then Nv else 0)) := by
  match kk, hk with
  | 0, _ => exact (by show camletref39_Take.j1 (n + 89) x X Nv 0 0 0 0 0 = (camletref39_Put.f (n + 85) 0 0 0 0 0).bind (takeFin x 0 0 0 0 0); kernel_rfl)
  | 1, _ => exact (by show camletref39_Take.j1 (n + 89) x X Nv 1 0 0 0 0 = (camletref39_Put.f (n + 83) 1 (fieldT X 2097152) 0 0 Nv).bind (takeFin x 1 (fieldT X 2097152) 0 0 Nv); kernel_rfl)
  | 2, _ => exact (by show camletref39_Take.j1 (n + 89) x X Nv 2 0 0 0 0 = (camletref39_Put.f (n + 83) 2 (fieldT X 2097152) 0 0 Nv).bind (takeFin x 2 (fieldT X 2097152) 0 0 Nv); kernel_rfl)
  | 3, _ => exact (by show camletref39_Take.j1 (n + 89) x X Nv 3 0 0 0 0 = (camletref39_Put.f (n + 82) 3 (fieldT X 2097152) (fieldT X 65536) 0 Nv).bind (takeFin x 3 (fieldT X 2097152) (fieldT X 65536) 0 Nv); kernel_rfl)
  | 4, _ => exact (by show camletref39_Take.j1 (n + 89) x X Nv 4 0 0 0 0 = (camletref39_Put.f (n + 82) 4 (fieldT X 2097152) (fieldT X 65536) (fieldT X 2048) 0).bind (takeFin x 4 (fieldT X 2097152) (fieldT X 65536) (fieldT X 2048) 0); kernel_rfl)
  | 5, _ => exact (by show camletref39_Take.j1 (n + 89) x X Nv 5 0 0 0 0 = (camletref39_Put.f (n + 82) 5 (fieldT X 2097152) (fieldT X 65536) (fieldT X 2048) 0).bind (takeFin x 5 (fieldT X 2097152) (fieldT X 65536) (fieldT X 2048) 0); kernel_rfl)
  | 6, _ => exact (by show camletref39_Take.j1 (n + 89) x X Nv 6 0 0 0 0 = (camletref39_Put.f (n + 82) 6 (fieldT X 2097152) (fieldT X 65536) (fieldT X 2048) 0).bind (takeFin x 6 (fieldT X 2097152) (fieldT X 65536) (fieldT X 2048) 0); kernel_rfl)
  | 7, _ => exact (by show camletref39_Take.j1 (n + 89) x X Nv 7 0 0 0 0 = (camletref39_Put.f (n + 82) 7 (fieldT X 2097152) (fieldT X 65536) (fieldT X 2048) 0).bind (takeFin x 7 (fieldT X 2097152) (fieldT X 65536) (fieldT X 2048) 0); kernel_rfl)
  | 8, _ => exact (by show camletref39_Take.j1 (n + 89) x X Nv 8 0 0 0 0 = (camletref39_Put.f (n + 82) 8 (fieldT X 2097152) (fieldT X 65536) (fieldT X 2048) 0).bind (takeFin x 8 (fieldT X 2097152) (fieldT X 65536) (fieldT X 2048) 0); kernel_rfl)
  | 9, _ => exact (by show camletref39_Take.j1 (n + 89) x X Nv 9 0 0 0 0 = (camletref39_Put.f (n + 82) 9 (fieldT X 2097152) (fieldT X 65536) (fieldT X 2048) 0).bind (takeFin x 9 (fieldT X 2097152) (fieldT X 65536) (fieldT X 2048) 0); kernel_rfl)
  | 10, _ => exact (by show camletref39_Take.j1 (n + 89) x X Nv 10 0 0 0 0 = (camletref39_Put.f (n + 82) 10 (fieldT X 2097152) (fieldT X 65536) (fieldT X 2048) 0).bind (takeFin x 10 (fieldT X 2097152) (fieldT X 65536) (fieldT X 2048) 0); kernel_rfl)
  | 11, _ => exact (by show camletref39_Take.j1 (n + 89) x X Nv 11 0 0 0 0 = (camletref39_Put.f (n + 82) 11 (fieldT X 2097152) (fieldT X 65536) (fieldT X 2048) 0).bind (takeFin x 11 (fieldT X 2097152) (fieldT X 65536) (fieldT X 2048) 0); kernel_rfl)
  | 12, _ => exact (by show camletref39_Take.j1 (n + 89) x X Nv 12 0 0 0 0 = (camletref39_Put.f (n + 82) 12 (fieldT X 2097152) (fieldT X 65536) (fieldT X 2048) 0).bind (takeFin x 12 (fieldT X 2097152) (fieldT X 65536) (fieldT X 2048) 0); kernel_rfl)
  | 13, _ => exact (by show camletref39_Take.j1 (n + 89) x X Nv 13 0 0 0 0 = (camletref39_Put.f (n + 82) 13 (fieldT X 2097152) (fieldT X 65536) 0 Nv).bind (takeFin x 13 (fieldT X 2097152) (fieldT X 65536) 0 Nv); kernel_rfl)
  | 14, _ => exact (by show camletref39_Take.j1 (n + 89) x X Nv 14 0 0 0 0 = (camletref39_Put.f (n + 82) 14 (fieldT X 2097152) (fieldT X 65536) 0 Nv).bind (takeFin x 14 (fieldT X 2097152) (fieldT X 65536) 0 Nv); kernel_rfl)
  | 15, _ => exact (by show camletref39_Take.j1 (n + 89) x X Nv 15 0 0 0 0 = (camletref39_Put.f (n + 82) 15 (fieldT X 2097152) (fieldT X 65536) 0 Nv).bind (takeFin x 15 (fieldT X 2097152) (fieldT X 65536) 0 Nv); kernel_rfl)
  | 16, _ => exact (by show camletref39_Take.j1 (n + 89) x X Nv 16 0 0 0 0 = (camletref39_Put.f (n + 82) 16 (fieldT X 2097152) (fieldT X 65536) 0 Nv).bind (takeFin x 16 (fieldT X 2097152) (fieldT X 65536) 0 Nv); kernel_rfl)
  | 17, _ => exact (by show camletref39_Take.j1 (n + 89) x X Nv 17 0 0 0 0 = (camletref39_Put.f (n + 82) 17 (fieldT X 2097152) (fieldT X 65536) 0 Nv).bind (takeFin x 17 (fieldT X 2097152) (fieldT X 65536) 0 Nv); kernel_rfl)
  | 18, _ => exact (by show camletref39_Take.j1 (n + 89) x X Nv 18 0 0 0 0 = (camletref39_Put.f (n + 82) 18 0 (fieldT X 65536) (fieldT X 2097152) Nv).bind (takeFin x 18 0 (fieldT X 65536) (fieldT X 2097152) Nv); kernel_rfl)
  | 19, _ => exact (by show camletref39_Take.j1 (n + 89) x X Nv 19 0 0 0 0 = (camletref39_Put.f (n + 82) 19 0 (fieldT X 2097152) (fieldT X 65536) Nv).bind (takeFin x 19 0 (fieldT X 2097152) (fieldT X 65536) Nv); kernel_rfl)
  | 20, _ => exact (by show camletref39_Take.j1 (n + 89) x X Nv 20 0 0 0 0 = (camletref39_Put.f (n + 82) 20 0 (fieldT X 2097152) (fieldT X 65536) Nv).bind (takeFin x 20 0 (fieldT X 2097152) (fieldT X 65536) Nv); kernel_rfl)
  | 21, _ => exact (by show camletref39_Take.j1 (n + 89) x X Nv 21 0 0 0 0 = (camletref39_Put.f (n + 82) 21 0 (fieldT X 2097152) (fieldT X 65536) Nv).bind (takeFin x 21 0 (fieldT X 2097152) (fieldT X 65536) Nv); kernel_rfl)
  | 22, _ => exact (by show camletref39_Take.j1 (n + 89) x X Nv 22 0 0 0 0 = (camletref39_Put.f (n + 83) 22 (fieldT X 2097152) 0 0 Nv).bind (takeFin x 22 (fieldT X 2097152) 0 0 Nv); kernel_rfl)
  | 23, _ => exact (by show camletref39_Take.j1 (n + 89) x X Nv 23 0 0 0 0 = (camletref39_Put.f (n + 83) 23 (fieldT X 2097152) (fieldT X 65536) 0 0).bind (takeFin x 23 (fieldT X 2097152) (fieldT X 65536) 0 0); kernel_rfl)
  | n + 24, h => exact absurd h (by omega)
theorem sysHas_other (n : Nat) (N : Int) (h1 : ¬ N = 1) (h2 : ¬ N = 2) (h3 : ¬ N = 3) (h4 : ¬ N = 4) (D A B : Int) : camletref39_Has.f (n + 20) 24 D A B N = some ⟨#[78]⟩ := by
  show (if N = 1 then camletref39_Has.j3 (n + 17) N (N == 1) else camletref39_Has.j3 (n + 17) N (N == 4)) = _
  rw [if_neg h1, beq_eq_false_iff_ne.mpr h4]
  show (if N = 2 then _ else (if N = 3 then _ else _)) = _
  rw [if_neg h2, if_neg h3]
theorem refTake_S1 (n : Nat) (x X : Int) : camletref39_Take.j1 (n + 89) x X 1 24 0 0 0 0 = (camletref39_Put.f (n + 83) 24 0 (fieldT X 2097152) 0 1).bind (takeFin x 24 0 (fieldT X 2097152) 0 1) := by kernel_rfl
theorem refTake_S2 (n : Nat) (x X : Int) : camletref39_Take.j1 (n + 89) x X 2 24 0 0 0 0 = (camletref39_Put.f (n + 83) 24 (fieldT X 2097152) 0 0 2).bind (takeFin x 24 (fieldT X 2097152) 0 0 2) := by kernel_rfl
theorem refTake_S3 (n : Nat) (x X : Int) : camletref39_Take.j1 (n + 89) x X 3 24 0 0 0 0 = (camletref39_Put.f (n + 82) 24 (fieldT X 2097152) 0 (fieldT X 65536) 3).bind (takeFin x 24 (fieldT X 2097152) 0 (fieldT X 65536) 3) := by kernel_rfl
theorem refTake_S4 (n : Nat) (x X : Int) : camletref39_Take.j1 (n + 89) x X 4 24 0 0 0 0 = (camletref39_Put.f (n + 83) 24 0 (fieldT X 2097152) 0 4).bind (takeFin x 24 0 (fieldT X 2097152) 0 4) := by kernel_rfl
theorem refTake_Sx (n : Nat) (x X N : Int) (h1 : ¬ N = 1) (h2 : ¬ N = 2) (h3 : ¬ N = 3) (h4 : ¬ N = 4) : camletref39_Take.j1 (n + 89) x X N 24 0 0 0 0 = (camletref39_Put.f (n + 84) 24 0 0 0 N).bind (takeFin x 24 0 0 0 N) := by
  have hH := sysHas_other (n + 66) N h1 h2 h3 h4 0 0 0
  rw [show n + 66 + 20 = n + 86 by omega] at hH
  have e : ∀ s, s = some (⟨#[78]⟩ : ByteArray) → (s.bind fun t149 => camletref39_Take.l0 (n + 86) x X 21 t149 0 24 0 0 0 N) = (camletref39_Put.f (n + 84) 24 0 0 0 N).bind (takeFin x 24 0 0 0 N) := by
    rintro _ rfl
    kernel_rfl
  exact e _ hH
theorem and_mask (x : Int) (hx0 : 0 ≤ x) (hx1 : x < 4294967296) (b : Nat) (hb : b ≤ 31) : bits BinOp.and IntKind.u32 x ((2 ^ b - 1 : Nat) : Int) = x % ((2 ^ b : Nat) : Int) := by
  obtain ⟨m, rfl⟩ := Int.eq_ofNat_of_zero_le hx0
  have hp : 2 ^ b ≤ 2 ^ 31 := Nat.pow_le_pow_right (by decide) hb
  have := bits_and_u32_nat' m (2 ^ b - 1) (by omega) (by omega)
  show bits BinOp.and IntKind.u32 (m : Int) _ = _
  rw [this, Nat.and_two_pow_sub_one_eq_mod]
  push_cast
  rfl
theorem tb (x : Int) (hx0 : 0 ≤ x) (hx1 : x < 4294967296) (pos : Nat) (p : Int) (hp : (2 : Int) ^ (21 - 5 * (pos : Int)).toNat = p) (hp1 : 2048 ≤ p) (hp2 : p ≤ 2097152) : takeBits x pos = fieldT x p := by
  unfold takeBits fieldT
  rw [hp]
  have hq0 : 0 ≤ x / p := Int.ediv_nonneg hx0 (by omega)
  have hq1 : x / p < 4294967296 := Int.lt_of_le_of_lt (Int.ediv_le_self _ hx0) hx1
  have h1 := and_mask (x / p) hq0 hq1 5 (by decide)
  rw [show ((2 ^ 5 - 1 : Nat) : Int) = 31 from rfl, show ((2 ^ 5 : Nat) : Int) = 32 from rfl] at h1
  rw [h1, i64w _ (by omega), Int.tdiv_eq_ediv_of_nonneg hx0, w64 (by omega), Int.tmod_eq_emod_of_nonneg hq0]
theorem takeRegs (x : Int) (hx0 : 0 ≤ x) (hx1 : x < 4294967296) (N : Int) (kk : Nat) (hk : kk < 24) : takeGo x (isaOf kk N).2.1.data.toList 0 0 0 0 = fldOf kk x := by
  have t0 := tb x hx0 hx1 0 2097152 rfl (by decide) (by decide)
  have t1 := tb x hx0 hx1 1 65536 rfl (by decide) (by decide)
  have t2 := tb x hx0 hx1 2 2048 rfl (by decide) (by decide)
  match kk, hk with
  | 0, _ => exact (by show ((0, 0, 0) : Int × Int × Int) = (0, 0, 0); rfl)
  | 1, _ => exact (by show ((takeBits x 0, 0, 0) : Int × Int × Int) = (fieldT x 2097152, 0, 0); rw [t0])
  | 2, _ => exact (by show ((takeBits x 0, 0, 0) : Int × Int × Int) = (fieldT x 2097152, 0, 0); rw [t0])
  | 3, _ => exact (by show ((takeBits x 0, takeBits x 1, 0) : Int × Int × Int) = (fieldT x 2097152, fieldT x 65536, 0); rw [t0, t1])
  | 4, _ => exact (by show ((takeBits x 0, takeBits x 1, takeBits x 2) : Int × Int × Int) = (fieldT x 2097152, fieldT x 65536, fieldT x 2048); rw [t0, t1, t2])
  | 5, _ => exact (by show ((takeBits x 0, takeBits x 1, takeBits x 2) : Int × Int × Int) = (fieldT x 2097152, fieldT x 65536, fieldT x 2048); rw [t0, t1, t2])
  | 6, _ => exact (by show ((takeBits x 0, takeBits x 1, takeBits x 2) : Int × Int × Int) = (fieldT x 2097152, fieldT x 65536, fieldT x 2048); rw [t0, t1, t2])
  | 7, _ => exact (by show ((takeBits x 0, takeBits x 1, takeBits x 2) : Int × Int × Int) = (fieldT x 2097152, fieldT x 65536, fieldT x 2048); rw [t0, t1, t2])
  | 8, _ => exact (by show ((takeBits x 0, takeBits x 1, takeBits x 2) : Int × Int × Int) = (fieldT x 2097152, fieldT x 65536, fieldT x 2048); rw [t0, t1, t2])
  | 9, _ => exact (by show ((takeBits x 0, takeBits x 1, takeBits x 2) : Int × Int × Int) = (fieldT x 2097152, fieldT x 65536, fieldT x 2048); rw [t0, t1, t2])
  | 10, _ => exact (by show ((takeBits x 0, takeBits x 1, takeBits x 2) : Int × Int × Int) = (fieldT x 2097152, fieldT x 65536, fieldT x 2048); rw [t0, t1, t2])
  | 11, _ => exact (by show ((takeBits x 0, takeBits x 1, takeBits x 2) : Int × Int × Int) = (fieldT x 2097152, fieldT x 65536, fieldT x 2048); rw [t0, t1, t2])
  | 12, _ => exact (by show ((takeBits x 0, takeBits x 1, takeBits x 2) : Int × Int × Int) = (fieldT x 2097152, fieldT x 65536, fieldT x 2048); rw [t0, t1, t2])
  | 13, _ => exact (by show ((takeBits x 0, takeBits x 1, 0) : Int × Int × Int) = (fieldT x 2097152, fieldT x 65536, 0); rw [t0, t1])
  | 14, _ => exact (by show ((takeBits x 0, takeBits x 1, 0) : Int × Int × Int) = (fieldT x 2097152, fieldT x 65536, 0); rw [t0, t1])
  | 15, _ => exact (by show ((takeBits x 0, takeBits x 1, 0) : Int × Int × Int) = (fieldT x 2097152, fieldT x 65536, 0); rw [t0, t1])
  | 16, _ => exact (by show ((takeBits x 0, takeBits x 1, 0) : Int × Int × Int) = (fieldT x 2097152, fieldT x 65536, 0); rw [t0, t1])
  | 17, _ => exact (by show ((takeBits x 0, takeBits x 1, 0) : Int × Int × Int) = (fieldT x 2097152, fieldT x 65536, 0); rw [t0, t1])
  | 18, _ => exact (by show ((0, takeBits x 1, takeBits x 0) : Int × Int × Int) = (0, fieldT x 65536, fieldT x 2097152); rw [t0, t1])
  | 19, _ => exact (by show ((0, takeBits x 0, takeBits x 1) : Int × Int × Int) = (0, fieldT x 2097152, fieldT x 65536); rw [t0, t1])
  | 20, _ => exact (by show ((0, takeBits x 0, takeBits x 1) : Int × Int × Int) = (0, fieldT x 2097152, fieldT x 65536); rw [t0, t1])
  | 21, _ => exact (by show ((0, takeBits x 0, takeBits x 1) : Int × Int × Int) = (0, fieldT x 2097152, fieldT x 65536); rw [t0, t1])
  | 22, _ => exact (by show ((takeBits x 0, 0, 0) : Int × Int × Int) = (fieldT x 2097152, 0, 0); rw [t0])
  | 23, _ => exact (by show ((takeBits x 0, takeBits x 1, 0) : Int × Int × Int) = (fieldT x 2097152, fieldT x 65536, 0); rw [t0, t1])
  | n + 24, h => exact absurd h (by omega)
theorem takeN_lit (x : Int) (hx0 : 0 ≤ x) (hx1 : x < 4294967296) (kk : Nat) (hk : kk < 25) : takeN kk (isaForm kk).2.2.1 (isaForm kk).2.2.2 x = if kk = 24 ∨ hasN kk = true then refN kk x else 0 := by
  have m16 := and_mask x hx0 hx1 16 (by decide)
  have m21 := and_mask x hx0 hx1 21 (by decide)
  rw [show ((2 ^ 16 - 1 : Nat) : Int) = 65535 from rfl, show ((2 ^ 16 : Nat) : Int) = 65536 from rfl] at m16
  rw [show ((2 ^ 21 - 1 : Nat) : Int) = 2097151 from rfl, show ((2 ^ 21 : Nat) : Int) = 2097152 from rfl] at m21
  have t16 : Int.tmod x 65536 = x % 65536 := Int.tmod_eq_emod_of_nonneg hx0
  have t21 : Int.tmod x 2097152 = x % 2097152 := Int.tmod_eq_emod_of_nonneg hx0
  match kk, hk with
  | 0, _ => exact (by show (if (0 : Int) < 0 then _ else (0 : Int)) = if 0 = 24 ∨ hasN 0 = true then _ else (0 : Int); rw [if_neg (by decide), if_neg (by decide)])
  | 1, _ =>
    have e1 : takeN 1 (isaForm 1).2.2.1 (isaForm 1).2.2.2 x = if (-32768 : Int) < 0 ∧ 32767 < bits BinOp.and IntKind.u32 x 65535 then bits BinOp.and IntKind.u32 x 65535 - 65536 else bits BinOp.and IntKind.u32 x 65535 := if_pos (by decide)
    refine Eq.trans e1 (Eq.trans ?_ (if_pos (by decide)).symm)
    rw [m16]
    by_cases hh : Int.tmod x 65536 ≥ 32768
    · rw [show refN 1 x = wrap64 (Int.tmod x 65536 - 65536) from if_pos ⟨by decide, hh⟩, t16, w64 (by omega), if_pos (by omega)]
    · rw [show refN 1 x = Int.tmod x 65536 from if_neg (fun h => hh h.2), t16, if_neg (by omega)]
  | 2, _ =>
    have e1 : takeN 2 (isaForm 2).2.2.1 (isaForm 2).2.2.2 x = if (0 : Int) < 0 ∧ 65535 < bits BinOp.and IntKind.u32 x 65535 then bits BinOp.and IntKind.u32 x 65535 - 65536 else bits BinOp.and IntKind.u32 x 65535 := if_pos (by decide)
    refine Eq.trans e1 (Eq.trans ?_ (if_pos (by decide)).symm)
    rw [m16]
    rw [if_neg (by omega), show refN 2 x = Int.tmod x 65536 from if_neg (fun h => h.1 (by decide)), t16]
  | 3, _ =>
    have e1 : takeN 3 (isaForm 3).2.2.1 (isaForm 3).2.2.2 x = if (0 : Int) < 0 ∧ 65535 < bits BinOp.and IntKind.u32 x 65535 then bits BinOp.and IntKind.u32 x 65535 - 65536 else bits BinOp.and IntKind.u32 x 65535 := if_pos (by decide)
    refine Eq.trans e1 (Eq.trans ?_ (if_pos (by decide)).symm)
    rw [m16]
    rw [if_neg (by omega), show refN 3 x = Int.tmod x 65536 from if_neg (fun h => h.1 (by decide)), t16]
  | 4, _ => exact (by show (if (0 : Int) < 0 then _ else (0 : Int)) = if 4 = 24 ∨ hasN 4 = true then _ else (0 : Int); rw [if_neg (by decide), if_neg (by decide)])
  | 5, _ => exact (by show (if (0 : Int) < 0 then _ else (0 : Int)) = if 5 = 24 ∨ hasN 5 = true then _ else (0 : Int); rw [if_neg (by decide), if_neg (by decide)])
  | 6, _ => exact (by show (if (0 : Int) < 0 then _ else (0 : Int)) = if 6 = 24 ∨ hasN 6 = true then _ else (0 : Int); rw [if_neg (by decide), if_neg (by decide)])
  | 7, _ => exact (by show (if (0 : Int) < 0 then _ else (0 : Int)) = if 7 = 24 ∨ hasN 7 = true then _ else (0 : Int); rw [if_neg (by decide), if_neg (by decide)])
  | 8, _ => exact (by show (if (0 : Int) < 0 then _ else (0 : Int)) = if 8 = 24 ∨ hasN 8 = true then _ else (0 : Int); rw [if_neg (by decide), if_neg (by decide)])
  | 9, _ => exact (by show (if (0 : Int) < 0 then _ else (0 : Int)) = if 9 = 24 ∨ hasN 9 = true then _ else (0 : Int); rw [if_neg (by decide), if_neg (by decide)])
  | 10, _ => exact (by show (if (0 : Int) < 0 then _ else (0 : Int)) = if 10 = 24 ∨ hasN 10 = true then _ else (0 : Int); rw [if_neg (by decide), if_neg (by decide)])
  | 11, _ => exact (by show (if (0 : Int) < 0 then _ else (0 : Int)) = if 11 = 24 ∨ hasN 11 = true then _ else (0 : Int); rw [if_neg (by decide), if_neg (by decide)])
  | 12, _ => exact (by show (if (0 : Int) < 0 then _ else (0 : Int)) = if 12 = 24 ∨ hasN 12 = true then _ else (0 : Int); rw [if_neg (by decide), if_neg (by decide)])
  | 13, _ =>
    have e1 : takeN 13 (isaForm 13).2.2.1 (isaForm 13).2.2.2 x = if (0 : Int) < 0 ∧ 31 < bits BinOp.and IntKind.u32 x 65535 then bits BinOp.and IntKind.u32 x 65535 - 65536 else bits BinOp.and IntKind.u32 x 65535 := if_pos (by decide)
    refine Eq.trans e1 (Eq.trans ?_ (if_pos (by decide)).symm)
    rw [m16]
    rw [if_neg (by omega), show refN 13 x = Int.tmod x 65536 from if_neg (fun h => h.1 (by decide)), t16]
  | 14, _ =>
    have e1 : takeN 14 (isaForm 14).2.2.1 (isaForm 14).2.2.2 x = if (0 : Int) < 0 ∧ 31 < bits BinOp.and IntKind.u32 x 65535 then bits BinOp.and IntKind.u32 x 65535 - 65536 else bits BinOp.and IntKind.u32 x 65535 := if_pos (by decide)
    refine Eq.trans e1 (Eq.trans ?_ (if_pos (by decide)).symm)
    rw [m16]
    rw [if_neg (by omega), show refN 14 x = Int.tmod x 65536 from if_neg (fun h => h.1 (by decide)), t16]
  | 15, _ =>
    have e1 : takeN 15 (isaForm 15).2.2.1 (isaForm 15).2.2.2 x = if (0 : Int) < 0 ∧ 31 < bits BinOp.and IntKind.u32 x 65535 then bits BinOp.and IntKind.u32 x 65535 - 65536 else bits BinOp.and IntKind.u32 x 65535 := if_pos (by decide)
    refine Eq.trans e1 (Eq.trans ?_ (if_pos (by decide)).symm)
    rw [m16]
    rw [if_neg (by omega), show refN 15 x = Int.tmod x 65536 from if_neg (fun h => h.1 (by decide)), t16]
  | 16, _ =>
    have e1 : takeN 16 (isaForm 16).2.2.1 (isaForm 16).2.2.2 x = if (-32768 : Int) < 0 ∧ 32767 < bits BinOp.and IntKind.u32 x 65535 then bits BinOp.and IntKind.u32 x 65535 - 65536 else bits BinOp.and IntKind.u32 x 65535 := if_pos (by decide)
    refine Eq.trans e1 (Eq.trans ?_ (if_pos (by decide)).symm)
    rw [m16]
    by_cases hh : Int.tmod x 65536 ≥ 32768
    · rw [show refN 16 x = wrap64 (Int.tmod x 65536 - 65536) from if_pos ⟨by decide, hh⟩, t16, w64 (by omega), if_pos (by omega)]
    · rw [show refN 16 x = Int.tmod x 65536 from if_neg (fun h => hh h.2), t16, if_neg (by omega)]
  | 17, _ =>
    have e1 : takeN 17 (isaForm 17).2.2.1 (isaForm 17).2.2.2 x = if (-32768 : Int) < 0 ∧ 32767 < bits BinOp.and IntKind.u32 x 65535 then bits BinOp.and IntKind.u32 x 65535 - 65536 else bits BinOp.and IntKind.u32 x 65535 := if_pos (by decide)
    refine Eq.trans e1 (Eq.trans ?_ (if_pos (by decide)).symm)
    rw [m16]
    by_cases hh : Int.tmod x 65536 ≥ 32768
    · rw [show refN 17 x = wrap64 (Int.tmod x 65536 - 65536) from if_pos ⟨by decide, hh⟩, t16, w64 (by omega), if_pos (by omega)]
    · rw [show refN 17 x = Int.tmod x 65536 from if_neg (fun h => hh h.2), t16, if_neg (by omega)]
  | 18, _ =>
    have e1 : takeN 18 (isaForm 18).2.2.1 (isaForm 18).2.2.2 x = if (-32768 : Int) < 0 ∧ 32767 < bits BinOp.and IntKind.u32 x 65535 then bits BinOp.and IntKind.u32 x 65535 - 65536 else bits BinOp.and IntKind.u32 x 65535 := if_pos (by decide)
    refine Eq.trans e1 (Eq.trans ?_ (if_pos (by decide)).symm)
    rw [m16]
    by_cases hh : Int.tmod x 65536 ≥ 32768
    · rw [show refN 18 x = wrap64 (Int.tmod x 65536 - 65536) from if_pos ⟨by decide, hh⟩, t16, w64 (by omega), if_pos (by omega)]
    · rw [show refN 18 x = Int.tmod x 65536 from if_neg (fun h => hh h.2), t16, if_neg (by omega)]
  | 19, _ =>
    have e1 : takeN 19 (isaForm 19).2.2.1 (isaForm 19).2.2.2 x = if (-32768 : Int) < 0 ∧ 32767 < bits BinOp.and IntKind.u32 x 65535 then bits BinOp.and IntKind.u32 x 65535 - 65536 else bits BinOp.and IntKind.u32 x 65535 := if_pos (by decide)
    refine Eq.trans e1 (Eq.trans ?_ (if_pos (by decide)).symm)
    rw [m16]
    by_cases hh : Int.tmod x 65536 ≥ 32768
    · rw [show refN 19 x = wrap64 (Int.tmod x 65536 - 65536) from if_pos ⟨by decide, hh⟩, t16, w64 (by omega), if_pos (by omega)]
    · rw [show refN 19 x = Int.tmod x 65536 from if_neg (fun h => hh h.2), t16, if_neg (by omega)]
  | 20, _ =>
    have e1 : takeN 20 (isaForm 20).2.2.1 (isaForm 20).2.2.2 x = if (-32768 : Int) < 0 ∧ 32767 < bits BinOp.and IntKind.u32 x 65535 then bits BinOp.and IntKind.u32 x 65535 - 65536 else bits BinOp.and IntKind.u32 x 65535 := if_pos (by decide)
    refine Eq.trans e1 (Eq.trans ?_ (if_pos (by decide)).symm)
    rw [m16]
    by_cases hh : Int.tmod x 65536 ≥ 32768
    · rw [show refN 20 x = wrap64 (Int.tmod x 65536 - 65536) from if_pos ⟨by decide, hh⟩, t16, w64 (by omega), if_pos (by omega)]
    · rw [show refN 20 x = Int.tmod x 65536 from if_neg (fun h => hh h.2), t16, if_neg (by omega)]
  | 21, _ =>
    have e1 : takeN 21 (isaForm 21).2.2.1 (isaForm 21).2.2.2 x = if (-32768 : Int) < 0 ∧ 32767 < bits BinOp.and IntKind.u32 x 65535 then bits BinOp.and IntKind.u32 x 65535 - 65536 else bits BinOp.and IntKind.u32 x 65535 := if_pos (by decide)
    refine Eq.trans e1 (Eq.trans ?_ (if_pos (by decide)).symm)
    rw [m16]
    by_cases hh : Int.tmod x 65536 ≥ 32768
    · rw [show refN 21 x = wrap64 (Int.tmod x 65536 - 65536) from if_pos ⟨by decide, hh⟩, t16, w64 (by omega), if_pos (by omega)]
    · rw [show refN 21 x = Int.tmod x 65536 from if_neg (fun h => hh h.2), t16, if_neg (by omega)]
  | 22, _ =>
    have e1 : takeN 22 (isaForm 22).2.2.1 (isaForm 22).2.2.2 x = if (-1048576 : Int) < 0 ∧ 1048575 < bits BinOp.and IntKind.u32 x 2097151 then bits BinOp.and IntKind.u32 x 2097151 - 2097152 else bits BinOp.and IntKind.u32 x 2097151 := if_pos (by decide)
    refine Eq.trans e1 (Eq.trans ?_ (if_pos (by decide)).symm)
    rw [m21]
    by_cases hh : Int.tmod x 2097152 ≥ 1048576
    · rw [show refN 22 x = wrap64 (Int.tmod x 2097152 - 2097152) from if_pos ⟨by decide, hh⟩, t21, w64 (by omega), if_pos (by omega)]
    · rw [show refN 22 x = Int.tmod x 2097152 from if_neg (fun h => hh h.2), t21, if_neg (by omega)]
  | 23, _ => exact (by show (if (0 : Int) < 0 then _ else (0 : Int)) = if 23 = 24 ∨ hasN 23 = true then _ else (0 : Int); rw [if_neg (by decide), if_neg (by decide)])
  | 24, _ =>
    have e1 : takeN 24 (isaForm 24).2.2.1 (isaForm 24).2.2.2 x = if (1 : Int) < 0 ∧ 4 < bits BinOp.and IntKind.u32 x 65535 then bits BinOp.and IntKind.u32 x 65535 - 65536 else bits BinOp.and IntKind.u32 x 65535 := if_pos (by decide)
    refine Eq.trans e1 (Eq.trans ?_ (if_pos (by decide)).symm)
    rw [m16]
    rw [if_neg (by omega), show refN 24 x = Int.tmod x 65536 from if_neg (fun h => h.1 (by decide)), t16]
  | n + 25, h => exact absurd h (by omega)
theorem formName (kk : Nat) (hk : kk < 25) : ¬ (isaForm kk).1 = ⟨#[]⟩ := by
  match kk, hk with
  | 0, _ => exact (by decide)
  | 1, _ => exact (by decide)
  | 2, _ => exact (by decide)
  | 3, _ => exact (by decide)
  | 4, _ => exact (by decide)
  | 5, _ => exact (by decide)
  | 6, _ => exact (by decide)
  | 7, _ => exact (by decide)
  | 8, _ => exact (by decide)
  | 9, _ => exact (by decide)
  | 10, _ => exact (by decide)
  | 11, _ => exact (by decide)
  | 12, _ => exact (by decide)
  | 13, _ => exact (by decide)
  | 14, _ => exact (by decide)
  | 15, _ => exact (by decide)
  | 16, _ => exact (by decide)
  | 17, _ => exact (by decide)
  | 18, _ => exact (by decide)
  | 19, _ => exact (by decide)
  | 20, _ => exact (by decide)
  | 21, _ => exact (by decide)
  | 22, _ => exact (by decide)
  | 23, _ => exact (by decide)
  | 24, _ => exact (by decide)
  | n + 25, h => exact absurd h (by omega)
theorem put_fin (x k D A B N : Int) : (isa_Put.f k D A B N).bind (takeFin x k D A B N) = if isaRight k D A B N = true ∧ isaPut k D A B N = x then some (k, D, A, B, N, true) else some (0, 0, 0, 0, 0, false) := by
  unfold isa_Put.f takeFin
  by_cases hr : isaRight k D A B N = true
  · rw [if_pos hr]
    simp only [Option.bind_some, if_true]
    by_cases hx : isaPut k D A B N = x
    · rw [if_pos hx, if_pos ⟨hr, hx⟩]
    · rw [if_neg hx, if_neg (fun h => hx h.2)]
  · rw [if_neg hr, if_neg (fun h => hr h.1)]
    rfl
theorem refTake_eq (n : Nat) (x : Int) (hx0 : 0 ≤ x) (hx1 : x < 4294967296) : camletref39_Take.f (n + 90) x = isa_Take.f x := by
  have hX : wrap64 x = x := w64 (by omega)
  have hq : wrap64 (Int.tdiv x 67108864) = x / 67108864 := by rw [Int.tdiv_eq_ediv_of_nonneg hx0, w64 (by omega)]
  unfold isa_Take.f
  rw [if_pos ⟨hx0, hx1⟩]
  obtain ⟨kk, hkk⟩ : ∃ kk : Nat, x / 67108864 = (kk : Int) := ⟨(x / 67108864).toNat, by omega⟩
  rw [hkk] at hq ⊢
  by_cases hk : kk < 25
  · rw [if_neg (formName kk hk), refTake_head n x x kk hk hX hq]
    dsimp only
    have hN := takeN_lit x hx0 hx1 kk hk
    generalize takeN kk (isaForm kk).2.2.1 (isaForm kk).2.2.2 x = N at hN ⊢
    by_cases h24 : kk = 24
    · subst h24
      rw [if_pos (.inl rfl)] at hN
      rw [← hN]
      have t0 := tb x hx0 hx1 0 2097152 rfl (by decide) (by decide)
      have t1 := tb x hx0 hx1 1 65536 rfl (by decide) (by decide)
      by_cases h1 : N = 1
      · subst h1
        rw [show ((24 : Nat) : Int) = 24 from rfl, refTake_S1, show n + 83 = (n + 23) + 60 by omega, refPut_eq, put_fin, show takeGo x (isaOf 24 1).2.1.data.toList 0 0 0 0 = (0, takeBits x 0, 0) from rfl, t0]
      by_cases h2 : N = 2
      · subst h2
        rw [show ((24 : Nat) : Int) = 24 from rfl, refTake_S2, show n + 83 = (n + 23) + 60 by omega, refPut_eq, put_fin, show takeGo x (isaOf 24 2).2.1.data.toList 0 0 0 0 = (takeBits x 0, 0, 0) from rfl, t0]
      by_cases h3 : N = 3
      · subst h3
        rw [show ((24 : Nat) : Int) = 24 from rfl, refTake_S3, show n + 82 = (n + 22) + 60 by omega, refPut_eq, put_fin, show takeGo x (isaOf 24 3).2.1.data.toList 0 0 0 0 = (takeBits x 0, 0, takeBits x 1) from rfl, t0, t1]
      by_cases h4 : N = 4
      · subst h4
        rw [show ((24 : Nat) : Int) = 24 from rfl, refTake_S4, show n + 83 = (n + 23) + 60 by omega, refPut_eq, put_fin, show takeGo x (isaOf 24 4).2.1.data.toList 0 0 0 0 = (0, takeBits x 0, 0) from rfl, t0]
      · have hof : isaOf 24 N = isaForm 24 := by unfold isaOf; rw [if_neg (by omega)]
        rw [show ((24 : Nat) : Int) = 24 from rfl, refTake_Sx n x x N h1 h2 h3 h4, show n + 84 = (n + 24) + 60 by omega, refPut_eq, put_fin, hof, show takeGo x (isaForm 24).2.1.data.toList 0 0 0 0 = (0, 0, 0) from rfl]
    · have hl : 85 - lenL kk = (25 - lenL kk) + 60 := by
        have : lenL kk ≤ 3 := lenL_le kk (by omega)
        omega
      rw [refTake_loop n x x (refN kk x) kk (by omega), hl, ← Nat.add_assoc, refPut_eq, put_fin, takeRegs x hx0 hx1 N kk (by omega)]
      have hN2 : N = if hasN kk = true then refN kk x else 0 := by
        rw [hN]
        by_cases hh : hasN kk = true
        · rw [if_pos (.inr hh), if_pos hh]
        · rw [if_neg (by rintro (h | h); exact h24 h; exact hh h), if_neg hh]
      rw [← hN2]
  · have hf : isaForm kk = (⟨#[]⟩, ⟨#[]⟩, 0, 0) := if_neg (by omega)
    rw [hf, if_pos rfl, refTake_head0 n x x kk hX hq]
    have e : camletref39_name.f (kk : Int) = some ⟨#[]⟩ := by
      unfold camletref39_name.f
      simp only [Option.bind_some]
      rw [if_neg (by omega), if_pos (by simp; omega)]
    rw [e]
    simp only [Option.bind_some]
    rw [if_pos (by rw [ByteArray.toList_eq])]
end Go.Proofs.YtcdeekfgdmckmaaDoor.Q
