/- image.take. By wip/gen/img_take.py. -/
import Derived.Test.YtbjfchkfhbpclaaQx0
import Derived.Test.YtbjfchkfhbpclaaAw
import Derived.Test.YtbjfchkfhbpclaaAwFrame
import Derived.Test.YtbjfchkfhbpclaaAwSl
--@needs XAw
--@needs XAwSl
--@needs XAwFrame

import Derived.LoopTactic
import Derived.Deep.LoopGhost
import Derived.Lib.Hide
import Derived.Deep.QuietTactic
import Derived.BigQuiet
import Derived.IntWalk
namespace Go.Proofs.Ytbjfchkfhbpclaa.Q
open Go.RowKit Go.Proofs.YtbjfchkfhbpclaaW.PrintWords Go.Proofs.YtbjfchkfhbpclaaW.PrintLast Go.Proofs.YtbjfchkfhbpclaaW.PrintMore
attribute [local go_sem] max2_int min2_int max_two min_two max_three min_three max_four min_four   -- for this text's walks alone
set_option linter.unusedVariables false
set_option linter.unusedSimpArgs false

def num4 (l : List Int) : Int := rd l 0 * 16777216 + rd l 1 * 65536 + rd l 2 * 256 + rd l 3
theorem img_or (a b : Nat) (ha : a < 4294967296) (hb : b < 4294967296) : bits .or .u32 (a : Int) (b : Int) = ((a ||| b : Nat) : Int) := by
  have hx : a ||| b < 2 ^ 32 := Nat.or_lt_two_pow (by omega) (by omega)
  have e : bits .or .u32 (a : Int) (b : Int) = IntKind.u32.wrap ((BitVec.ofInt 32 (a : Int) ||| BitVec.ofInt 32 (b : Int)).toNat : Int) := rfl
  rw [e, BitVec.toNat_or, BitVec.ofInt_natCast, BitVec.ofInt_natCast, BitVec.toNat_ofNat, BitVec.toNat_ofNat, Nat.mod_eq_of_lt (by omega), Nat.mod_eq_of_lt (by omega)]
  simp [IntKind.wrap, IntKind.signed, IntKind.bits]
  omega
theorem img_or4 (a b c d : Int) (ha : 0 ≤ a ∧ a < 256) (hb : 0 ≤ b ∧ b < 256) (hc : 0 ≤ c ∧ c < 256) (hd : 0 ≤ d ∧ d < 256) : bits .or .u32 (bits .or .u32 (bits .or .u32 (a * 16777216) (b * 65536)) (c * 256)) d = a * 16777216 + b * 65536 + c * 256 + d := by
  obtain ⟨a, rfl⟩ := Int.eq_ofNat_of_zero_le ha.1
  obtain ⟨b, rfl⟩ := Int.eq_ofNat_of_zero_le hb.1
  obtain ⟨c, rfl⟩ := Int.eq_ofNat_of_zero_le hc.1
  obtain ⟨d, rfl⟩ := Int.eq_ofNat_of_zero_le hd.1
  have h1 : (a * 16777216) ||| (b * 65536) = a * 16777216 + b * 65536 := by
    have h := Nat.two_pow_add_eq_or_of_lt (i := 24) (b := b * 65536) (by simp only [Nat.reducePow]; omega) a
    simp only [Nat.reducePow] at h
    rw [show 16777216 * a = a * 16777216 from Nat.mul_comm _ _] at h
    exact h.symm
  have h2 : (a * 16777216 + b * 65536) ||| (c * 256) = a * 16777216 + b * 65536 + c * 256 := by
    have h := Nat.two_pow_add_eq_or_of_lt (i := 16) (b := c * 256) (by simp only [Nat.reducePow]; omega) (a * 256 + b)
    simp only [Nat.reducePow] at h
    rw [show 65536 * (a * 256 + b) = a * 16777216 + b * 65536 by omega] at h
    exact h.symm
  have h3 : (a * 16777216 + b * 65536 + c * 256) ||| d = a * 16777216 + b * 65536 + c * 256 + d := by
    have h := Nat.two_pow_add_eq_or_of_lt (i := 8) (b := d) (by simp only [Nat.reducePow]; omega) (a * 65536 + b * 256 + c)
    simp only [Nat.reducePow] at h
    rw [show 256 * (a * 65536 + b * 256 + c) = a * 16777216 + b * 65536 + c * 256 by omega] at h
    exact h.symm
  rw [show (a : Int) * 16777216 = ((a * 16777216 : Nat) : Int) by omega, show (b : Int) * 65536 = ((b * 65536 : Nat) : Int) by omega, show (c : Int) * 256 = ((c * 256 : Nat) : Int) by omega,
    img_or _ _ (by omega) (by omega), h1, img_or _ _ (by omega) (by omega), h2, img_or _ _ (by omega) (by omega), h3]
  omega
theorem rd_byte {l : List Int} (h : ∀ x ∈ l, 0 ≤ x ∧ x < 256) (i : Nat) : 0 ≤ rd l i ∧ rd l i < 256 := by
  unfold rd
  rw [Int.toNat_natCast, List.getD_eq_getElem?_getD]
  by_cases hl : i < l.length
  · rw [List.getElem?_eq_getElem hl]; exact h _ (List.getElem_mem hl)
  · rw [List.getElem?_eq_none (by omega)]; exact ⟨by decide, by decide⟩
section
variable {α : Type} {P : Program}
/-- a cut with a room of its own: from j to the end -/
theorem img_drop3 (enc : α → Value) (d : α) (t e : TypeId) {i : TypeInfo} (ht : P.underlying t = some (.slice e)) (hi : P.info? e = some i) (hsz : i.size = 1) (A : Option Addr) (c : Nat) (xs : List α) (j : Nat) (hm : j ≤ xs.length) (hc : xs.length ≤ c) :
    ∃ A' : Option Addr, (∀ W : World, (Instr.slice t (.slice A xs.length c) (some (.int .i64 (j : Int))) (some (.int .i64 (xs.length : Int))) (some (.int .i64 (xs.length : Int)))).run P W = .ok (.slice A' (xs.drop j).length (xs.drop j).length) W) ∧
      (∀ w : World, ReadsOf enc d w A xs.length xs → ReadsOf enc d w A' (xs.drop j).length (xs.drop j)) := by
  have hl : (xs.drop j).length = xs.length - j := List.length_drop
  refine ⟨if xs.length = j then A else A.map (·.add j), fun W => ?_, fun w h => ?_⟩
  · have hel : P.elem t = e := by simp [Program.elem, ht]
    have hu : P.underlying t = some (.slice (P.elem t)) := by rw [hel]; exact ht
    rw [run_slice_lhm W t A xs.length c hu .i64 .i64 .i64 (j : Int) xs.length xs.length (by omega) (by omega) (by omega) (by omega), hel, hl]
    simp [sizeOf, typeInfo, hi, hsz, sliced, Result.andThen]
  · have h2 := h.drop_ (c := xs.length) j (by omega) (by omega)
    rw [hl]
    exact h2
end
set_option maxHeartbeats 8000000 in
set_option maxRecDepth 100000 in
theorem img_take.calls {S : Nat → Prop} {w W : World} {R : List (Nat × Blk)} {rx : Nat} (A : Option Addr) (c : Nat) (l : List Int) (h4 : 4 ≤ l.length) (hl : l.length ≤ 1000000) (hby : ∀ x ∈ l, 0 ≤ x ∧ x < 256) (hr : ∀ W' v, Aw S w W' ((rx, .c 32 [v]) :: R) → Kd.C (Kd.int .u8) W' A l.length l) (hc : l.length ≤ c) (HA : Aw S w W ((rx, .c 32 [.slice A l.length c]) :: R)) :
    Calls Try.prog 27 #[.pointer (some ⟨rx, 0, none⟩)] W fun e W' => ∃ A', e = .returned (.int .u32 (num4 l)) ∧ Aw S w W' ((rx, .c 32 [.slice A' (l.drop 4).length (l.drop 4).length]) :: R) ∧ ∀ V, Kd.C (Kd.int .u8) V A l.length l → Kd.C (Kd.int .u8) V A' (l.drop 4).length (l.drop 4) := by
  obtain ⟨inf, hi, hsz⟩ := Option.map_eq_some_iff.1 (show (Try.prog.info? 5).map (·.size) = some 1 by kernel_rfl)
  obtain ⟨A', hcut, hread⟩ := img_drop3 (P := Try.prog) (Value.int .u8) 0 32 5 Try.underlying32 hi hsz A c l 4 h4 hc
  have hb0 := rd_byte hby 0
  have hb1 := rd_byte hby 1
  have hb2 := rd_byte hby 2
  have hb3 := rd_byte hby 3
  have HR := Lib.hid hr
  have HRD := Lib.hid hread
  have hO := img_or4 _ _ _ _ hb0 hb1 hb2 hb3
  obtain ⟨D, hD⟩ : ∃ D, l.drop 4 = D := ⟨_, rfl⟩
  rw [hD] at hcut HRD ⊢
  simp only [show ((4 : Nat) : Int) = 4 from rfl] at hcut
  have hN : rd l ((0 : Nat) : Int) * 16777216 + rd l ((1 : Nat) : Int) * 65536 + rd l ((2 : Nat) : Int) * 256 + rd l ((3 : Nat) : Int) = num4 l := rfl
  rw [hN] at hO
  obtain ⟨ad, e, x0⟩ := Kd.at_int (hr _ _ HA) 0 (by omega) (by omega)
  subst e
  have X := fun W' v (h : Aw S w W' ((rx, .c 32 [v]) :: R)) (i : Nat) (hi : i < 4) => show W'.cell? (ad.add i) = some (.int .u8 (rd l i)) by
    obtain ⟨ad2, e, x⟩ := Kd.at_int (HR.out _ _ h) (i : Int) (by omega) (by omega)
    injection e with e
    subst e
    simpa using x
  obtain ⟨r0, e0⟩ : ∃ r, rd l ((0 : Nat) : Int) = r := ⟨_, rfl⟩
  obtain ⟨r1, e1⟩ : ∃ r, rd l ((1 : Nat) : Int) = r := ⟨_, rfl⟩
  obtain ⟨r2, e2⟩ : ∃ r, rd l ((2 : Nat) : Int) = r := ⟨_, rfl⟩
  obtain ⟨r3, e3⟩ : ∃ r, rd l ((3 : Nat) : Int) = r := ⟨_, rfl⟩
  rw [e0] at hb0 hO
  rw [e1] at hb1 hO
  rw [e2] at hb2 hO
  rw [e3] at hb3 hO
  have HO := Lib.hid hO
  have X' := Lib.hid X
  obtain ⟨n, hn⟩ : ∃ n, l.length = n := ⟨_, rfl⟩
  have k0 : 0 < n := by omega
  have k1 : (1 : Int) < (n : Int) := by omega
  have k2 : (2 : Int) < (n : Int) := by omega
  have k3 : (3 : Int) < (n : Int) := by omega
  rw [hn] at hcut HA HRD h4 hl hc ⊢
  clear hr hread hN hO X x0 hi hsz hD hby HR hn
  go_enter Try.func27, Try.ntmps27
  go_wp2_with (first | ((with_reducible refine gate_ld rfl ?_); (refine aw_load 0 rfl rfl HA rfl rfl rfl ?_ ?_); kernel_rfl; simp only [Act.put, List.setIfInBounds_toArray, List.set_cons_succ, List.set_cons_zero]) | ((with_reducible refine gate_st rfl ?_); (refine aw_store 0 (v := .slice _ _ _) rfl rfl rfl rfl rfl HA rfl rfl rfl ?_ ?_); kernel_rfl; clear HA; intro W_ HA; dsimp only [List.set, List.take, List.cons_append, List.nil_append] at HA))
  have x0 := X'.out _ _ HA 0 (by decide)
  have x1 := X'.out _ _ HA 1 (by decide)
  have x2 := X'.out _ _ HA 2 (by decide)
  have x3 := X'.out _ _ HA 3 (by decide)
  rw [show ad.add 0 = ad by unfold Addr.add; split <;> simp_all] at x0
  rw [e0] at x0
  rw [show ad.add 1 = ⟨ad.block, ad.off + 1, none⟩ by rfl, e1] at x1
  rw [show ad.add 2 = ⟨ad.block, ad.off + 2, none⟩ by rfl, e2] at x2
  rw [show ad.add 3 = ⟨ad.block, ad.off + 3, none⟩ by rfl, e3] at x3
  clear e0 e1 e2 e3 hcut
  go_quiet (fail)
  clear x0 x1 x2 x3
  replace HA := HA.drewN nq
  go_wp2
  go_ret
  have m1 : r0 * 16777216 % 4294967296 = r0 * 16777216 := by omega
  have m2 : r1 * 65536 % 4294967296 = r1 * 65536 := by omega
  have m3 : r2 * 256 % 4294967296 = r2 * 256 := by omega
  have m0 : ∀ r : Int, 0 ≤ r ∧ r < 256 → r % 4294967296 = r := fun r h => by omega
  refine ⟨A', ?_, HA, fun V hV => Kd.C_of_reads (h1 := fun _ => rfl) (HRD.out V (Kd.reads_of_C hV))⟩
  first | (simp only [m0 _ hb0, m0 _ hb1, m0 _ hb2, m0 _ hb3, m1, m2, m3, HO.out]; done) | (rw [← HO.out]; simp [m0 _ hb0, m0 _ hb1, m0 _ hb2, m0 _ hb3, m1, m2, m3])
end Go.Proofs.Ytbjfchkfhbpclaa.Q
