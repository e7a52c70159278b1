/- Words for a walk by hand: stores into own slices; a string's next rune, whatever it is. -/
import Derived.Test.YtaddjeegplfjiaaQx0
import Derived.Test.YtaddjeegplfjiaaAw
import Derived.Test.YtaddjeegplfjiaaAwSl
--@needs XAw
--@needs XAwSl
import Derived.Laws.RangeAny
import Derived.Laws.Runes
namespace Go.Proofs.Ytaddjeegplfjiaa.Q
open Go.RowKit Go.Proofs.YtaddjeegplfjiaaW.PrintWords Go.Proofs.YtaddjeegplfjiaaW.PrintLast Go.Proofs.YtaddjeegplfjiaaW.PrintMore
attribute [local go_sem] max2_int min2_int max_two min_two max_three min_three max_four min_four   -- for this text's walks alone
set_option linter.unusedVariables false
set_option linter.unusedSimpArgs false

section
variable {P : Program} {ops : Array Oper} {rest : List Oper} {o : Oper} {a : Act} {Q : Exit → Act → World → Prop} {S : Nat → Prop} {w W : World} {L : List (Nat × Blk)}
theorem aw_storeR (i : Nat) {t e : TypeId} {p x : Operand} {g j size cap : Nat} {xs : List Value} {v : Value} (hN : o.dst = none) (ho : o.op = .store t p x) (hp : a.eval p = .pointer (some ⟨g, j, none⟩)) (hx : a.eval x = v) (h1 : v.oneCell' = true) (HA : Aw S w W L)
    (hi : L[i]? = some (g, Blk.r e size cap xs)) (hw : Region.wanted o (yielded ops a.tmps) = true) (hj : decide (j < xs.length) = true) (ht : sizeB P t 1 = true) (h : ∀ W', Aw S w W' (L.set i (g, Blk.r e size cap (xs.set j v))) → wpList P ops Q rest a W') : wpList P ops Q (o :: rest) a W := by
  have hj := of_decide_eq_true hj
  have hcell := HA.rcell hi (List.getElem?_eq_getElem hj)
  obtain ⟨ob, hg, cur, rfl, hs1, hs2, hs3⟩ := HA.atp hi
  have h2 := blk_set (g := g) hg j v
  have hr : RowO e size cap (xs.set j v) (.cells (cur.setIfInBounds j v) e (0, 0)) := by
    refine ⟨_, rfl, by simpa using hs1, hs2, ?_⟩
    rw [List.length_set, Array.toList_setIfInBounds, List.take_set, hs3]
  refine aw_sk hw hN ?_ (h (W.setCell ⟨g, j, none⟩ v) (HA.put (b' := Blk.r e size cap (xs.set j v)) hi ⟨rfl, rfl, rfl⟩ (by simp [World.setCell]) h2 hr (fun k _ hk => Below.heap_setCell W ⟨g, j, none⟩ v k hk)))
  have hs : ∃ inf, P.info? t = some inf ∧ inf.size = 1 := by
    unfold sizeB at ht
    cases hq : P.info? t with
    | none => simp [hq] at ht
    | some inf => exact ⟨inf, rfl, by simpa [hq] using ht⟩
  obtain ⟨inf, hq, hs⟩ := hs
  have hcs : (a.eval x).cells = #[v] := by rw [hx]; cases v <;> simp_all [Value.oneCell', Value.cells]
  have hadd : (⟨g, j, none⟩ : Addr).add 0 = ⟨g, j, none⟩ := by unfold Addr.add; split <;> simp_all
  have hfr : W.frozen? ⟨g, j, none⟩ = false := blk_frozen hg j
  unfold execOp
  rw [ho]
  simp [hp, Instr.storeAt, Instr.sureAddr, storeVar, sizeOf, typeInfo, hq, hs, hcs, storeCells, Sem.run_bind, hadd, run_store P W _ _ _ h1, hcell, hfr]
theorem aw_loadR (i : Nat) {t e : TypeId} {x : Operand} {g j size cap : Nat} {xs : List Value} {v : Value} (ho : o.op = .load t x) (hx : a.eval x = .pointer (some ⟨g, j, none⟩)) (HA : Aw S w W L)
    (hi : L[i]? = some (g, Blk.r e size cap xs)) (hv : xs[j]? = some v) (hw : Region.wanted o (yielded ops a.tmps) = true) (ht : oneB P t = true) (h : wpList P ops Q rest (a.put o.dst v) W) : wpList P ops Q (o :: rest) a W :=
  aw_loadc ho hx hw (HA.rcell hi hv) ht h
theorem aw_next_any (i : Nat) {x : Operand} {g : Nat} {s : ByteArray} {pos : Nat} {n q : Nat} (ho : o.op = .next x true) (hx : a.eval x = .pointer (some ⟨g, 0, none⟩)) (hw : Region.wanted o (yielded ops a.tmps) = true) (HA : Aw S w W L)
    (hi : L[i]? = some (g, .i s pos)) (hp : pos < s.size) (hn : Utf8.decode s pos = (n, q))
    (h : ∀ W', Aw S w W' (L.set i (g, .i s (pos + q))) → wpList P ops Q rest (a.put o.dst (.tuple #[.bool true, .int .i64 pos, .int .i32 (n : Int)])) W') : wpList P ops Q (o :: rest) a W := by
  have e1 := Lib.iterAt_heap W g s pos (pos + q) (HA.ati hi)
  refine aw_ev hw ?_ (h (W.iterAt g s (pos + q)) (HA.put (b' := .i s (pos + q)) hi ⟨rfl, rfl, rfl⟩ (Nat.le_of_eq (Lib.iterAt_size _ _ _ _).symm) e1 rfl (fun k _ hk => Lib.iterAt_other W g k s (pos + q) hk)))
  unfold execOp
  rw [ho]
  simp only [hx, Sem.run_bind, Lib.run_next_any_at W g s pos o.type (HA.ati hi) hp, hn]
  rfl
end
/-- a rune and its bytes -/
theorem rune_at (s : ByteArray) (pos : Nat) (h : pos < s.size) : ∃ n q : Nat, Utf8.decode s pos = (n, q) ∧ 1 ≤ q ∧ ((s[pos]'h).toNat < 128 → n = (s[pos]'h).toNat ∧ q = 1) ∧ (128 ≤ (s[pos]'h).toNat → 128 ≤ n) ∧ n ≤ 2147483647 := by
  have hle := decode_le s pos
  by_cases ha : (s[pos]'h).toNat < 128
  · have := decode_ascii s pos h ha
    rw [this] at hle ⊢
    exact ⟨_, _, rfl, Nat.le_refl _, fun _ => ⟨rfl, rfl⟩, fun h => by omega, by omega⟩
  · have h2 := decode_high s pos h (by omega)
    exact ⟨_, _, rfl, h2.2, fun h => absurd h ha, fun _ => h2.1, hle⟩
theorem encode_size (n : Int) : (Utf8.encode n).size ≤ 4 := by
  unfold Utf8.encode
  dsimp only
  repeat' split
  all_goals first | (show 1 ≤ 4; omega) | (show 2 ≤ 4; omega) | (show 3 ≤ 4; omega) | (show 4 ≤ 4; omega)
theorem encode_ascii (c : UInt8) (h : c.toNat < 128) : Utf8.encode ((c.toNat : Nat) : Int) = ⟨#[c]⟩ := by
  have hv : Utf8.valid ((c.toNat : Nat) : Int) = true := by unfold Utf8.valid; simp; omega
  unfold Utf8.encode
  simp only [hv, if_true, Int.toNat_natCast, h]
  simp
end Go.Proofs.Ytaddjeegplfjiaa.Q
