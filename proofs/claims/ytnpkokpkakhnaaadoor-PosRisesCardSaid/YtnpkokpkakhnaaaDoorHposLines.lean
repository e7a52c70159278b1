/- pos.lines: a range over a function: its rounds are the lines of the text. -/
import Derived.Test.YtnpkokpkakhnaaaDoorQx0
import Derived.RangeFuncNested
import Derived.RangeFuncBound
import Derived.RangeFuncCalls
import Derived.RangeFuncLeaves
import Derived.RangeFuncFrom
import Derived.Shelf.Abstract
import Derived.Shelf.RegionOpen
import Derived.WalkKit
import Derived.OwnWalkIn
import Derived.TacticsInMore
import Derived.LoopNIn
import Derived.LoopIn
namespace Go.Proofs.YtnpkokpkakhnaaaDoor.Q
open Go.RowKit Go.Proofs.YtnpkokpkakhnaaaDoorW.PrintWords Go.Proofs.YtnpkokpkakhnaaaDoorW.PrintLast Go.Proofs.YtnpkokpkakhnaaaDoorW.PrintMore
attribute [local go_sem] max2_int min2_int max_two min_two max_three min_three max_four min_four   -- for this text's walks alone
set_option linter.unusedVariables false
set_option linter.unusedSimpArgs false

open Go.Shelf
attribute [local go_sem] Oper.semAt_some
/-- the lines from place i on, d places ahead of the end, a line having begun at f -/
def lns (s : ByteArray) : Nat → Nat → Nat → List (Nat × Nat)
  | f, i, 0 => [(f, i)]
  | f, i, d + 1 => if bt s i = 10 then (f, i) :: lns s (i + 1) (i + 1) d else lns s f (i + 1) d
def linesOf (s : ByteArray) : List (Nat × Nat) := lns s 0 0 s.size
abbrev lencs (x : Nat × Nat) : Array Value := #[.int .i64 (x.1 : Int), .int .i64 (x.2 : Int)]
theorem lns_length (s : ByteArray) : ∀ d f i, (lns s f i d).length ≤ d + 1
  | 0, f, i => by simp [lns]
  | d + 1, f, i => by
    have h1 := lns_length s d (i + 1) (i + 1)
    have h2 := lns_length s d f (i + 1)
    unfold lns
    split
    · simp only [List.length_cons]; omega
    · omega
def pKeep (Bn : Nat) (A B : World) : Prop := B.cell? ⟨Bn, 0, none⟩ = A.cell? ⟨Bn, 0, none⟩
theorem pKeep_t {Bn : Nat} {A B C : World} (h : pKeep Bn A B) (k : pKeep Bn B C) : pKeep Bn A C := Eq.trans k h
theorem pKeep_b {Bn : Nat} {w : World} (hn : Bn < w.heap.size) (W : World) (l : Nat) (o o' : Obj) (hl : w.heap.size ≤ l) (_ : W.heap[l]? = some o) (_ : o.isCells = false) (_ : o.isWalk = false) : pKeep Bn W (W.putObj l o') :=
  World.cell?_of_block (World.putObj_heap_other (by show Bn ≠ l; omega))
theorem pcell_of_box {W : World} {B : Nat} {v : Value} {t : TypeId} (h : W.heap[B]? = some (.cells #[v] t (0, 0))) : W.cell? ⟨B, 0, none⟩ = some v ∧ W.frozen? ⟨B, 0, none⟩ = false := by
  constructor <;> simp [World.cell?, World.frozen?, h]
theorem pcell_new (W : World) (v : Value) (t : TypeId) : (W.alloc (.cells #[v] t)).cell? ⟨W.heap.size, 0, none⟩ = some v ∧ (W.alloc (.cells #[v] t)).frozen? ⟨W.heap.size, 0, none⟩ = false :=
  pcell_of_box (World.alloc_heap_new W _)
set_option maxHeartbeats 1000000 in
theorem plines_in (F : Fence) (n : Nat) (h13 : F.fn 13) (hro : F.round = none) (s : ByteArray) (w : World) :
    CallsIn F n Tryd.prog 13 #[.string s] w fun e w' => e = .returned (.func (.func 16) #[] #[.pointer (some ⟨w.heap.size, 0, none⟩)]) ∧ w' = w.alloc (.cells #[.string s] 9) := by
  refine callsIn_of_wp Tryd.func13 rfl h13 ?_ hro
  simp only [Tryd.ntmps13, List.size_toArray, List.length_cons, List.length_nil, Nat.reduceAdd, Nat.reduceSub, Array.replicate_succ, Array.replicate_zero, List.push_toArray, List.append_toArray, List.nil_append, List.cons_append]
  gi_wp2
  go_ret
  exact ⟨rfl, rfl⟩
set_option maxRecDepth 100000 in
set_option maxHeartbeats 4000000 in
theorem pline1_in (F : Fence) (n : Nat) (h16 : F.fn 16) (hro : F.round = none) (hn : 1 ≤ n) (l Bn : Nat) (s : ByteArray) (hs : s.size ≤ 1000000) (J Jx : List (Nat × Nat) → World → Prop)
    (hY : ∀ pre x W, J pre W → pre.length < s.size + 1 → YieldAt F (n - 1) Tryd.prog l (lencs x) W fun e W' =>
      (e = .returned (.bool true) ∧ J (pre ++ [x]) W' ∧ pKeep Bn W W') ∨ (e = .returned (.bool false) ∧ Jx (pre ++ [x]) W'))
    (W : World) (hBn : W.cell? ⟨Bn, 0, none⟩ = some (.string s)) (h0 : J [] W) :
    CallsIn F n Tryd.prog 16 #[.func (.yield l) #[] #[], .pointer (some ⟨Bn, 0, none⟩)] W fun e W' => (∃ v, e = .returned v) ∧
      ((∃ ys, ys = linesOf s ∧ J ys W') ∨ (∃ pre, pre <+: linesOf s ∧ Jx pre W')) := by
  have hlen : (linesOf s).length ≤ s.size + 1 := lns_length s _ _ _
  refine callsIn_of_wp Tryd.func16 rfl h16 ?_ hro
  simp only [Tryd.ntmps16, List.size_toArray, List.length_cons, List.length_nil, Nat.reduceAdd, Nat.reduceSub, Array.replicate_succ, Array.replicate_zero, List.push_toArray, List.append_toArray, List.nil_append, List.cons_append]
  gi_wp2
  gi_loopw [3, 7] (fun p i wr => ∃ (pre : List (Nat × Nat)) (f j d : Nat), j + d = s.size ∧ p = .int .i64 f ∧ i = .int .i64 j ∧ linesOf s = pre ++ lns s f j d ∧ f ≤ j ∧ J pre wr ∧ pKeep Bn W wr)
    (fun _ i _ => s.size - (intOf i).toNat)
  case atStart => exact ⟨[], 0, 0, s.size, by omega, rfl, rfl, rfl, Nat.le_refl _, h0, Eq.refl _⟩
  case round =>
    obtain ⟨pre, f, j, d, hd, rfl, rfl, hx, hfj, hJs, hB⟩ := hrel
    have hc2 := Eq.trans hB hBn
    have hpl : pre.length < s.size + 1 := by
      have : (lns s f j d).length ≠ 0 := by
        cases d with
        | zero => simp [lns]
        | succ d => 
          unfold lns
          split
          · simp
          · have : ∀ d f j, (lns s f j d).length ≠ 0 := by
              intro d
              induction d with
              | zero => intro f j; simp [lns]
              | succ d ih => intro f j; unfold lns; split; simp; exact ih _ _
            exact this _ _ _
      rw [hx, List.length_append] at hlen
      omega
    cases d with
    | zero =>
      obtain rfl : j = s.size := by omega
      obtain ⟨fn, tmps, assign, body, hy, hR⟩ := hY pre (f, s.size) wr hJs hpl
      dsimp only [lencs] at hy
      gi_wp2
      refine hR.mono ?_
      rintro e W3 (⟨rfl, hJ3, hk3⟩ | ⟨rfl, hJx3⟩)
      · gi_wp2
        go_end0
        exact ⟨⟨_, rfl⟩, .inl ⟨_, hx.symm, hJ3⟩⟩
      · gi_wp2
        go_end0
        exact ⟨⟨_, rfl⟩, .inr ⟨_, ⟨[], by rw [List.append_nil]; exact hx.symm⟩, hJx3⟩⟩
    | succ d =>
      have hlt : j < s.size := by omega
      have hb : ∀ h : j < s.size, ((s[j]'h).toNat : Int) = bt s j := fun h => bt_at s j h
      have hw : wrap64 ((j : Int) + 1) = ((j + 1 : Nat) : Int) := by unfold wrap64; omega
      by_cases h10 : bt s j = 10
      · have hx2 : linesOf s = pre ++ (f, j) :: lns s (j + 1) (j + 1) d := by rw [hx]; congr 1; conv => lhs; unfold lns; rw [if_pos h10]
        have c1 := beq_iff_eq.mpr h10
        obtain ⟨fn, tmps, assign, body, hy, hR⟩ := hY pre (f, j) wr hJs hpl
        dsimp only [lencs] at hy
        gi_wp2
        refine hR.mono ?_
        rintro e W3 (⟨rfl, hJ3, hk3⟩ | ⟨rfl, hJx3⟩)
        · gi_wp2
          go_roundw
          case rel => exact ⟨pre ++ [(f, j)], j + 1, j + 1, d, by omega, by go_num, by go_num, by rw [hx2, List.append_assoc]; rfl, Nat.le_refl _, hJ3, pKeep_t hB hk3⟩
          case measure => simp [intOf]; omega
        · gi_wp2
          refine bodyPost_ret (results_none rfl _ _ _) rfl ?_
          exact ⟨⟨_, rfl⟩, .inr ⟨pre ++ [(f, j)], ⟨lns s (j + 1) (j + 1) d, by rw [hx2, List.append_assoc]; rfl⟩, hJx3⟩⟩
      · have hx2 : linesOf s = pre ++ lns s f (j + 1) d := by rw [hx]; congr 1; conv => lhs; unfold lns; rw [if_neg h10]
        have c1 := beq_eq_false_iff_ne.mpr h10
        gi_wp2
        go_roundw
        case rel => exact ⟨pre, f, j + 1, d, by omega, rfl, by go_num, hx2, by omega, hJs, hB⟩
        case measure => simp [intOf]; omega
theorem plines_stops (F : Fence) (n : Nat) (h16 : F.fn 16) (hro : F.round = none) (hn : 1 ≤ n) (Bn : Nat) (s : ByteArray) (hs : s.size ≤ 1000000) (w : World) (hBn0 : Bn < w.heap.size)
    (hc : w.cell? ⟨Bn, 0, none⟩ = some (.string s)) :
    SeqStopsK F n Tryd.prog 16 #[.pointer (some ⟨Bn, 0, none⟩)] lencs (pKeep Bn) (fun ys => ys = linesOf s) (fun pre => pre <+: linesOf s) (s.size + 1) w := fun l J Jx W hW _ _ hY h0 =>
  pline1_in F n h16 hro hn l Bn s hs J Jx hY W ((hW.cell (p := ⟨Bn, 0, none⟩) hBn0).trans hc) h0
end Go.Proofs.YtnpkokpkakhnaaaDoor.Q
