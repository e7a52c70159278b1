/- Several texts in one: Words for a walk by hand: a world told by the blocks that the call has made (or was given to write), one rule an operation; the world stays a name. Words for a walk by hand: maps of whole numbers that the call has made, each told by a function. Words for a walk by hand: slices that the call has made (by append), each told by its cells. Words for a walk by hand: a callee that writes the blocks that it was given, and the caller's other blocks. Words for a walk by hand: rows of single cells that the call has made by make, copied into. gc: what the collector does, as plain lists. gc.collector.meet: a word is met. By wip/gen/gc_meet.py. gc: begin, reach. By wip/gen/gc_reach.py. gc: the block at a place. gc.Reach: how many words are still asked for. By wip/gen/gc_top.py. gc: room, and the change of a word. By wip/gen/gc_collect.py. gc.Collect's closure: a word, changed. By wip/gen/gc_change.py. gc: where blocks are moved to, and what is laid there, as plain lists. gc.Collect: what is still asked for, copied. By wip/gen/gc_coll.py. gc.Collect: what is still asked for, copied: the whole. By wip/gen/gc_coll.py. -/
import Derived.Test.YtnkbfbhhioemoaaQx0
import Derived.Deep.MidRow
import Derived.Lib.OthersKept
import Derived.Deep.QuietTactic
import Derived.Maps.OwnSet
import Derived.Carry
import Derived.Maps.AppendAt
import Derived.Laws.CopyOwn
import Derived.Deep.OwnRows
import Derived.Test.YtnkbfbhhioemoaaQx1
import Derived.LoopTactic
import Derived.Lib.Hide
import Derived.BigQuiet
import Derived.Deep.LoopGhost
import Derived.Outline
import Derived.IntWalk
import Derived.Test.YtnkbfbhhioemoaaHeapPlain
import Derived.StillTailTactics
namespace Go.Proofs.Ytnkbfbhhioemoaa.Q
open Go.RowKit Go.Proofs.YtnkbfbhhioemoaaW.PrintWords Go.Proofs.YtnkbfbhhioemoaaW.PrintLast Go.Proofs.YtnkbfbhhioemoaaW.PrintMore
attribute [local go_sem] max2_int min2_int max_two min_two max_three min_three max_four min_four   -- for this text's walks alone
set_option linter.unusedVariables false
set_option linter.unusedSimpArgs false

/-- what a block holds: cells, a string's iterator, anything -/
inductive Blk where
  | c (t : TypeId) (l : List Value)
  | i (s : ByteArray) (pos : Nat)
  | p (φ : Obj → Prop)
def Blk.sat : Blk → Obj → Prop
  | .c t l, o => o = .cells l.toArray t (0, 0)
  | .i s n, o => o = .stringIter s n
  | .p φ, o => φ o
/-- W is w but for what is new and the blocks of S -/
structure Kp (S : Nat → Prop) (w W : World) : Prop where
  os : W.os = w.os
  tape : W.tape = w.tape
  output : W.output = w.output
  size : w.heap.size ≤ W.heap.size
  block : ∀ k, k < w.heap.size → ¬ S k → W.heap[k]? = w.heap[k]?
section
variable {S S2 : Nat → Prop} {w W W2 : World}
theorem Kp.refl (S : Nat → Prop) (w : World) : Kp S w w := ⟨rfl, rfl, rfl, Nat.le_refl _, fun _ _ _ => rfl⟩
theorem Kp.of_below (h : Below w.heap.size w W) : Kp S w W := ⟨h.os, h.tape, h.output, h.size, fun k hk _ => h.block k hk⟩
theorem Kp.below (h : Kp S w W) (hs : ∀ k, S k → w.heap.size ≤ k) : Below w.heap.size w W := ⟨h.os, h.tape, h.output, h.size, fun k hk => h.block k hk (fun hS => by have := hs k hS; omega)⟩
theorem Kp.mono (h : Kp S w W) (hs : ∀ k, S k → S2 k) : Kp S2 w W := ⟨h.os, h.tape, h.output, h.size, fun k hk hn => h.block k hk (fun hS => hn (hs k hS))⟩
theorem Kp.trans (h : Kp S w W) (k : Kp S2 W W2) (hs : ∀ k, S2 k → S k ∨ w.heap.size ≤ k) : Kp S w W2 :=
  ⟨k.os.trans h.os, k.tape.trans h.tape, k.output.trans h.output, Nat.le_trans h.size k.size, fun i hi hn => (k.block i (Nat.lt_of_lt_of_le hi h.size) (fun h2 => (hs i h2).elim hn (fun h3 => by omega))).trans (h.block i hi hn)⟩
theorem Kp.alloc (h : Kp S w W) (o : Obj) : Kp S w (W.alloc o) := h.trans (Kp.of_below (S := fun _ => False) (below_alloc (Below.refl _ _) o)) (fun _ hk => hk.elim)
theorem Kp.drew (h : Kp S w W) : Kp S w W.drew := ⟨h.os, h.tape, h.output, h.size, h.block⟩
theorem drewN_other (W : World) (n : Nat) : (W.drewN n).os = W.os ∧ (W.drewN n).tape = W.tape ∧ (W.drewN n).output = W.output ∧ (W.drewN n).heap = W.heap := ⟨rfl, rfl, rfl, rfl⟩
theorem Kp.drewN (h : Kp S w W) (n : Nat) : Kp S w (W.drewN n) := ⟨h.os, h.tape, h.output, h.size, h.block⟩
theorem Kp.one (W : World) (g : Nat) (W2 : World) (hw : W2.os = W.os ∧ W2.tape = W.tape ∧ W2.output = W.output) (hs : W.heap.size ≤ W2.heap.size) (hb : ∀ k, k < W.heap.size → k ≠ g → W2.heap[k]? = W.heap[k]?) : Kp (fun k => k = g) W W2 :=
  ⟨hw.1, hw.2.1, hw.2.2, hs, fun k hl hn => hb k hl hn⟩
end
theorem quiet_drawn {P : Program} {f : FuncId} {args : Array Value} {w : World} {n : Nat} {v : Value} (h : Calls P f args (w.drewN n) fun e w' => e = .returned v ∧ Drawn0 (w.drewN n) w') : Calls P f args (w.drewN n) fun e w'' => e = .returned v ∧ ∃ m, w'' = w.drewN m :=
  Calls.quiet_of (h.mono fun _ _ ⟨he, hm⟩ => ⟨he, hm.out⟩)
/-- the call began at w; it may write the blocks of S and what is new; L: the blocks that are known -/
def Aw (S : Nat → Prop) (w W : World) (L : List (Nat × Blk)) : Prop :=
  Kp S w W ∧ (∀ x ∈ L, (∃ o, W.heap[x.1]? = some o ∧ x.2.sat o) ∧ (S x.1 ∨ w.heap.size ≤ x.1)) ∧ (L.map (·.1)).Nodup
abbrev noS : Nat → Prop := fun _ => False
section
variable {S S2 : Nat → Prop} {w W W2 : World} {L L' : List (Nat × Blk)}
theorem Aw.start (S : Nat → Prop) (w : World) : Aw S w w [] := ⟨Kp.refl _ _, by simp, by simp⟩
theorem Aw.given {g : Nat} {b : Blk} {o : Obj} (w : World) (hg : w.heap[g]? = some o) (hb : b.sat o) : Aw (fun k => k = g) w w [(g, b)] := ⟨Kp.refl _ _, by simpa using ⟨o, hg, hb⟩, by simp⟩
theorem Aw.below (h : Aw noS w W L) : Below w.heap.size w W := h.1.below (fun _ hk => hk.elim)
theorem Aw.atp {i g : Nat} {b : Blk} (h : Aw S w W L) (hi : L[i]? = some (g, b)) : ∃ o, W.heap[g]? = some o ∧ b.sat o := (h.2.1 (g, b) (List.mem_of_getElem? hi)).1
theorem Aw.at {i g : Nat} {t : TypeId} {l : List Value} (h : Aw S w W L) (hi : L[i]? = some (g, .c t l)) : W.heap[g]? = some (.cells l.toArray t (0, 0)) := by
  obtain ⟨o, h1, h2⟩ := h.atp hi
  rw [h1, show o = _ from h2]
theorem Aw.ati {i g pos : Nat} {s : ByteArray} (h : Aw S w W L) (hi : L[i]? = some (g, .i s pos)) : W.heap[g]? = some (.stringIter s pos) := by
  obtain ⟨o, h1, h2⟩ := h.atp hi
  rw [h1, show o = _ from h2]
theorem Aw.mine {i g : Nat} {b : Blk} (h : Aw S w W L) (hi : L[i]? = some (g, b)) : S g ∨ w.heap.size ≤ g := (h.2.1 (g, b) (List.mem_of_getElem? hi)).2
theorem Aw.cell {i g j : Nat} {t : TypeId} {l : List Value} {v : Value} (h : Aw S w W L) (hi : L[i]? = some (g, .c t l)) (hv : l[j]? = some v) : W.cell? ⟨g, j, none⟩ = some v := by
  rw [cell_of_row W g j l.toArray t (0, 0) (h.at hi)]; simpa using hv
theorem Aw.free {i g j : Nat} {t : TypeId} {l : List Value} (h : Aw S w W L) (hi : L[i]? = some (g, .c t l)) : W.frozen? ⟨g, j, none⟩ = false := blk_frozen (h.at hi) j
theorem Aw.pos {i g pos : Nat} {s : ByteArray} (h : Aw S w W L) (hi : L[i]? = some (g, .i s pos)) : W.iterPos g = pos := by
  have := h.ati hi
  simp [World.iterPos, this]
theorem Aw.range {i g j : Nat} {t : TypeId} {l vs : List Value} (h : Aw S w W L) (hi : L[i]? = some (g, .c t l)) (hv : (l.drop j).take vs.length = vs) : W.rangeAt g j vs := fun k v hk => by
  refine h.cell hi ?_
  have hl : k < vs.length := (List.getElem?_eq_some_iff.1 hk).1
  rw [← hv, List.getElem?_take_of_lt hl, List.getElem?_drop] at hk
  exact hk
theorem Aw.there {i g j n : Nat} {t : TypeId} {l : List Value} (h : Aw S w W L) (hi : L[i]? = some (g, .c t l)) (hn : j + n ≤ l.length) : W.there g j n := fun k hk => by
  have e : l[j + k]? = some l[j + k] := List.getElem?_eq_getElem (by omega)
  exact ⟨by rw [h.cell hi e]; rfl, h.free hi⟩
theorem Aw.step (h : Aw S w W L) (k : Kp S2 W W2) (hs : ∀ x ∈ L, ¬ S2 x.1) (h2 : ∀ k, S2 k → S k ∨ w.heap.size ≤ k) : Aw S w W2 L :=
  ⟨h.1.trans k h2, fun x hx => ⟨by obtain ⟨o, ho, hb⟩ := (h.2.1 x hx).1; exact ⟨o, (k.block x.1 (blk_lt ho) (hs x hx)).trans ho, hb⟩, (h.2.1 x hx).2⟩, h.2.2⟩
theorem Aw.call (h : Aw S w W L) (hb : Below W.heap.size W W2) : Aw S w W2 L := h.step (S2 := noS) (Kp.of_below hb) (fun _ _ hk => hk) (fun _ hk => hk.elim)
theorem Aw.drew (h : Aw S w W L) : Aw S w W.drew L := ⟨h.1.drew, h.2⟩
theorem Aw.drewN (h : Aw S w W L) (n : Nat) : Aw S w (W.drewN n) L := ⟨h.1.drewN n, h.2⟩
theorem Aw.drewN0 (h : Aw S w W L) (hd : Drawn0 W W2) : Aw S w W2 L := by
  obtain ⟨n, rfl⟩ := hd.out
  exact h.drewN n
theorem Aw.sub (h : Aw S w W L) (hs : L'.Sublist L) : Aw S w W L' := ⟨h.1, fun x hx => h.2.1 x (hs.subset hx), (hs.map _).nodup h.2.2⟩
theorem Aw.new (h : Aw S w W L) {b : Blk} {o : Obj} (hb : b.sat o) : ∃ g W2, g = W.heap.size ∧ W2 = W.alloc o ∧ Aw S w W2 ((g, b) :: L) := by
  refine ⟨_, _, rfl, rfl, h.1.alloc _, ?_, ?_⟩
  · intro x hx
    rcases List.mem_cons.1 hx with rfl | hx
    · exact ⟨⟨o, blk_new W _, hb⟩, .inr h.1.size⟩
    · obtain ⟨o2, ho, hb2⟩ := (h.2.1 x hx).1
      exact ⟨⟨o2, blk_alloc ho _, hb2⟩, (h.2.1 x hx).2⟩
  · rw [List.map_cons, List.nodup_cons]
    refine ⟨fun hm => ?_, h.2.2⟩
    obtain ⟨x, hx, he⟩ := List.mem_map.1 hm
    obtain ⟨o2, ho, _⟩ := (h.2.1 x hx).1
    have := blk_lt ho
    have he' : x.1 = W.heap.size := he
    omega
/-- block i's content has turned to b, all else stands -/
theorem Aw.put {i g : Nat} {b b' : Blk} {o : Obj} (h : Aw S w W L) (hi : L[i]? = some (g, b)) (hw : W2.os = W.os ∧ W2.tape = W.tape ∧ W2.output = W.output) (hsz : W.heap.size ≤ W2.heap.size)
    (hg : W2.heap[g]? = some o) (hb : b'.sat o) (ho : ∀ k, k < W.heap.size → k ≠ g → W2.heap[k]? = W.heap[k]?) : Aw S w W2 (L.set i (g, b')) := by
  have hil : i < L.length := (List.getElem?_eq_some_iff.1 hi).1
  have hgi : L[i] = (g, b) := (List.getElem?_eq_some_iff.1 hi).2
  refine ⟨h.1.trans (Kp.one W g W2 hw hsz ho) (fun k hk => by rw [show k = g from hk]; exact h.mine hi), ?_, ?_⟩
  · intro x hx
    obtain ⟨j, hj, rfl⟩ := List.getElem_of_mem hx
    rw [List.length_set] at hj
    rw [List.getElem_set]
    by_cases e : i = j
    · subst e; rw [if_pos rfl]; exact ⟨⟨o, hg, hb⟩, h.mine hi⟩
    · rw [if_neg e]
      have hne : (L[j]).1 ≠ g := by
        intro he
        have hd := h.2.2
        have := (List.getElem_inj (i := i) (j := j) (h₀ := by simpa using hil) (h₁ := by simpa using hj) hd).1 (by simp [hgi, he])
        exact e this
      obtain ⟨o2, ho2, hb2⟩ := (h.2.1 _ (List.getElem_mem hj)).1
      exact ⟨⟨o2, (ho _ (blk_lt ho2) hne).trans ho2, hb2⟩, (h.2.1 _ (List.getElem_mem hj)).2⟩
  · have e : (L.set i (g, b')).map (·.1) = L.map (·.1) := by
      apply List.ext_getElem
      · simp
      · intro j h1 h2
        simp only [List.getElem_map, List.getElem_set]
        split
        · rename_i e; subst e; rw [hgi]
        · rfl
    rw [e]; exact h.2.2
theorem setCells_heap (b : Nat) {t : TypeId} : ∀ (vs : List Value) (o : Nat) (W : World) (l : List Value), W.heap[b]? = some (.cells l.toArray t (0, 0)) → o + vs.length ≤ l.length →
    (W.setCells b o vs).heap[b]? = some (.cells (l.take o ++ vs ++ l.drop (o + vs.length)).toArray t (0, 0)) ∧ (W.setCells b o vs).heap.size = W.heap.size ∧ (∀ k, k ≠ b → (W.setCells b o vs).heap[k]? = W.heap[k]?) ∧
      ((W.setCells b o vs).os = W.os ∧ (W.setCells b o vs).tape = W.tape ∧ (W.setCells b o vs).output = W.output)
  | [], o, W, l, h, hl => by
    refine ⟨?_, rfl, fun _ _ => rfl, rfl, rfl, rfl⟩
    show W.heap[b]? = _
    rw [h]; simp
  | v :: r, o, W, l, h, hl => by
    rw [List.length_cons] at hl
    have h1 := blk_set (g := b) h o v
    rw [List.setIfInBounds_toArray] at h1
    have ih := setCells_heap b r (o + 1) (W.setCell ⟨b, o, none⟩ v) (l.set o v) h1 (by rw [List.length_set]; omega)
    rw [World.setCells]
    refine ⟨?_, ?_, ?_, ih.2.2.2.1, ih.2.2.2.2.1, ih.2.2.2.2.2⟩
    · rw [ih.1]
      congr 2
      rw [List.take_set, List.drop_set_of_lt (by omega)]
      have e : (l.take (o + 1)).set o v = l.take o ++ [v] := by
        rw [List.take_succ_eq_append_getElem (by omega), List.set_append_right _ _ (by simp; omega)]
        simp [Nat.min_eq_left (show o ≤ l.length by omega)]
      rw [e, List.length_cons, show o + 1 + r.length = o + (r.length + 1) by omega]
      simp
    · rw [ih.2.1]; simp [World.setCell]
    · intro k hk
      rw [ih.2.2.1 k hk]
      exact Below.heap_setCell W ⟨b, o, none⟩ v k hk
end
def oneB (P : Program) (t : TypeId) : Bool := match P.underlying t with | some (.struct _) => false | some (.array _ _) => false | some _ => true | none => false
def rowB (P : Program) (t : TypeId) (n : Nat) : Bool := (match P.underlying t with | some (.struct _) => true | some (.array _ _) => true | _ => false) && ((P.info? t).map (·.size) == some n)
def sizeB (P : Program) (t : TypeId) (n : Nat) : Bool := (P.info? t).map (·.size) == some n
def strB (P : Program) (t : TypeId) : Bool := match P.underlying t with | some .string => true | _ => false
section
variable {P : Program} {ops : Array Oper} {rest : List Oper} {o : Oper} {a : Act} {Q : Exit → Act → World → Prop} {S : Nat → Prop} {w W : World} {L : List (Nat × Blk)}
theorem gate_ld {t : TypeId} {x : Operand} (_ : o.op = .load t x) (h : wpList P ops Q (o :: rest) a W) : wpList P ops Q (o :: rest) a W := h
theorem gate_st {t : TypeId} {p x : Operand} (_ : o.op = .store t p x) (h : wpList P ops Q (o :: rest) a W) : wpList P ops Q (o :: rest) a W := h
theorem gate_nx {x : Operand} {b : Bool} (_ : o.op = .next x b) (h : wpList P ops Q (o :: rest) a W) : wpList P ops Q (o :: rest) a W := h
theorem gate_lk {t : TypeId} {m x : Operand} {b : Bool} (_ : o.op = .lookup t m x b) (h : wpList P ops Q (o :: rest) a W) : wpList P ops Q (o :: rest) a W := h
theorem gate_mu {t : TypeId} {m x y : Operand} (_ : o.op = .mapUpdate t m x y) (h : wpList P ops Q (o :: rest) a W) : wpList P ops Q (o :: rest) a W := h
theorem aw_ev {w1 : World} {v : Value} (hw : Region.wanted o (yielded ops a.tmps) = true) (hrun : (execOp a.eval o).run P W = .ok (.value v) w1) (h : wpList P ops Q rest (a.put o.dst v) w1) : wpList P ops Q (o :: rest) a W := by
  unfold wpList
  rw [if_pos hw]
  left
  unfold Oper.wp
  rw [hrun]
  exact h
theorem aw_sk {w1 : World} (hw : Region.wanted o (yielded ops a.tmps) = true) (hN : o.dst = none) (hrun : (execOp a.eval o).run P W = .ok .skip w1) (h : wpList P ops Q rest a w1) : wpList P ops Q (o :: rest) a W := by
  unfold wpList
  rw [if_pos hw]
  left
  unfold Oper.wp
  rw [hrun]
  show wpList P ops Q rest (a.put o.dst undef) w1
  rw [hN]; exact h
theorem run_oneB {t : TypeId} (ht : oneB P t = true) (W : World) : (isAgg t).run P W = .ok false W := by
  unfold oneB at ht
  unfold isAgg
  cases hu : P.underlying t with
  | none => simp [hu] at ht
  | some d =>
    rw [Sem.run_bind, run_underlying hu W]
    rw [hu] at ht
    cases d <;> simp_all
theorem aw_box {t : TypeId} {x : Operand} {l : List Value} (ho : o.op = .box t x) (hl : (a.eval x).cells = l.toArray) (hw : Region.wanted o (yielded ops a.tmps) = true) (HA : Aw S w W L)
    (h : ∀ g W', Aw S w W' ((g, .c t l) :: L) → wpList P ops Q rest (a.put o.dst (.pointer (some ⟨g, 0, none⟩))) W') : wpList P ops Q (o :: rest) a W := by
  obtain ⟨g, W2, rfl, rfl, H2⟩ := HA.new (b := .c t l) rfl
  refine aw_ev hw ?_ (h _ _ H2)
  unfold execOp
  rw [ho]
  simp only [Instr.box, newVar, newRow, newObj, hl]
  rfl
theorem aw_alloc {t : TypeId} {l : List Value} (ho : o.op = .alloc t) (hw : Region.wanted o (yielded ops a.tmps) = true) (hz : ∀ W, (Instr.alloc t true (.tuple #[])).run P W = .ok (.pointer (some ⟨W.heap.size, 0, none⟩)) (W.alloc (.cells l.toArray t (0, 0)))) (HA : Aw S w W L)
    (h : ∀ g W', Aw S w W' ((g, .c t l) :: L) → wpList P ops Q rest (a.put o.dst (.pointer (some ⟨g, 0, none⟩))) W') : wpList P ops Q (o :: rest) a W := by
  obtain ⟨g, W2, rfl, rfl, H2⟩ := HA.new (b := .c t l) rfl
  refine aw_ev hw ?_ (h _ _ H2)
  unfold execOp
  rw [ho]
  simp only [Sem.run_bind, hz]
  rfl
theorem aw_newv (f : Nat → Value) (t : TypeId) (l : List Value) (hw : Region.wanted o (yielded ops a.tmps) = true) (hrun : ∀ W, (execOp a.eval o).run P W = .ok (.value (f W.heap.size)) (W.alloc (.cells l.toArray t (0, 0)))) (HA : Aw S w W L)
    (h : ∀ g W', Aw S w W' ((g, .c t l) :: L) → wpList P ops Q rest (a.put o.dst (f g)) W') : wpList P ops Q (o :: rest) a W := by
  obtain ⟨g, W2, rfl, rfl, H2⟩ := HA.new (b := .c t l) rfl
  exact aw_ev hw (hrun W) (h _ _ H2)
theorem aw_load (i : Nat) {t T : TypeId} {x : Operand} {g j : Nat} {l : List Value} {v : Value} (ho : o.op = .load t x) (hx : a.eval x = .pointer (some ⟨g, j, none⟩)) (HA : Aw S w W L)
    (hi : L[i]? = some (g, .c T l)) (hv : l[j]? = some v) (hw : Region.wanted o (yielded ops a.tmps) = true) (ht : oneB P t = true) (h : wpList P ops Q rest (a.put o.dst v) W) : wpList P ops Q (o :: rest) a W := by
  refine aw_ev hw ?_ h
  unfold execOp
  rw [ho]
  simp only [hx, Instr.loadAt, Instr.sureAddr, loadVar, Sem.run_bind, Sem.run_pure, Result.andThen_ok, run_oneB ht, run_load, HA.cell hi hv, Bool.false_eq_true, if_false]
theorem aw_loadc {t : TypeId} {x : Operand} {ad : Addr} {v : Value} (ho : o.op = .load t x) (hx : a.eval x = .pointer (some ad)) (hw : Region.wanted o (yielded ops a.tmps) = true) (hc : W.cell? ad = some v) (ht : oneB P t = true)
    (h : wpList P ops Q rest (a.put o.dst v) W) : wpList P ops Q (o :: rest) a W := by
  refine aw_ev hw ?_ h
  unfold execOp
  rw [ho]
  simp only [hx, Instr.loadAt, Instr.sureAddr, loadVar, Sem.run_bind, Sem.run_pure, Result.andThen_ok, run_oneB ht, run_load, hc, Bool.false_eq_true, if_false]
theorem rowB_of {t : TypeId} {n : Nat} (ht : rowB P t n = true) : ∃ d, P.underlying t = some d ∧ d.isRow = true ∧ (P.info? t).map (·.size) = some n := by
  unfold rowB at ht
  rw [Bool.and_eq_true] at ht
  obtain ⟨h1, h2⟩ := ht
  cases hu : P.underlying t with
  | none => simp [hu] at h1
  | some d => exact ⟨d, rfl, by rw [hu] at h1; cases d <;> simp_all [TypeDesc.isRow], by simpa using h2⟩
theorem results_aw2 {fn : Func} {p q : Tmp} {ty : TypeId} {g i : Nat} {t : TypeId} {l : List Value} {v : Value} (h : fn.results = #[.cell p ty, .tmp q]) (tmps : Array Value) (HA : Aw S w W L)
    (hp : tmps.getD p undef = .pointer (some ⟨g, 0, none⟩)) (hq : tmps.getD q undef = v) (hi : L[i]? = some (g, .c t l)) (hr : rowB P ty l.length = true) :
    (results fn tmps).run P W = .ok (.tuple #[.agg l.toArray, v]) W := by
  have hp' : tmps[p]?.getD undef = .pointer (some ⟨g, 0, none⟩) := by simpa using hp
  have hq' : tmps[q]?.getD undef = v := by simpa using hq
  obtain ⟨d, hu, hd, hs⟩ := rowB_of hr
  simp [results, h, hp', hq', asAddr, run_loadVar_mid W g 0 ty l d (HA.range hi (by simp)) hu hd hs]
theorem results_aw {fn : Func} {p : Tmp} {ty : TypeId} {g i : Nat} {t : TypeId} {l : List Value} (h : fn.results = #[.cell p ty]) (tmps : Array Value) (HA : Aw S w W L)
    (hp : tmps.getD p undef = .pointer (some ⟨g, 0, none⟩)) (hi : L[i]? = some (g, .c t l)) (hr : rowB P ty l.length = true) :
    (results fn tmps).run P W = .ok (.agg l.toArray) W := by
  have hp' : tmps[p]?.getD undef = .pointer (some ⟨g, 0, none⟩) := by simpa using hp
  obtain ⟨d, hu, hd, hs⟩ := rowB_of hr
  simp [results, h, hp', asAddr, run_loadVar_mid W g 0 ty l d (HA.range hi (by simp)) hu hd hs]
theorem aw_loadA (i : Nat) {t T : TypeId} {x : Operand} {g j : Nat} {l vs : List Value} (ho : o.op = .load t x) (hx : a.eval x = .pointer (some ⟨g, j, none⟩)) (HA : Aw S w W L)
    (hi : L[i]? = some (g, .c T l)) (hw : Region.wanted o (yielded ops a.tmps) = true) (n : Nat) (ht : rowB P t n = true) (hv : (l.drop j).take n = vs) (hn : vs.length = n) (h : wpList P ops Q rest (a.put o.dst (.agg vs.toArray)) W) : wpList P ops Q (o :: rest) a W := by
  obtain ⟨d, hu, hd, hs⟩ := rowB_of ht
  refine aw_ev hw ?_ h
  unfold execOp
  rw [ho]
  simp only [hx, Sem.run_bind, run_loadAt_mid W g j t vs d (HA.range hi (by rw [hn]; exact hv)) hu hd (by rw [hn]; exact hs)]
  rfl
theorem aw_loadW (i : Nat) {t T : TypeId} {x : Operand} {g : Nat} {l : List Value} (ho : o.op = .load t x) (hx : a.eval x = .pointer (some ⟨g, 0, none⟩)) (HA : Aw S w W L)
    (hi : L[i]? = some (g, .c T l)) (hw : Region.wanted o (yielded ops a.tmps) = true) (ht : rowB P t l.length = true) (h : wpList P ops Q rest (a.put o.dst (.agg l.toArray)) W) : wpList P ops Q (o :: rest) a W :=
  aw_loadA i ho hx HA hi hw l.length ht (by simp) rfl h
theorem aw_storeW (i : Nat) {t T : TypeId} {p x : Operand} {g : Nat} {l vs : List Value} (hN : o.dst = none) (ho : o.op = .store t p x) (hp : a.eval p = .pointer (some ⟨g, 0, none⟩)) (hx : a.eval x = .agg vs.toArray) (HA : Aw S w W L)
    (hi : L[i]? = some (g, .c T l)) (hw : Region.wanted o (yielded ops a.tmps) = true) (hj : vs.length = l.length) (ht : sizeB P t vs.length = true) (h1 : vs.all (·.oneCell') = true) (h : ∀ W', Aw S w W' (L.set i (g, .c T vs)) → wpList P ops Q rest a W') : wpList P ops Q (o :: rest) a W := by
  obtain ⟨e1, e2, e3, e4⟩ := setCells_heap g vs 0 W l (HA.at hi) (by omega)
  have e : l.take 0 ++ vs ++ l.drop (0 + vs.length) = vs := by rw [List.drop_eq_nil_of_le (by omega)]; simp
  rw [e] at e1
  refine aw_sk hw hN ?_ (h (W.setCells g 0 vs) (HA.put (b' := .c T vs) hi e4 (Nat.le_of_eq e2.symm) e1 rfl (fun k _ hk => e3 k hk)))
  unfold execOp
  rw [ho]
  simp only [hp, hx, Sem.run_bind, run_storeAt_mid W g 0 t vs.toArray (by rw [List.size_toArray]; exact HA.there hi (by omega)) (by rw [List.size_toArray]; simpa [sizeB] using ht) (all_oneCell_toArray (by simpa using h1)), List.toList_toArray]
  rfl
theorem aw_store (i : Nat) {t T : TypeId} {p x : Operand} {g j : Nat} {l : List Value} {v : Value} (hN : o.dst = none) (ho : o.op = .store t p x) (hp : a.eval p = .pointer (some ⟨g, j, none⟩)) (hx : a.eval x = v) (h1 : v.oneCell' = true) (HA : Aw S w W L)
    (hi : L[i]? = some (g, .c T l)) (hw : Region.wanted o (yielded ops a.tmps) = true) (hj : decide (j < l.length) = true) (ht : sizeB P t 1 = true) (h : ∀ W', Aw S w W' (L.set i (g, .c T (l.set j v))) → wpList P ops Q rest a W') : wpList P ops Q (o :: rest) a W := by
  have hj := of_decide_eq_true hj
  have hcell := HA.cell hi (List.getElem?_eq_getElem hj)
  have h2 := blk_set (g := g) (HA.at hi) j v
  rw [List.setIfInBounds_toArray] at h2
  refine aw_sk hw hN ?_ (h (W.setCell ⟨g, j, none⟩ v) (HA.put (b' := .c T (l.set j v)) hi ⟨rfl, rfl, rfl⟩ (by simp [World.setCell]) h2 rfl (fun k _ hk => Below.heap_setCell W ⟨g, j, none⟩ v k hk)))
  have hs : ∃ inf, P.info? t = some inf ∧ inf.size = 1 := by
    unfold sizeB at ht
    cases hq : P.info? t with
    | none => simp [hq] at ht
    | some inf => exact ⟨inf, rfl, by simpa [hq] using ht⟩
  obtain ⟨inf, hq, hs⟩ := hs
  have hcs : (a.eval x).cells = #[v] := by rw [hx]; cases v <;> simp_all [Value.oneCell', Value.cells]
  have hadd : (⟨g, j, none⟩ : Addr).add 0 = ⟨g, j, none⟩ := by unfold Addr.add; split <;> simp_all
  unfold execOp
  rw [ho]
  simp [hp, Instr.storeAt, Instr.sureAddr, storeVar, sizeOf, typeInfo, hq, hs, hcs, storeCells, Sem.run_bind, hadd, run_store P W _ _ _ h1, hcell, HA.free hi]
theorem aw_storeA (i : Nat) {t T : TypeId} {p x : Operand} {g j : Nat} {l vs : List Value} (hN : o.dst = none) (ho : o.op = .store t p x) (hp : a.eval p = .pointer (some ⟨g, j, none⟩)) (hx : a.eval x = .agg vs.toArray) (HA : Aw S w W L)
    (hi : L[i]? = some (g, .c T l)) (hw : Region.wanted o (yielded ops a.tmps) = true) (hj : decide (j + vs.length ≤ l.length) = true) (ht : sizeB P t vs.length = true) (h1 : vs.all (·.oneCell') = true) (h : ∀ W', Aw S w W' (L.set i (g, .c T (l.take j ++ vs ++ l.drop (j + vs.length)))) → wpList P ops Q rest a W') : wpList P ops Q (o :: rest) a W := by
  have hj := of_decide_eq_true hj
  obtain ⟨e1, e2, e3, e4⟩ := setCells_heap g vs j W l (HA.at hi) hj
  refine aw_sk hw hN ?_ (h (W.setCells g j vs) (HA.put (b' := .c T (l.take j ++ vs ++ l.drop (j + vs.length))) hi e4 (Nat.le_of_eq e2.symm) e1 rfl (fun k _ hk => e3 k hk)))
  unfold execOp
  rw [ho]
  simp only [hp, hx, Sem.run_bind, run_storeAt_mid W g j t vs.toArray (by rw [List.size_toArray]; exact HA.there hi hj) (by rw [List.size_toArray]; simpa [sizeB] using ht) (all_oneCell_toArray (by simpa using h1)), List.toList_toArray]
  rfl
theorem aw_range {t : TypeId} {x : Operand} {s : ByteArray} (ho : o.op = .range t x) (hx : a.eval x = .string s) (hw : Region.wanted o (yielded ops a.tmps) = true) (ht : strB P t = true) (HA : Aw S w W L)
    (h : ∀ g W', Aw S w W' ((g, .i s 0) :: L) → wpList P ops Q rest (a.put o.dst (.pointer (some ⟨g, 0, none⟩))) W') : wpList P ops Q (o :: rest) a W := by
  obtain ⟨g, W2, rfl, rfl, H2⟩ := HA.new (b := .i s 0) rfl
  refine aw_ev hw ?_ (h _ _ H2)
  have hu : P.underlying t = some .string := by
    unfold strB at ht
    split at ht
    · assumption
    · simp at ht
  unfold execOp
  rw [ho]
  simp only [hx, Sem.run_bind, run_range_string W t s hu]
  rfl
theorem aw_next (i : Nat) {x : Operand} {g : Nat} {s : ByteArray} {pos : Nat} {n : Int} (ho : o.op = .next x true) (hx : a.eval x = .pointer (some ⟨g, 0, none⟩)) (hw : Region.wanted o (yielded ops a.tmps) = true) (HA : Aw S w W L)
    (hi : L[i]? = some (g, .i s pos)) (hp : pos < s.size) (hn : ((s[pos]'hp).toNat : Int) = n) (ha : n < 128)
    (h : ∀ W', Aw S w W' (L.set i (g, .i s (pos + 1))) → wpList P ops Q rest (a.put o.dst (.tuple #[.bool true, .int .i64 pos, .int .i32 n])) W') : wpList P ops Q (o :: rest) a W := by
  have e1 := Lib.iterAt_heap W g s pos (pos + 1) (HA.ati hi)
  refine aw_ev hw ?_ (h (W.iterAt g s (pos + 1)) (HA.put (b' := .i s (pos + 1)) hi ⟨rfl, rfl, rfl⟩ (Nat.le_of_eq (Lib.iterAt_size _ _ _ _).symm) e1 rfl (fun k _ hk => Lib.iterAt_other W g k s (pos + 1) hk)))
  unfold execOp
  rw [ho]
  simp only [hx, Sem.run_bind, Lib.run_next_ascii_at W g s pos o.type (HA.ati hi) hp (by omega), hn]
  rfl
theorem aw_next_end (i : Nat) {x : Operand} {g : Nat} {s : ByteArray} {pos : Nat} (ho : o.op = .next x true) (hx : a.eval x = .pointer (some ⟨g, 0, none⟩)) (hw : Region.wanted o (yielded ops a.tmps) = true) (HA : Aw S w W L)
    (hi : L[i]? = some (g, .i s pos)) (hp : ¬ pos < s.size)
    (h : wpList P ops Q rest (a.put o.dst (.tuple #[.bool false])) W) : wpList P ops Q (o :: rest) a W := by
  refine aw_ev hw ?_ h
  unfold execOp
  rw [ho]
  simp only [hx, Sem.run_bind, Lib.run_next_end_at W g s pos o.type (HA.ati hi) hp]
  rfl
end
end Go.Proofs.Ytnkbfbhhioemoaa.Q

--@needs XAw
namespace Go.Proofs.Ytnkbfbhhioemoaa.Q
open Go.RowKit Go.Proofs.YtnkbfbhhioemoaaW.PrintWords Go.Proofs.YtnkbfbhhioemoaaW.PrintLast Go.Proofs.YtnkbfbhhioemoaaW.PrintMore
attribute [local go_sem] max2_int min2_int max_two min_two max_three min_three max_four min_four   -- for this text's walks alone
set_option linter.unusedVariables false
set_option linter.unusedSimpArgs false

open Go.Maps
/-- a map with keys of type K and elements of type E (of kind q), of n entries, that gives f -/
def MapO (P : Program) (K E : TypeId) (q : IntKind) (n : Nat) (f : Lit → Option Int) (o : Obj) : Prop :=
  ∃ (w : World) (b : Nat) (D : DataW Unit), w.heap[b]? = some o ∧ w.ownsMap P K (plainElem P E) b n D ∧ Maps.size D = n ∧
    ∀ kl, WideAt.IsKeyLit kl → Maps.has D kl = (f kl).isSome ∧ D.atKey kl (.lit (.int q 0)) = .lit (.int q ((f kl).getD 0))
abbrev Blk.m (P : Program) (K E : TypeId) (q : IntKind) (n : Nat) (f : Lit → Option Int) : Blk := .p (MapO P K E q n f)
section
variable {P : Program} {S : Nat → Prop} {w W : World} {L : List (Nat × Blk)} {K E : TypeId} {q : IntKind} {n g i : Nat} {f : Lit → Option Int}
theorem Aw.owns (h : Aw S w W L) (hi : L[i]? = some (g, Blk.m P K E q n f)) : ∃ D : DataW Unit, W.ownsMap P K (plainElem P E) g n D ∧ Maps.size D = n ∧
    ∀ kl, WideAt.IsKeyLit kl → Maps.has D kl = (f kl).isSome ∧ D.atKey kl (.lit (.int q 0)) = .lit (.int q ((f kl).getD 0)) := by
  obtain ⟨o, h1, w0, b, D, h2, ⟨es, ck, h3, h4⟩, hs, hk⟩ := h.atp hi
  rw [h2] at h3
  obtain rfl := Option.some.inj h3
  exact ⟨D, ⟨es, ck, h1, h4⟩, hs, hk⟩
theorem MapO.made (P : Program) (K E : TypeId) (q : IntKind) : MapO P K E q 0 (fun _ => none) (.map #[] 0) :=
  ⟨World.alloc default (.map #[] 0), _, _, heap_alloc_new _ _, World.ownsMap_made _ _ _ _, rfl, fun _ _ => ⟨rfl, rfl⟩⟩
theorem MapO.of_owns {W : World} {o : Obj} {m : Nat} {D : DataW Unit} (hg : W.heap[g]? = some o) (h : W.ownsMap P K (plainElem P E) g m D) (hk : ∀ kl, WideAt.IsKeyLit kl → Maps.has D kl = (f kl).isSome ∧ D.atKey kl (.lit (.int q 0)) = .lit (.int q ((f kl).getD 0))) :
    MapO P K E q (Maps.size D) f o := by
  obtain ⟨es, ck, h1, F, h3, rfl⟩ := h
  refine ⟨W, g, _, hg, ⟨es, ck, h1, F, ?_, rfl⟩, rfl, hk⟩
  show es.size ≤ ((es.toList.map (Go.WideElems.rg P K (plainElem P E))).foldr DataW.insert []).length
  rw [length_sorted]; simp
open Classical in
noncomputable def putf (f : Lit → Option Int) (kl : Lit) (v : Int) : Lit → Option Int := fun k => if k = kl then some v else f k
variable {ops : Array Oper} {rest : List Oper} {o : Oper} {a : Act} {Q : Exit → Act → World → Prop}
theorem aw_makemap (K E : TypeId) (q : IntKind) {t : TypeId} (ho : o.op = .makeMap t none) (hw : Region.wanted o (yielded ops a.tmps) = true) (HA : Aw S w W L)
    (h : ∀ g W', Aw S w W' ((g, Blk.m P K E q 0 (fun _ => none)) :: L) → wpList P ops Q rest (a.put o.dst (.map (some g))) W') : wpList P ops Q (o :: rest) a W := by
  obtain ⟨g, W2, rfl, rfl, H2⟩ := HA.new (b := Blk.m P K E q 0 (fun _ => none)) (MapO.made P K E q)
  refine aw_ev hw ?_ (h _ _ H2)
  unfold execOp
  rw [ho]
  rfl
theorem aw_lookup (i : Nat) {t : TypeId} {m x : Operand} {key : Value} {kl : Lit} (law : Keyed P K) (ht : P.underlying t = some (.map K E)) (he : P.underlying E = some (.int q)) (hz : ∀ W, (zeroValue E).run P W = .ok (.int q 0) W)
    (ho : o.op = .lookup t m x false) (hm : a.eval m = .map (some g)) (hx : a.eval x = key) (hw : Region.wanted o (yielded ops a.tmps) = true) (HA : Aw S w W L) (hi : L[i]? = some (g, Blk.m P K E q n f)) (hk : keyOf P K key = some kl) {v : Int} (hv : (f kl).getD 0 = v)
    (h : wpList P ops Q rest (a.put o.dst (.int q v)) W) : wpList P ops Q (o :: rest) a W := by
  obtain ⟨D, hown, hs, hf⟩ := HA.owns hi
  obtain ⟨c, hrun, hat, _⟩ := hown.lookup_int law ht he (hz W) hk
  rw [(hf kl (law.key hk)).2, hv] at hat
  injection hat with hat
  injection hat with _ hat
  subst hat
  refine aw_ev hw ?_ h
  unfold execOp
  rw [ho]
  simp only [hm, hx, Sem.run_bind, hrun]
  rfl
theorem aw_lookup_ok (i : Nat) {t : TypeId} {m x : Operand} {key : Value} {kl : Lit} (law : Keyed P K) (ht : P.underlying t = some (.map K E)) (he : P.underlying E = some (.int q)) (hz : ∀ W, (zeroValue E).run P W = .ok (.int q 0) W)
    (ho : o.op = .lookup t m x true) (hm : a.eval m = .map (some g)) (hx : a.eval x = key) (hw : Region.wanted o (yielded ops a.tmps) = true) (HA : Aw S w W L) (hi : L[i]? = some (g, Blk.m P K E q n f)) (hk : keyOf P K key = some kl) {v : Option Int} (hv : f kl = v)
    (h : wpList P ops Q rest (a.put o.dst (.tuple #[.int q (v.getD 0), .bool v.isSome])) W) : wpList P ops Q (o :: rest) a W := by
  obtain ⟨D, hown, hs, hf⟩ := HA.owns hi
  have hw0 : (Lit.int q 0).wf = true := by cases q <;> decide
  obtain ⟨c, ps, hrun, hR⟩ := hown.look_ok law ht (hz W) (plainElem_int he hw0) hk
  obtain ⟨d, rfl, hc, _⟩ := plainElem_int_inv he hR
  have hat := congrArg Prod.fst hc
  dsimp only at hat
  rw [(hf kl (law.key hk)).2, hv] at hat
  injection hat with hat
  injection hat with _ hat
  subst hat
  rw [(hf kl (law.key hk)).1, hv] at hrun
  refine aw_ev hw ?_ h
  unfold execOp
  rw [ho]
  simp only [hm, hx, Sem.run_bind, hrun]
  rfl
theorem aw_mapput (i : Nat) {t : TypeId} {m x y : Operand} {key : Value} {kl : Lit} {v : Int} (law : Keyed P K) (ht : P.underlying t = some (.map K E)) (he : P.underlying E = some (.int q))
    (ho : o.op = .mapUpdate t m x y) (hN : o.dst = none) (hm : a.eval m = .map (some g)) (hx : a.eval x = key) (hy : a.eval y = .int q v) (hw : Region.wanted o (yielded ops a.tmps) = true) (HA : Aw S w W L) (hi : L[i]? = some (g, Blk.m P K E q n f)) (hk : keyOf P K key = some kl)
    (hv : (Lit.int q v).wf = true) (hn : n < maxLen)
    (h : ∀ W', Aw S w W' (L.set i (g, Blk.m P K E q (if (f kl).isSome then n else n + 1) (putf f kl v))) → wpList P ops Q rest a W') : wpList P ops Q (o :: rest) a W := by
  obtain ⟨D, hown, hs, hf⟩ := HA.owns hi
  obtain ⟨W2, hrun, hown2, hg⟩ := hown.update law ht hn hk (plainElem_int (H := Unit) he hv)
  have hD := (hown.isMap)
  have hT := (hown.tidy law)
  have hlt := hown.lt
  have hlt2 := hown2.lt
  have e2 : W2.heap[g]? = some W2.heap[g] := Array.getElem?_eq_getElem hlt2
  have hsz := size_put (k := kl) hT (.lit (.int q v))
  rw [(hf kl (law.key hk)).1, hs] at hsz
  have hO : MapO P K E q (Maps.size (D.put kl (.lit (.int q v)))) (putf f kl v) W2.heap[g] := by
    refine MapO.of_owns e2 hown2 (fun k2 hk2 => ?_)
    unfold putf
    by_cases e : k2 = kl
    · subst e
      rw [if_pos rfl]
      exact ⟨has_put_same hD hk2 _, atKey_put_same hD hk2 _ _⟩
    · rw [if_neg e, has_put_other e, atKey_put_other e]
      exact hf k2 hk2
  rw [hsz] at hO
  refine aw_sk hw hN ?_ (h W2 (HA.put (b' := Blk.m P K E q (if (f kl).isSome then n else n + 1) (putf f kl v)) hi ⟨hg.os, hg.tape, hg.output⟩ hg.size e2 hO (fun k hl hk => hg.block k hl (fun e => hk (Option.some.inj e)))))
  unfold execOp
  rw [ho]
  simp only [hm, hx, hy, Sem.run_bind, hrun]
  rfl
theorem aw_maplen (i : Nat) {t : TypeId} {m : Operand} (ht : P.underlying t = some (.map K E)) (ho : o.op = .call { callee := .builtin .len, args := #[m], argTypes := #[t] }) (hm : a.eval m = .map (some g)) (hw : Region.wanted o (yielded ops a.tmps) = true) (HA : Aw S w W L) (hi : L[i]? = some (g, Blk.m P K E q n f))
    (h : wpList P ops Q rest (a.put o.dst (.int .i64 n)) W) : wpList P ops Q (o :: rest) a W := by
  obtain ⟨D, hown, hs, hf⟩ := HA.owns hi
  refine aw_ev hw ?_ h
  have := hown.len ht o.type
  rw [hs] at this
  simp [execOp, ho, resolve, invoke, builtin, hm, this, Result.andThen]
/-- a look-up as a run (for a region that is walked once) -/
theorem Aw.lookup_run (i : Nat) {t : TypeId} {key : Value} {kl : Lit} (HA : Aw S w W L) (law : Keyed P K) (ht : P.underlying t = some (.map K E)) (he : P.underlying E = some (.int q)) (hz : ∀ W, (zeroValue E).run P W = .ok (.int q 0) W)
    (hi : L[i]? = some (g, Blk.m P K E q n f)) (hk : keyOf P K key = some kl) {v : Int} (hv : (f kl).getD 0 = v) : (Instr.lookup t (.map (some g)) key false).run P W = .ok (.int q v) W := by
  obtain ⟨D, hown, hs, hf⟩ := HA.owns hi
  obtain ⟨c, hrun, hat, _⟩ := hown.lookup_int law ht he (hz W) hk
  rw [(hf kl (law.key hk)).2, hv] at hat
  injection hat with hat
  injection hat with _ hat
  subst hat
  exact hrun
end
end Go.Proofs.Ytnkbfbhhioemoaa.Q

--@needs XAw
namespace Go.Proofs.Ytnkbfbhhioemoaa.Q
open Go.RowKit Go.Proofs.YtnkbfbhhioemoaaW.PrintWords Go.Proofs.YtnkbfbhhioemoaaW.PrintLast Go.Proofs.YtnkbfbhhioemoaaW.PrintMore
attribute [local go_sem] max2_int min2_int max_two min_two max_three min_three max_four min_four   -- for this text's walks alone
set_option linter.unusedVariables false
set_option linter.unusedSimpArgs false

/-- a row with room for cap elements of size cells each, the first of them xs -/
def RowO (e size cap : Nat) (xs : List Value) (o : Obj) : Prop := ∃ cur, o = .cells cur e (0, 0) ∧ cur.size = cap * size ∧ cap ≤ maxLen ∧ cur.toList.take xs.length = xs
abbrev Blk.r (e size cap : Nat) (xs : List Value) : Blk := .p (RowO e size cap xs)
/-- the slice value v has n elements, the cells xs; Lv is its block, if it has one -/
def Own (e size : Nat) (v : Value) (n : Nat) (xs : List Value) (Lv : List (Nat × Blk)) : Prop :=
  xs.length = n * size ∧ ((v = .slice none 0 0 ∧ n = 0 ∧ Lv = []) ∨ ∃ g cap, v = .slice (some ⟨g, 0, none⟩) n cap ∧ n ≤ cap ∧ Lv = [(g, Blk.r e size cap xs)])
section
variable {e size n : Nat} {v : Value} {xs : List Value} {Lv L L0 : List (Nat × Blk)} {S : Nat → Prop} {w W : World}
theorem Own.nil (e size : Nat) : Own e size (.slice none 0 0) 0 [] [] := ⟨by simp, .inl ⟨rfl, rfl, rfl⟩⟩
theorem Aw.getL {g : Nat} {b : Blk} (h : Aw S w W L) (hm : (g, b) ∈ L) : (∃ o, W.heap[g]? = some o ∧ b.sat o) ∧ (S g ∨ w.heap.size ≤ g) := h.2.1 (g, b) hm
theorem Own.row (h : Own e size v n xs Lv) (HA : Aw S w W L) (hs : ∀ x ∈ Lv, x ∈ L) : W.ownsRow 0 e size v n xs := by
  obtain ⟨hl, ⟨rfl, rfl, rfl⟩ | ⟨g, cap, rfl, hc, rfl⟩⟩ := h
  · exact ⟨hl, .inl ⟨rfl, rfl⟩⟩
  · obtain ⟨⟨o, ho, cur, rfl, h1, h2, h3⟩, _⟩ := HA.getL (hs _ (List.mem_singleton.2 rfl))
    exact ⟨hl, .inr ⟨g, cap, cur, rfl, Nat.zero_le _, ho, hc, h2, h1, by rw [← hl]; exact h3⟩⟩
/-- each cell of an own slice -/
theorem Own.cell (h : Own e size v n xs Lv) (HA : Aw S w W L) (hs : ∀ x ∈ Lv, x ∈ L) {j : Nat} {u : Value} (hu : xs[j]? = some u) : ∃ g cap, v = .slice (some ⟨g, 0, none⟩) n cap ∧ W.cell? ⟨g, j, none⟩ = some u := by
  have hj : j < xs.length := (List.getElem?_eq_some_iff.1 hu).1
  obtain ⟨hl, ⟨rfl, rfl, rfl⟩ | ⟨g, cap, rfl, hc, rfl⟩⟩ := h
  · rw [Nat.zero_mul] at hl; omega
  · obtain ⟨⟨o, ho, cur, rfl, h1, h2, h3⟩, _⟩ := HA.getL (hs _ (List.mem_singleton.2 rfl))
    refine ⟨g, cap, rfl, ?_⟩
    rw [cell_of_row W g j cur e (0, 0) ho]
    rw [← h3, List.getElem?_take_of_lt hj] at hu
    simpa using hu
end
section
variable {S : Nat → Prop} {w W : World} {L : List (Nat × Blk)}
theorem Aw.rcell {i g e size cap j : Nat} {xs : List Value} {u : Value} (h : Aw S w W L) (hi : L[i]? = some (g, Blk.r e size cap xs)) (hu : xs[j]? = some u) : W.cell? ⟨g, j, none⟩ = some u := by
  obtain ⟨o, ho, cur, rfl, h1, h2, h3⟩ := h.atp hi
  have hj : j < xs.length := (List.getElem?_eq_some_iff.1 hu).1
  rw [cell_of_row W g j cur e (0, 0) ho]
  rw [← h3, List.getElem?_take_of_lt hj] at hu
  simpa using hu
theorem RowO.lit (e size n : Nat) (l : List Value) (hl : l.length = n * size) (hm : n ≤ maxLen) : RowO e size n l (.cells l.toArray e (0, 0)) := ⟨_, rfl, by simpa using hl, hm, by simp⟩
theorem Aw.perm {L' : List (Nat × Blk)} (h : Aw S w W L) (hp : L.Perm L') : Aw S w W L' := ⟨h.1, fun x hx => h.2.1 x (hp.mem_iff.2 hx), ((hp.map _).nodup_iff).1 h.2.2⟩
/-- the literal row ahead turns into an own slice's behind -/
theorem Aw.litLast {g e size n : Nat} {l : List Value} (h : Aw S w W ((g, .c e l) :: L)) (hl : l.length = n * size) (hm : n ≤ maxLen) : Aw S w W (L ++ [(g, Blk.r e size n l)]) := by
  have h2 : Aw S w W ((g, Blk.r e size n l) :: L) := by
    refine ⟨h.1, fun x hx => ?_, h.2.2⟩
    rcases List.mem_cons.1 hx with rfl | hx
    · obtain ⟨⟨o, ho, hb⟩, hm2⟩ := h.2.1 (g, .c e l) (List.mem_cons_self)
      exact ⟨⟨o, ho, by rw [show o = _ from hb]; exact RowO.lit e size n l hl hm⟩, hm2⟩
    · exact h.2.1 x (List.mem_cons_of_mem _ hx)
  exact h2.perm (List.perm_append_comm (l₁ := [(g, Blk.r e size n l)]) (l₂ := L))
end
section
variable {P : Program} {ops : Array Oper} {rest : List Oper} {o : Oper} {a : Act} {Q : Exit → Act → World → Prop} {S : Nat → Prop} {w W : World} {L Lv : List (Nat × Blk)}
theorem Aw.shrink {L L' : List (Nat × Blk)} (h : Aw S w W L) (hs : L'.Sublist L) : Aw S w W L' := h.sub hs
theorem aw_append_core (k : Nat) {t e : TypeId} {z : Value} {size bytes : Nat} {s x : Operand} {v : Value} {n : Nat} {xs : List Value} (hd : L.drop k = Lv)
    (ht : P.underlying t = some (.slice e)) (hi : (P.info? e).map (fun i => (i.zero, i.size, i.bytes)) = some (some z, size, bytes)) (hz : z.cells.size = size) (h0 : 0 < size)
    (ho : o.op = .call { callee := .builtin .append, args := #[s, x], argTypes := #[t, t] }) (hown : Own e size v n xs Lv) (hs : a.eval s = v) (hw : Region.wanted o (yielded ops a.tmps) = true) (HA : Aw S w W L)
    {ad : Addr} {m c : Nat} {news : List Value} (hx : a.eval x = .slice (some ad) m c) (hl : news.length = m * size) (hnews : ∀ j u, news[j]? = some u → W.cell? (ad.add j) = some u) (h1 : ∀ u ∈ news, u.oneCell' = true)
    (h63 : n + m ≤ maxLen) (hbytes : (n + m) * bytes ≤ 140737488355328)
    (h : ∀ v' W' Lv', Own e size v' (n + m) (xs ++ news) Lv' → Aw S w W' (L.take k ++ Lv') → wpList P ops Q rest (a.put o.dst v') W') : wpList P ops Q (o :: rest) a W := by
  obtain ⟨inf, hi, hinf⟩ := Option.map_eq_some_iff.1 hi
  simp only [Prod.mk.injEq] at hinf
  obtain ⟨e1, e2, e3⟩ := hinf
  have hLs : ∀ y ∈ Lv, y ∈ L := fun y hy => List.mem_of_mem_drop (hd ▸ hy)
  obtain ⟨v', W', hr, h2, h3, h4, h5⟩ := run_append_own_at (P := P) W 0 t o.type e inf z size bytes ht hi e1 e2 e3 hz h0 v n xs (hown.row HA hLs) ad m c news hl hnews h1 h63 hbytes (Nat.zero_le _)
  have hLe : L.take k ++ Lv = L := by rw [← hd, List.take_append_drop]
  have hnd := HA.2.2
  rw [← hLe, List.map_append, List.nodup_append] at hnd
  have hnotv : ∀ y ∈ L.take k, ∀ g, v.ownBlock = some g → y.1 ≠ g := by
    intro y hy g hg he
    obtain ⟨_, ⟨rfl, _, rfl⟩ | ⟨g', cap, rfl, _, rfl⟩⟩ := hown
    · simp [Value.ownBlock] at hg
    · have e4 : g' = g := by simpa [Value.ownBlock] using hg
      subst e4
      exact hnd.2.2 y.1 (List.mem_map_of_mem hy) g' (by simp) he
  have hvS : ∀ g, v.ownBlock = some g → S g ∨ w.heap.size ≤ g := by
    intro g hg
    obtain ⟨_, ⟨rfl, _, rfl⟩ | ⟨g', cap, rfl, _, rfl⟩⟩ := hown
    · simp [Value.ownBlock] at hg
    · have e4 : g' = g := by simpa [Value.ownBlock] using hg
      subst e4
      exact (HA.getL (hLs _ (List.mem_singleton.2 rfl))).2
  have hK : Kp S w W' := HA.1.trans (S2 := fun g => v.ownBlock = some g) ⟨h3.os, h3.tape, h3.output, h3.size, fun i hi' hn => h3.block i hi' (fun he => hn he.symm)⟩ hvS
  have hkeep : ∀ y ∈ L.take k, (∃ o, W'.heap[y.1]? = some o ∧ y.2.sat o) ∧ (S y.1 ∨ w.heap.size ≤ y.1) := by
    intro y hy
    obtain ⟨⟨o2, ho2, hb2⟩, hm⟩ := HA.2.1 y (List.mem_of_mem_take hy)
    exact ⟨⟨o2, (h3.block y.1 (blk_lt ho2) (fun he => hnotv y hy y.1 he.symm rfl)).trans ho2, hb2⟩, hm⟩
  refine aw_ev hw (w1 := W') (v := v') ?_ ?_
  · unfold execOp
    simp only [ho, resolve, invoke, builtin, Sem.run_bind, Sem.run_pure, Result.andThen_ok, List.map_toArray, List.map_cons, List.map_nil, hs, hx, hr]
  · obtain ⟨hlen, ⟨rfl, hn0⟩ | ⟨g, cap, cur, rfl, _, hg, hnc, hcm, hsz, htk⟩⟩ := h2
    · refine h _ _ [] ⟨hlen, .inl ⟨rfl, hn0, rfl⟩⟩ ?_
      rw [List.append_nil]
      exact ⟨hK, hkeep, hnd.1⟩
    · refine h _ _ [(g, Blk.r e size cap (xs ++ news))] ⟨hlen, .inr ⟨g, cap, rfl, hnc, rfl⟩⟩ ⟨hK, ?_, ?_⟩
      · intro y hy
        rcases List.mem_append.1 hy with hy | hy
        · exact hkeep y hy
        · obtain rfl := List.mem_singleton.1 hy
          refine ⟨⟨_, hg, cur, rfl, hsz, hcm, by rw [hlen]; exact htk⟩, ?_⟩
          rcases h5 with h5 | h5
          · exact hvS g (by rw [← h5]; rfl)
          · have e4 : g = W.heap.size := by simpa [Value.ownBlock] using h5
            exact .inr (by rw [show (g, Blk.r e size cap (xs ++ news)).1 = g from rfl, e4]; exact HA.1.size)
      · rw [List.map_append, List.nodup_append]
        refine ⟨hnd.1, by simp, ?_⟩
        intro y hy y2 hy2 he
        obtain ⟨z1, hz1, rfl⟩ := List.mem_map.1 hy
        have e5 : y2 = g := by simpa using hy2
        subst e5
        rcases h5 with h5 | h5
        · exact hnotv z1 hz1 y2 (by rw [← h5]; rfl) he
        · have e4 : y2 = W.heap.size := by simpa [Value.ownBlock] using h5
          obtain ⟨o2, ho2, _⟩ := (HA.2.1 z1 (List.mem_of_mem_take hz1)).1
          have := blk_lt ho2
          omega
/-- append(s, x): the row of x is the block at place i of L (a literal) -/
theorem aw_append (k i : Nat) {t e T : TypeId} {z : Value} {size bytes : Nat} {s x : Operand} {v : Value} {n g : Nat} {xs news : List Value} (hd : L.drop k = Lv)
    (ht : P.underlying t = some (.slice e)) (hi : (P.info? e).map (fun i => (i.zero, i.size, i.bytes)) = some (some z, size, bytes)) (hz : z.cells.size = size) (h0 : 0 < size)
    (ho : o.op = .call { callee := .builtin .append, args := #[s, x], argTypes := #[t, t] }) (hown : Own e size v n xs Lv) (hs : a.eval s = v) (hw : Region.wanted o (yielded ops a.tmps) = true) (HA : Aw S w W L)
    {m c : Nat} (hx : a.eval x = .slice (some ⟨g, 0, none⟩) m c) (hg : L[i]? = some (g, .c T news)) (hl : news.length = m * size) (h1 : news.all (·.oneCell') = true)
    (h63 : n + m ≤ maxLen) (hbytes : (n + m) * bytes ≤ 140737488355328)
    (h : ∀ v' W' Lv', Own e size v' (n + m) (xs ++ news) Lv' → Aw S w W' (L.take k ++ Lv') → wpList P ops Q rest (a.put o.dst v') W') : wpList P ops Q (o :: rest) a W :=
  aw_append_core k hd ht hi hz h0 ho hown hs hw HA hx hl (fun j u hu => by rw [Addr.add_mid, Nat.zero_add]; exact HA.cell hg hu) (by simpa using h1) h63 hbytes h
/-- append(lit, ys...): lit a literal row (the newest block), ys an own slice whose block is at place i behind it -/
theorem aw_append_lit (i : Nat) {t e : TypeId} {z : Value} {bytes : Nat} {s x : Operand} {n m c g g2 cap : Nat} {xs ys : List Value} {L1 : List (Nat × Blk)}
    (ht : P.underlying t = some (.slice e)) (hi : (P.info? e).map (fun i => (i.zero, i.size, i.bytes)) = some (some z, 1, bytes)) (hz : z.cells.size = 1)
    (ho : o.op = .call { callee := .builtin .append, args := #[s, x], argTypes := #[t, t] }) (hs : a.eval s = .slice (some ⟨g, 0, none⟩) n n) (hw : Region.wanted o (yielded ops a.tmps) = true) (HA : Aw S w W ((g, .c e xs) :: L1)) (hxs : xs.length = n)
    (hx : a.eval x = .slice (some ⟨g2, 0, none⟩) m c) (hg : L1[i]? = some (g2, Blk.r e 1 cap ys)) (hl : ys.length = m) (h1 : ∀ u ∈ ys, u.oneCell' = true)
    (h63 : n + m ≤ maxLen) (hbytes : (n + m) * bytes ≤ 140737488355328)
    (h : ∀ v' W' Lv', Own e 1 v' (n + m) (xs ++ ys) Lv' → Aw S w W' (L1 ++ Lv') → wpList P ops Q rest (a.put o.dst v') W') : wpList P ops Q (o :: rest) a W := by
  have hnm : n ≤ maxLen := by omega
  have HB := HA.litLast (size := 1) (n := n) (by omega) hnm
  have h2 : (L1 ++ [(g, Blk.r e 1 n xs)])[i]? = some (g2, Blk.r e 1 cap ys) := by
    rw [List.getElem?_append_left (List.getElem?_eq_some_iff.1 hg).1]; exact hg
  refine aw_append_core L1.length (Lv := [(g, Blk.r e 1 n xs)]) (by simp) ht hi hz (by decide) ho ⟨by omega, .inr ⟨g, n, rfl, Nat.le_refl _, rfl⟩⟩ hs hw HB hx (by omega) (fun j u hu => by rw [Addr.add_mid, Nat.zero_add]; exact HB.rcell h2 hu) h1 h63 hbytes (fun v' W' Lv' hO hA => h v' W' Lv' hO (by simpa using hA))
end
section
variable {e size n : Nat} {v : Value} {xs : List Value} {Lv L : List (Nat × Blk)} {w W : World}
theorem Own.rowB (h : Own e size v n xs Lv) (HA : Aw noS w W L) (hs : ∀ x ∈ Lv, x ∈ L) : W.ownsRow w.heap.size e size v n xs := by
  obtain ⟨hl, ⟨rfl, rfl, rfl⟩ | ⟨g, cap, rfl, hc, rfl⟩⟩ := h
  · exact ⟨hl, .inl ⟨rfl, rfl⟩⟩
  · obtain ⟨⟨o, ho, cur, rfl, h1, h2, h3⟩, hm⟩ := HA.getL (hs _ (List.mem_singleton.2 rfl))
    exact ⟨hl, .inr ⟨g, cap, cur, rfl, hm.elim (fun h => h.elim) id, ho, hc, h2, h1, by rw [← hl]; exact h3⟩⟩
theorem Own.kdR {q : IntKind} {l : List Int} {ok : Nat → Prop} (h : Own e 1 v l.length (l.map (Value.int q)) Lv) (HA : Aw noS w W L) (hs : ∀ x ∈ Lv, x ∈ L) (hok : ∀ k, v.ownBlock = some k → ok k) : Kd.R (Kd.int q) e W w.heap.size ok v l :=
  Kd.R_of_own (enc := Value.int q) (h.rowB HA hs) hok
/-- a literal row that is full -/
theorem Own.full {g : Nat} (hl : xs.length = n * size) : Own e size (.slice (some ⟨g, 0, none⟩) n n) n xs [(g, Blk.r e size n xs)] := ⟨hl, .inr ⟨g, n, rfl, Nat.le_refl _, rfl⟩⟩
end
end Go.Proofs.Ytnkbfbhhioemoaa.Q

--@needs XAw
--@needs XAwSl
namespace Go.Proofs.Ytnkbfbhhioemoaa.Q
open Go.RowKit Go.Proofs.YtnkbfbhhioemoaaW.PrintWords Go.Proofs.YtnkbfbhhioemoaaW.PrintLast Go.Proofs.YtnkbfbhhioemoaaW.PrintMore
attribute [local go_sem] max2_int min2_int max_two min_two max_three min_three max_four min_four   -- for this text's walks alone
set_option linter.unusedVariables false
set_option linter.unusedSimpArgs false

section
variable {S0 : Nat → Prop} {w0 W W' : World} {L L' R : List (Nat × Blk)}
/-- the blocks of a list are given to a callee to write -/
abbrev inL (L : List (Nat × Blk)) : Nat → Prop := fun g => g ∈ L.map (·.1)
theorem Aw.givens (h : Aw S0 w0 W L) : Aw (inL L) W W L := ⟨Kp.refl _ _, fun x hx => ⟨(h.2.1 x hx).1, .inl (List.mem_map_of_mem hx)⟩, h.2.2⟩
theorem Aw.left (h : Aw S0 w0 W (L ++ R)) : Aw S0 w0 W L := h.sub (List.sublist_append_left _ _)
theorem Aw.right (h : Aw S0 w0 W (L ++ R)) : Aw S0 w0 W R := h.sub (List.sublist_append_right _ _)
theorem Aw.inL_mine (h : Aw S0 w0 W (L ++ R)) (k : Nat) (hk : inL L k) : S0 k ∨ w0.heap.size ≤ k := by
  obtain ⟨x, hx, rfl⟩ := List.mem_map.1 hk
  exact (h.2.1 x (List.mem_append_left _ hx)).2
theorem Aw.inL_other (h : Aw S0 w0 W (L ++ R)) (x : Nat × Blk) (hx : x ∈ R) : ¬ inL L x.1 := by
  intro hk
  have hd := h.2.2
  rw [List.map_append, List.nodup_append] at hd
  exact hd.2.2 x.1 hk x.1 (List.mem_map_of_mem hx) rfl
theorem Kp.frame (h : Aw S0 w0 W (L ++ R)) (k : Kp (inL L) W W') : Aw S0 w0 W' R := h.right.step k (fun x hx => h.inL_other x hx) (fun k hk => h.inL_mine k hk)
theorem Aw.frame (h : Aw S0 w0 W (L ++ R)) (k : Aw (inL L) W W' L') : Aw S0 w0 W' (L' ++ R) := by
  have hR := Kp.frame h k.1
  refine ⟨hR.1, ?_, ?_⟩
  · intro x hx
    rcases List.mem_append.1 hx with hx | hx
    · refine ⟨(k.2.1 x hx).1, ?_⟩
      rcases (k.2.1 x hx).2 with h2 | h2
      · exact h.inL_mine x.1 h2
      · exact .inr (Nat.le_trans h.1.size h2)
    · exact hR.2.1 x hx
  · rw [List.map_append, List.nodup_append]
    refine ⟨k.2.2, hR.2.2, ?_⟩
    intro y hy z hz e
    subst e
    obtain ⟨x, hx, rfl⟩ := List.mem_map.1 hy
    obtain ⟨u, hu, e⟩ := List.mem_map.1 hz
    rcases (k.2.1 x hx).2 with h2 | h2
    · exact h.inL_other u hu (e ▸ h2)
    · obtain ⟨o, ho, _⟩ := (h.right.2.1 u hu).1
      have := blk_lt ho
      omega
theorem Aw.congr {L2 : List (Nat × Blk)} (h : Aw S0 w0 W L) (e : L = L2) : Aw S0 w0 W L2 := e ▸ h
/-- what came in reads on: nothing of the first world's is written -/
theorem Kp.reads {α : Type} {d : Kd α} {A : Option Addr} {n : Nat} {xs : List α} (h : Kp noS w0 W) (hr : Kd.C d w0 A n xs) : Kd.C d W A n xs := Kd.C_below hr (h.below (fun _ hk => hk.elim))
/-- what a callee has made stands beside what the caller knows -/
theorem Aw.fresh (h : Aw S0 w0 W R) (k : Aw noS W W' L') : Aw S0 w0 W' (L' ++ R) :=
  Aw.frame (L := []) h ⟨k.1.mono (fun _ hk => hk.elim), fun x hx => ⟨(k.2.1 x hx).1, (k.2.1 x hx).2.elim (fun h => h.elim) .inr⟩, k.2.2⟩
end
end Go.Proofs.Ytnkbfbhhioemoaa.Q

--@needs XAw
--@needs XAwSl
namespace Go.Proofs.Ytnkbfbhhioemoaa.Q
open Go.RowKit Go.Proofs.YtnkbfbhhioemoaaW.PrintWords Go.Proofs.YtnkbfbhhioemoaaW.PrintLast Go.Proofs.YtnkbfbhhioemoaaW.PrintMore
attribute [local go_sem] max2_int min2_int max_two min_two max_three min_three max_four min_four   -- for this text's walks alone
set_option linter.unusedVariables false
set_option linter.unusedSimpArgs false

theorem madeCells_rep (z : Value) (n : Nat) : madeCells #[z] n = (List.replicate n z).toArray := by
  apply Array.ext
  · simp [size_madeCells]
  · intro i h1 h2
    simp [madeCells, Nat.mod_one]
section
variable {P : Program} {ops : Array Oper} {rest : List Oper} {o : Oper} {a : Act} {Q : Exit → Act → World → Prop} {S : Nat → Prop} {w W : World} {L : List (Nat × Blk)}
theorem aw_make_row (n : Nat) {t e : TypeId} {z : Value} {bytes : Nat} {x y : Operand} {kl kc : IntKind} (ho : o.op = .makeSlice t x y) (ht : P.underlying t = some (.slice e)) (hi : (P.info? e).map (fun i => (i.zero, i.size, i.bytes)) = some (some z, 1, bytes)) (hz1 : z.cells = #[z])
    (hx : a.eval x = .int kl (n : Int)) (hy : a.eval y = .int kc (n : Int)) (hw : Region.wanted o (yielded ops a.tmps) = true) (HA : Aw S w W L) (hbytes : bytes * n ≤ 281474976710656) (h63 : n ≤ 9223372036854775807)
    (h : ∀ g W', Aw S w W' ((g, .c e (List.replicate n z)) :: L) → wpList P ops Q rest (a.put o.dst (.slice (some ⟨g, 0, none⟩) n n)) W') : wpList P ops Q (o :: rest) a W := by
  obtain ⟨g, W2, rfl, rfl, H2⟩ := HA.new (b := .c e (List.replicate n z)) (o := .cells (madeCells #[z] n) e (0, 0)) (by rw [madeCells_rep]; rfl)
  refine aw_ev hw ?_ (h _ _ H2)
  have hr := run_make_row' (P := P) t e z bytes ht hi hz1 kl kc n hbytes h63 W
  unfold execOp
  rw [ho]
  simp only [hx, hy, Sem.run_bind, hr]
  rfl
/-- copy(dst, src) with dst in the row at place i of L, from off on -/
theorem aw_copy (i : Nat) (N : Nat) {t s e T : TypeId} {x y : Operand} {g off dLen dCap sLen sCap : Nat} {dp sp : Option Addr} {cur : List Value} (ho : o.op = .call { callee := .builtin .copy, args := #[x, y], argTypes := #[t, s] }) (ht : P.underlying t = some (.slice e)) (hsz : (P.info? e).map (·.size) = some 1)
    (hx : a.eval x = .slice dp dLen dCap) (hy : a.eval y = .slice sp sLen sCap) (hw : Region.wanted o (yielded ops a.tmps) = true) (HA : Aw S w W L) (hi : L[i]? = some (g, .c T cur)) (cs : List Value) (hn : cs.length = Nat.min sLen dLen) (hN : cs.length = N)
    (hpos : 0 < cs.length → dp = some ⟨g, off, none⟩ ∧ ∃ ad, sp = some ad ∧ ∀ j v, cs[j]? = some v → W.cell? (ad.add j) = some v) (hfit : off + cs.length ≤ cur.length) (h1 : ∀ v ∈ cs, v.oneCell' = true)
    (h : ∀ W', Aw S w W' (L.set i (g, .c T (splice cur off cs))) → wpList P ops Q rest (a.put o.dst (.int .i64 N)) W') : wpList P ops Q (o :: rest) a W := by
  subst hN
  by_cases h0 : cs.length = 0
  · obtain rfl : cs = [] := List.eq_nil_of_length_eq_zero h0
    have hrun := run_copy_none (P := P) W t s o.type e dp sp dLen dCap sLen sCap ht hsz (by simpa using hn.symm)
    refine aw_ev hw (w1 := W) (v := .int .i64 0) ?_ ?_
    · simp [execOp, ho, resolve, invoke, builtin, hx, hy, hrun, Result.andThen]
      rfl
    · refine h W ?_
      have e : splice cur off [] = cur := by simp [splice]
      rw [e]
      have e2 : L.set i (g, .c T cur) = L := by
        have hil := (List.getElem?_eq_some_iff.1 hi).1
        have hgi := (List.getElem?_eq_some_iff.1 hi).2
        rw [← hgi]; exact List.set_getElem_self hil
      rw [e2]; exact HA
  · obtain ⟨rfl, ad, rfl, hsrc⟩ := hpos (by omega)
    have hg := HA.at hi
    have hrun := run_copy_row (P := P) W t s o.type e g off dLen dCap ad sLen sCap cur.toArray T cs ht hsz hg hn hsrc (by simpa using hfit) h1
    refine aw_ev hw (w1 := W.setRow g (cur.toArray.toList.take off ++ cs ++ cur.toArray.toList.drop (off + cs.length)).toArray) (v := .int .i64 cs.length) ?_ ?_
    · simp [execOp, ho, resolve, invoke, builtin, hx, hy, hrun, Result.andThen]
      rfl
    · refine h _ (HA.put (b' := .c T (splice cur off cs)) hi ⟨rfl, rfl, rfl⟩ (by simp [World.setRow]) (setRow_heap W g _ _ T _ hg) (by show _ = _; simp [splice]) (fun k _ hk => setRow_other W g k _ hk))
end
theorem Own.apart {S : Nat → Prop} {w W : World} {L Lv : List (Nat × Blk)} {e size n ob : Nat} {b : Blk} {v : Value} {xs : List Value} (h : Own e size v n xs Lv) (HA : Aw S w W ((ob, b) :: L)) (hs : ∀ x ∈ Lv, x ∈ L) : ∀ g, v.ownBlock = some g → g ≠ ob := by
  intro g hg e
  subst e
  obtain ⟨_, ⟨rfl, _, rfl⟩ | ⟨g', cap', rfl, _, rfl⟩⟩ := h
  · cases hg
  · have e2 : g' = g := by simpa [Value.ownBlock] using hg
    subst e2
    have hm := hs _ (List.mem_singleton.2 rfl)
    have := HA.2.2
    rw [List.map_cons, List.nodup_cons] at this
    exact this.1 (List.mem_map.2 ⟨_, hm, rfl⟩)
end Go.Proofs.Ytnkbfbhhioemoaa.Q

namespace Go.Proofs.Ytnkbfbhhioemoaa.Q
open Go.RowKit Go.Proofs.YtnkbfbhhioemoaaW.PrintWords Go.Proofs.YtnkbfbhhioemoaaW.PrintLast Go.Proofs.YtnkbfbhhioemoaaW.PrintMore
attribute [local go_sem] max2_int min2_int max_two min_two max_three min_three max_four min_four   -- for this text's walks alone
set_option linter.unusedVariables false
set_option linter.unusedSimpArgs false

/-- a word leads into the half -/
def gLeads (F T w : Int) : Bool := decide (w % 2 = 0) && (decide (4 * F ≤ w) && decide (w < 4 * T))
/-- the blocks' words together -/
def gWords (blk : Int → Int) : List Int → Int
  | [] => 0
  | a :: r => blk a + gWords blk r
/-- the block that has a word -/
def gHit (blk : Int → Int) (l : List Int) (i : Int) : Option Int := l.find? (fun b => decide (b ≤ i) && decide (i < b + blk b))
/-- has a block of n words at a place a word in common with others? -/
def gOver (blk : Int → Int) (l : List Int) (a : Int) : Bool := l.any (fun b => decide (b < a + blk a) && decide (a < b + blk b))
def gMeet (F T : Int) (blk : Int → Int) (l : List Int) (w : Int) : Option (List Int) :=
  if gLeads F T w = false then some l else if w % 4 ≠ 0 then none else if w / 4 ∈ l then some l else if blk (w / 4) = 0 then none else if gOver blk l (w / 4) = true then none else some (l ++ [w / 4])
def gFold (F T : Int) (blk : Int → Int) : List Int → List Int → Option (List Int)
  | l, [] => some l
  | l, w :: r => (gMeet F T blk l w).bind fun l' => gFold F T blk l' r
/-- the words of a block but the first -/
def gKids (m : List Int) (blk : Int → Int) (a : Int) : List Int := (m.take (a + blk a).toNat).drop (a + 1).toNat
def gLoop (m : List Int) (F T : Int) (blk : Int → Int) : Nat → Nat → List Int → Option (Option (List Int))
  | 0, _, _ => none
  | k + 1, i, l => if h : i < l.length then (match gFold F T blk l (gKids m blk l[i]) with | none => some none | some l' => gLoop m F T blk k (i + 1) l') else some (some l)
/-- a block at a place: none, or in the half's end -/
def BlkOk (F T : Int) (blk : Int → Int) : Prop := ∀ a, F ≤ a → a < T → blk a = 0 ∨ (2 ≤ blk a ∧ a + blk a ≤ T)
/-- the blocks that are met: in the half, apart -/
structure GInv (F T : Int) (blk : Int → Int) (l : List Int) : Prop where
  mem : ∀ a, a ∈ l → F ≤ a ∧ 2 ≤ blk a ∧ a + blk a ≤ T
  apart : l.Pairwise (fun a b => a + blk a ≤ b ∨ b + blk b ≤ a)
theorem gWords_append (blk : Int → Int) (l r : List Int) : gWords blk (l ++ r) = gWords blk l + gWords blk r := by
  induction l with
  | nil => simp [gWords]
  | cons a l ih => simp only [List.cons_append, gWords, ih]; omega
theorem GInv.nil (F T : Int) (blk : Int → Int) : GInv F T blk [] := ⟨fun _ h => by simp at h, .nil⟩
theorem gOver_false {blk : Int → Int} {l : List Int} {a : Int} (h : gOver blk l a = false) : ∀ b ∈ l, a + blk a ≤ b ∨ b + blk b ≤ a := by
  intro b hb
  unfold gOver at h
  rw [List.any_eq_false] at h
  have := h b hb
  simp only [Bool.and_eq_true, decide_eq_true_eq] at this
  omega
theorem gLeads_true {F T w : Int} (h : gLeads F T w = true) : w % 2 = 0 ∧ 4 * F ≤ w ∧ w < 4 * T := by
  unfold gLeads at h
  simpa using h
theorem gMeet_inv {F T : Int} {blk : Int → Int} (hb : BlkOk F T blk) {l l' : List Int} {w : Int} (hi : GInv F T blk l) (h : gMeet F T blk l w = some l') : GInv F T blk l' := by
  unfold gMeet at h
  split at h
  · injection h with h; subst h; exact hi
  rename_i hl
  have hl2 := gLeads_true (by simpa using hl)
  split at h
  · cases h
  rename_i h4
  split at h
  · injection h with h; subst h; exact hi
  split at h
  · cases h
  rename_i h0
  split at h
  · cases h
  rename_i ho
  injection h with h
  subst h
  have ho2 := gOver_false (by simpa using ho)
  have hk := hb (w / 4) (by omega) (by omega)
  refine ⟨?_, ?_⟩
  · intro a ha
    rcases List.mem_append.1 ha with ha | ha
    · exact hi.mem a ha
    · obtain rfl := List.mem_singleton.1 ha
      exact ⟨by omega, by omega, by omega⟩
  · rw [List.pairwise_append]
    refine ⟨hi.apart, by simp, ?_⟩
    intro a ha b hb'
    obtain rfl := List.mem_singleton.1 hb'
    exact (ho2 a ha).symm
theorem gFold_inv {F T : Int} {blk : Int → Int} (hb : BlkOk F T blk) : ∀ (r l l' : List Int), GInv F T blk l → gFold F T blk l r = some l' → GInv F T blk l'
  | [], l, l', hi, h => by
    rw [gFold] at h
    injection h with h; subst h; exact hi
  | w :: r, l, l', hi, h => by
    rw [gFold] at h
    obtain ⟨l1, h1, h2⟩ := Option.bind_eq_some_iff.1 h
    exact gFold_inv hb r l1 l' (gMeet_inv hb hi h1) h2
/-- blocks that are apart in [F, T) have at most T - F words -/
theorem words_le (blk : Int → Int) : ∀ (n : Nat) (F T : Int) (l : List Int), l.length ≤ n → F ≤ T → (∀ a, a ∈ l → F ≤ a ∧ 0 ≤ blk a ∧ a + blk a ≤ T) → l.Pairwise (fun a b => a + blk a ≤ b ∨ b + blk b ≤ a) → gWords blk l ≤ T - F := by
  intro n
  induction n with
  | zero =>
    intro F T l hn hFT hm hp
    obtain rfl := List.length_eq_zero_iff.1 (Nat.le_zero.1 hn)
    simp [gWords]; omega
  | succ n ih =>
    intro F T l hn hFT hm hp
    cases l with
    | nil => simp [gWords]; omega
    | cons a r =>
      rw [List.pairwise_cons] at hp
      have ha := hm a (by simp)
      have hr : r.length ≤ n := by simpa using hn
      have key : gWords blk (r.filter (fun b => decide (b + blk b ≤ a))) + gWords blk (r.filter (fun b => !decide (b + blk b ≤ a))) = gWords blk r := by
        have : ∀ q : List Int, gWords blk (q.filter (fun b => decide (b + blk b ≤ a))) + gWords blk (q.filter (fun b => !decide (b + blk b ≤ a))) = gWords blk q := by
          intro q
          induction q with
          | nil => simp [gWords]
          | cons b q ih =>
            by_cases hb : b + blk b ≤ a
            · simp only [List.filter_cons, hb, decide_true, if_true, Bool.not_true, gWords, Bool.false_eq_true, if_false]; omega
            · simp only [List.filter_cons, hb, decide_false, if_true, Bool.not_false, gWords, Bool.false_eq_true, if_false]; omega
        exact this r
      have l1 := List.length_filter_le (fun b => decide (b + blk b ≤ a)) r
      have l2 := List.length_filter_le (fun b => !decide (b + blk b ≤ a)) r
      have e1 := ih F a (r.filter (fun b => decide (b + blk b ≤ a))) (by omega) ha.1 (fun b hb => by
        have hb2 := List.mem_filter.1 hb
        have := hm b (by simp [hb2.1])
        have h3 : b + blk b ≤ a := by simpa using hb2.2
        exact ⟨this.1, this.2.1, h3⟩) (hp.2.sublist List.filter_sublist)
      have e2 := ih (a + blk a) T (r.filter (fun b => !decide (b + blk b ≤ a))) (by omega) ha.2.2 (fun b hb => by
        have hb2 := List.mem_filter.1 hb
        have := hm b (by simp [hb2.1])
        have h3 : ¬ b + blk b ≤ a := by simpa using hb2.2
        have h4 := hp.1 b hb2.1
        exact ⟨by omega, this.2.1, this.2.2⟩) (hp.2.sublist List.filter_sublist)
      simp only [gWords]
      omega
theorem GInv.words {F T : Int} {blk : Int → Int} {l : List Int} (h : GInv F T blk l) (hFT : F ≤ T) : gWords blk l ≤ T - F :=
  words_le blk l.length F T l (Nat.le_refl _) hFT (fun a ha => by have := h.mem a ha; omega) h.apart
theorem GInv.words_len {F T : Int} {blk : Int → Int} {l : List Int} (h : GInv F T blk l) : 2 * (l.length : Int) ≤ gWords blk l := by
  have hm := h.mem
  clear h
  induction l with
  | nil => simp [gWords]
  | cons a r ih =>
    have h1 := hm a (by simp)
    have h2 := ih (fun b hb => hm b (by simp [hb]))
    simp only [gWords, List.length_cons]
    omega
/-- all that is reached; none: a word leads to where no block may be -/
def gReach (m : List Int) (F T : Int) (blk : Int → Int) (roots : List Int) : Option (List Int) := (gFold F T blk [] roots).bind fun l => (gLoop m F T blk (m.length + 1) 0 l).getD none
theorem gMeet_len {F T : Int} {blk : Int → Int} {l l' : List Int} {w : Int} (h : gMeet F T blk l w = some l') : ∃ r, l' = l ++ r := by
  unfold gMeet at h
  repeat' split at h
  all_goals first | (injection h with h; subst h; first | exact ⟨_, rfl⟩ | exact ⟨[], by simp⟩) | cases h
theorem gFold_len {F T : Int} {blk : Int → Int} : ∀ (r l l' : List Int), gFold F T blk l r = some l' → ∃ q, l' = l ++ q
  | [], l, l', h => by
    rw [gFold] at h
    injection h with h; subst h; exact ⟨[], by simp⟩
  | w :: r, l, l', h => by
    rw [gFold] at h
    obtain ⟨l1, h1, h2⟩ := Option.bind_eq_some_iff.1 h
    obtain ⟨q1, rfl⟩ := gMeet_len h1
    obtain ⟨q2, rfl⟩ := gFold_len r _ l' h2
    exact ⟨q1 ++ q2, by simp⟩
theorem GInv.len {F T : Int} {blk : Int → Int} {l : List Int} (h : GInv F T blk l) (hFT : F ≤ T) : 2 * (l.length : Int) ≤ T - F := by
  have := h.words hFT
  have := h.words_len
  omega
theorem gLoop_ends {m : List Int} {F T : Int} {blk : Int → Int} (hb : BlkOk F T blk) (hFT : F ≤ T) : ∀ (k i : Nat) (l : List Int), GInv F T blk l → i ≤ l.length → T - F < k + i → ∃ r, gLoop m F T blk k i l = some r
  | 0, i, l, hi, hl, hk => by have := hi.len hFT; omega
  | k + 1, i, l, hi, hl, hk => by
    rw [gLoop]
    by_cases h : i < l.length
    · rw [dif_pos h]
      cases e : gFold F T blk l (gKids m blk l[i]) with
      | none => exact ⟨_, rfl⟩
      | some l' =>
        have hi' := gFold_inv hb _ _ _ hi e
        obtain ⟨q, rfl⟩ := gFold_len _ _ _ e
        exact gLoop_ends hb hFT k (i + 1) _ hi' (by simp; omega) (by omega)
    · rw [dif_neg h]; exact ⟨_, rfl⟩
theorem gLoop_inv {m : List Int} {F T : Int} {blk : Int → Int} (hb : BlkOk F T blk) : ∀ (k i : Nat) (l l' : List Int), GInv F T blk l → gLoop m F T blk k i l = some (some l') → GInv F T blk l'
  | 0, i, l, l', hi, h => by simp [gLoop] at h
  | k + 1, i, l, l', hi, h => by
    rw [gLoop] at h
    by_cases hl : i < l.length
    · rw [dif_pos hl] at h
      cases e : gFold F T blk l (gKids m blk l[i]) with
      | none => rw [e] at h; simp at h
      | some l1 =>
        rw [e] at h
        exact gLoop_inv hb k (i + 1) l1 l' (gFold_inv hb _ _ _ hi e) h
    · rw [dif_neg hl] at h
      injection h with h; injection h with h; subst h; exact hi
theorem gReach_inv {m : List Int} {F T : Int} {blk : Int → Int} (hb : BlkOk F T blk) (hFT : F ≤ T) (hF : 0 ≤ F) (hT : T ≤ m.length) {roots l : List Int} (h : gReach m F T blk roots = some l) : GInv F T blk l := by
  unfold gReach at h
  obtain ⟨l1, h1, h2⟩ := Option.bind_eq_some_iff.1 h
  have hi := gFold_inv hb _ _ _ (GInv.nil F T blk) h1
  obtain ⟨r, hr⟩ := gLoop_ends (m := m) hb hFT (m.length + 1) 0 l1 hi (by omega) (by omega)
  rw [hr] at h2
  have h2' : r = some l := h2
  subst h2'
  exact gLoop_inv hb _ _ _ _ hi hr
end Go.Proofs.Ytnkbfbhhioemoaa.Q

--@needs XAw
--@needs XAwMap
--@needs XAwSl
--@needs XAwFrame
--@needs XGcModel
--@uses (camlet/gc.half).leads
--@uses (camlet/gc.half).block
namespace Go.Proofs.Ytnkbfbhhioemoaa.Q
open Go.RowKit Go.Proofs.YtnkbfbhhioemoaaW.PrintWords Go.Proofs.YtnkbfbhhioemoaaW.PrintLast Go.Proofs.YtnkbfbhhioemoaaW.PrintMore
attribute [local go_sem] max2_int min2_int max_two min_two max_three min_three max_four min_four   -- for this text's walks alone
set_option linter.unusedVariables false
set_option linter.unusedSimpArgs false

open Go.Maps
def sizesF (blk : Int → Int) (l : List Int) : Lit → Option Int
  | .int .i64 a => if a ∈ l then some (blk a) else none
  | _ => none
/-- what has a word, when j words of the block at a are taken -/
def takenF (blk : Int → Int) (l : List Int) (a : Int) (j : Int) : Lit → Option Int
  | .int .i64 i => if a ≤ i ∧ i < a + j then some a else gHit blk l i
  | _ => none
/-- the collector's blocks of memory -/
abbrev gcL (blk : Int → Int) (gc sm tm : Nat) (M v : Value) (F T : Int) (l : List Int) : List (Nat × Blk) :=
  [(gc, .c 56 [M, .int .i64 F, .int .i64 T, v, .map (some sm), .map (some tm), .int .i64 (gWords blk l)]),
   (sm, Blk.m Try.prog 3 3 .i64 l.length (sizesF blk l)),
   (tm, Blk.m Try.prog 3 3 .i64 (gWords blk l).toNat (takenF blk l 0 0))]
def GcSt (blk : Int → Int) (S : Nat → Prop) (w W : World) (gc sm tm : Nat) (M : Value) (F T : Int) (l : List Int) : Prop :=
  ∃ v Lv, Own 3 1 v l.length (l.map (Value.int .i64)) Lv ∧ Aw S w W (gcL blk gc sm tm M v F T l ++ Lv)
def GcMeetPost (blk : Int → Int) (S : Nat → Prop) (w : World) (gc sm tm : Nat) (M : Value) (F T : Int) (r : Option (List Int)) (e : Ending) (W' : World) : Prop :=
  match r with
  | none => e = .returned (.bool false) ∧ Kp S w W'
  | some l' => e = .returned (.bool true) ∧ GcSt blk S w W' gc sm tm M F T l'
theorem ii_under : Try.prog.underlying 54 = some (.map 3 3) := by kernel_rfl
theorem i_under : Try.prog.underlying 3 = some (.int .i64) := by kernel_rfl
theorem i_keyed : Keyed Try.prog 3 := int_keyed i_under
theorem i_zero (W : World) : (zeroValue 3).run Try.prog W = .ok (.int .i64 0) W := by kernel_rfl
theorem i_wf {a : Int} (h0 : -9223372036854775808 ≤ a) (h : a ≤ 9223372036854775807) : (Lit.int .i64 a).wf = true := by
  show (decide (IntKind.i64.min ≤ a) && decide (a ≤ IntKind.i64.max)) = true
  have h1 : IntKind.i64.min = -9223372036854775808 := by decide
  have h2 : IntKind.i64.max = 9223372036854775807 := by decide
  rw [h1, h2]
  simp only [Bool.and_eq_true, decide_eq_true_eq]
  exact ⟨h0, h⟩
theorem i_key {a : Int} (h0 : -9223372036854775808 ≤ a) (h : a ≤ 9223372036854775807) : keyOf Try.prog 3 (.int .i64 a) = some (.int .i64 a) := keyOf_int_mk i_under (i_wf h0 h)
theorem int_infoG : (Try.prog.info? 3).map (fun i => (i.zero, i.size, i.bytes)) = some (some (.int .i64 0), 1, 8) := by kernel_rfl
theorem takenF_zero (blk : Int → Int) (l : List Int) (a : Int) : takenF blk l a 0 = takenF blk l 0 0 := by
  funext k
  unfold takenF
  split
  · rw [if_neg (by omega), if_neg (by omega)]
  · rfl
theorem takenF_put (blk : Int → Int) (l : List Int) (a j : Int) (hj : 0 ≤ j) : putf (takenF blk l a j) (.int .i64 (a + j)) a = takenF blk l a (j + 1) := by
  funext k
  unfold putf takenF
  by_cases e : k = .int .i64 (a + j)
  · subst e; rw [if_pos rfl]; exact (if_pos (by omega)).symm
  · rw [if_neg e]
    split
    · rename_i i
      have : i ≠ a + j := fun h => e (by rw [h])
      by_cases h : a ≤ i ∧ i < a + j
      · rw [if_pos h, if_pos (by omega)]
      · rw [if_neg h, if_neg (by omega)]
    · rfl
theorem gHit_some {blk : Int → Int} {l : List Int} {i b : Int} (h : gHit blk l i = some b) : b ∈ l ∧ b ≤ i ∧ i < b + blk b := by
  have h1 := List.find?_some h
  have h2 := List.mem_of_find?_eq_some h
  simp only [Bool.and_eq_true, decide_eq_true_eq] at h1
  exact ⟨h2, h1.1, h1.2⟩
theorem gHit_none {blk : Int → Int} {l : List Int} {i : Int} (h : gHit blk l i = none) (b : Int) (hb : b ∈ l) (h1 : b ≤ i) : b + blk b ≤ i := by
  have := List.find?_eq_none.1 h b hb
  simp only [Bool.and_eq_true, decide_eq_true_eq] at this
  omega
theorem takenF_new {blk : Int → Int} {l : List Int} {a : Int} (hn : ∀ j : Nat, (j : Int) < blk a → gHit blk l (a + j) = none) : takenF blk l a (blk a) = takenF blk (l ++ [a]) 0 0 := by
  funext k
  unfold takenF
  split
  · rename_i i
    rw [if_neg (show ¬ ((0 : Int) ≤ i ∧ i < 0 + 0) by omega)]
    unfold gHit
    rw [List.find?_append]
    by_cases h : a ≤ i ∧ i < a + blk a
    · rw [if_pos h]
      have := hn (i - a).toNat (by omega)
      rw [show a + ((i - a).toNat : Int) = i by omega] at this
      unfold gHit at this
      rw [this]
      simp [h]
    · rw [if_neg h]
      have e : ([a] : List Int).find? (fun b => decide (b ≤ i) && decide (i < b + blk b)) = none := by
        rw [List.find?_eq_none]
        intro b hb
        obtain rfl := List.mem_singleton.1 hb
        simp only [Bool.and_eq_true, decide_eq_true_eq]
        exact h
      rw [e]; simp
  · rfl
theorem sizesF_new (blk : Int → Int) (l : List Int) (a : Int) : putf (sizesF blk l) (.int .i64 a) (blk a) = sizesF blk (l ++ [a]) := by
  funext k
  unfold putf sizesF
  by_cases e : k = .int .i64 a
  · subst e; rw [if_pos rfl]; exact (if_pos (by simp)).symm
  · rw [if_neg e]
    split
    · rename_i i
      have : i ≠ a := fun h => e (by rw [h])
      by_cases h : i ∈ l
      · rw [if_pos h, if_pos (by simp [h])]
      · rw [if_neg h, if_neg (by simp [h, this])]
    · rfl
theorem Own.form {e size n : Nat} {v : Value} {xs : List Value} {Lv : List (Nat × Blk)} (h : Own e size v n xs Lv) : ∃ A c, v = .slice A n c := by
  obtain ⟨_, ⟨rfl, hn, _⟩ | ⟨g, cap, rfl, _, _⟩⟩ := h
  · exact ⟨none, 0, by rw [hn]⟩
  · exact ⟨_, _, rfl⟩
theorem gOver_hit {F T : Int} {blk : Int → Int} {l : List Int} {a : Int} (hi : GInv F T blk l) (h0 : 0 < blk a) : gOver blk l a = true ↔ ∃ j : Nat, (j : Int) < blk a ∧ (gHit blk l (a + j)).isSome = true := by
  constructor
  · intro h
    unfold gOver at h
    obtain ⟨b, hb, h2⟩ := List.any_eq_true.1 h
    simp only [Bool.and_eq_true, decide_eq_true_eq] at h2
    have hm := hi.mem b hb
    by_cases hab : a ≤ b
    · refine ⟨(b - a).toNat, by omega, ?_⟩
      cases e : gHit blk l (a + ((b - a).toNat : Int)) with
      | some _ => rfl
      | none => have := gHit_none e b hb (by omega); omega
    · refine ⟨0, by omega, ?_⟩
      cases e : gHit blk l (a + ((0 : Nat) : Int)) with
      | some _ => rfl
      | none => have := gHit_none e b hb (by omega); omega
  · rintro ⟨j, hj, h⟩
    obtain ⟨b, e⟩ := Option.isSome_iff_exists.1 h
    have := gHit_some e
    unfold gOver
    rw [List.any_eq_true]
    exact ⟨b, this.1, by simp only [Bool.and_eq_true, decide_eq_true_eq]; omega⟩
set_option maxHeartbeats 4000000 in
set_option maxRecDepth 100000 in
theorem gc_meet.calls {S : Nat → Prop} {w W : World} {gc sm tm : Nat} {A0 : Option Addr} {c0 : Nat} {m : List Int} {F T : Int} {l : List Int} {blk : Int → Int} (x : Int) (hm : Kd.C (Kd.int .u32) W A0 m.length m) (hc : m.length ≤ c0) (hlen : m.length ≤ 1000000) (hF : 0 ≤ F) (hFT : F ≤ T) (hT : T ≤ m.length)
    (hbf : ∀ a, F ≤ a → a < T → gc_half_block.f m F T a = some (blk a)) (hbo : BlkOk F T blk) (hi : GInv F T blk l) (hx0 : 0 ≤ x) (hx1 : x < 4294967296) (HS : GcSt blk S w W gc sm tm (.slice A0 m.length c0) F T l) :
    Calls Try.prog 35 #[.pointer (some ⟨gc, 0, none⟩), .int .u32 x] W (GcMeetPost blk S w gc sm tm (.slice A0 m.length c0) F T (gMeet F T blk l x)) := by
  obtain ⟨v, Lv, hown, HA⟩ := HS
  have hlf : gc_half_leads.f m F T x = some (gLeads F T x) := by
    unfold gc_half_leads.f gLeads
    rw [Int.tmod_eq_emod_of_nonneg hx0]
    have e1 : wrap64 x = x := by unfold wrap64; omega
    have e2 : wrap64 (4 * F) = 4 * F := by unfold wrap64; omega
    have e3 : wrap64 (4 * T) = 4 * T := by unfold wrap64; omega
    rw [e1, e2, e3]
    by_cases h1 : x % 2 = 0
    · by_cases h2 : 4 * F ≤ x
      · simp [h1, h2]
      · have : ¬ x ≥ 4 * F := by omega
        simp [h1, h2]
    · simp [h1]
  have hlead : ∀ W', Kd.C (Kd.int .u32) W' A0 m.length m → Calls Try.prog 24 #[.agg #[.slice A0 m.length c0, .int .i64 F, .int .i64 T], .int .u32 x] W' fun e w' => e = .returned (.bool (gLeads F T x)) ∧ Below W'.heap.size W' w' := fun W' h => gc_half_leads.calls A0 c0 m F T x _ W' h hc hlf
  clear hlf
  have hm_ := hm
  clear hm
  have Hbf := Lib.hid hbf
  have Hbo := Lib.hid hbo
  have Hi := Lib.hid hi
  clear hbf hbo hi
  unfold gMeet
  cases hl : gLeads F T x
  case false =>
    rw [hl] at hlead
    rw [if_pos rfl]
    go_enter Try.func35, Try.ntmps35
    go_wp2_with (first | (go_at_call 24; refine (hlead _ hm_).mono ?_; rintro e W_ ⟨rfl, hb_⟩; replace HA := HA.call hb_; have hm_ := Kd.C_below hm_ hb_; clear hb_) | ((with_reducible refine gate_ld rfl ?_); (first | refine aw_loadA 0 (t := 52) (j := 0) rfl rfl HA rfl rfl 3 ?_ rfl rfl ?_ | refine aw_load 0 rfl rfl HA rfl rfl rfl ?_ ?_); kernel_rfl; simp only [Act.put, List.setIfInBounds_toArray, List.set_cons_succ, List.set_cons_zero]))
    go_ret
    exact ⟨rfl, v, Lv, hown, HA⟩
  case true =>
  rw [hl] at hlead
  rw [if_neg (by decide)]
  have hle := gLeads_true hl
  clear hl
  by_cases h4 : x % 4 = 0
  case neg =>
    rw [if_pos h4]
    have c4 : (x % 4 != 0) = true := bne_iff_ne.mpr h4
    go_enter Try.func35, Try.ntmps35
    go_wp2_with (first | (go_at_call 24; refine (hlead _ hm_).mono ?_; rintro e W_ ⟨rfl, hb_⟩; replace HA := HA.call hb_; have hm_ := Kd.C_below hm_ hb_; clear hb_) | ((with_reducible refine gate_ld rfl ?_); (first | refine aw_loadA 0 (t := 52) (j := 0) rfl rfl HA rfl rfl 3 ?_ rfl rfl ?_ | refine aw_load 0 rfl rfl HA rfl rfl rfl ?_ ?_); kernel_rfl; simp only [Act.put, List.setIfInBounds_toArray, List.set_cons_succ, List.set_cons_zero]))
    go_ret
    exact ⟨rfl, HA.1⟩
  rw [if_neg (by omega)]
  have c4 : (x % 4 != 0) = false := bne_eq_false_iff_eq.mpr h4
  have hkx : keyOf Try.prog 3 (.int .i64 (x / 4)) = some (.int .i64 (x / 4)) := i_key (by omega) (by omega)
  by_cases hin : x / 4 ∈ l
  · rw [if_pos hin]
    have hsz : sizesF blk l (.int .i64 (x / 4)) = some (blk (x / 4)) := if_pos hin
    go_enter Try.func35, Try.ntmps35
    go_wp2_with (first | (go_at_call 24; refine (hlead _ hm_).mono ?_; rintro e W_ ⟨rfl, hb_⟩; replace HA := HA.call hb_; have hm_ := Kd.C_below hm_ hb_; clear hb_) | ((with_reducible refine gate_dst (N := 31) rfl ?_); refine aw_lookup_ok 1 (f := sizesF blk l) (kl := .int .i64 (x / 4)) i_keyed ii_under i_under i_zero rfl rfl rfl rfl HA rfl hkx hsz ?_; simp only [Act.put, List.setIfInBounds_toArray, List.set_cons_succ, List.set_cons_zero]) | ((with_reducible refine gate_ld rfl ?_); (first | refine aw_loadA 0 (t := 52) (j := 0) rfl rfl HA rfl rfl 3 ?_ rfl rfl ?_ | refine aw_load 0 rfl rfl HA rfl rfl rfl ?_ ?_); kernel_rfl; simp only [Act.put, List.setIfInBounds_toArray, List.set_cons_succ, List.set_cons_zero]))
    go_ret
    exact ⟨rfl, v, Lv, hown, HA⟩
  rw [if_neg hin]
  have hsz : sizesF blk l (.int .i64 (x / 4)) = none := if_neg hin
  have hblk : ∀ W', Kd.C (Kd.int .u32) W' A0 m.length m → Calls Try.prog 43 #[.agg #[.slice A0 m.length c0, .int .i64 F, .int .i64 T], .int .i64 (x / 4)] W' fun e w' => e = .returned (.int .i64 (blk (x / 4))) ∧ Below W'.heap.size W' w' := fun W' h => gc_half_block.calls A0 c0 m F T (x / 4) _ W' h hc (Hbf.out _ (by omega) (by omega))
  by_cases hb0 : blk (x / 4) = 0
  · rw [if_pos hb0]
    have cb := beq_iff_eq.mpr hb0
    go_enter Try.func35, Try.ntmps35
    go_wp2_with (first | (go_at_call 24; refine (hlead _ hm_).mono ?_; rintro e W_ ⟨rfl, hb_⟩; replace HA := HA.call hb_; have hm_ := Kd.C_below hm_ hb_; clear hb_) | ((with_reducible refine gate_dst (N := 31) rfl ?_); refine aw_lookup_ok 1 (f := sizesF blk l) (kl := .int .i64 (x / 4)) i_keyed ii_under i_under i_zero rfl rfl rfl rfl HA rfl hkx hsz ?_; simp only [Act.put, List.setIfInBounds_toArray, List.set_cons_succ, List.set_cons_zero]) | (go_at_call 43; refine (hblk _ hm_).mono ?_; rintro e W_ ⟨rfl, hb_⟩; replace HA := HA.call hb_; have hm_ := Kd.C_below hm_ hb_; clear hb_) | ((with_reducible refine gate_ld rfl ?_); (first | refine aw_loadA 0 (t := 52) (j := 0) rfl rfl HA rfl rfl 3 ?_ rfl rfl ?_ | refine aw_load 0 rfl rfl HA rfl rfl rfl ?_ ?_); kernel_rfl; simp only [Act.put, List.setIfInBounds_toArray, List.set_cons_succ, List.set_cons_zero]))
    go_ret
    exact ⟨rfl, HA.1⟩
  rw [if_neg hb0]
  have hbd := Hbo.out (x / 4) (by omega) (by omega)
  have hbd2 : 2 ≤ blk (x / 4) ∧ x / 4 + blk (x / 4) ≤ T := by omega
  have hov := gOver_hit (a := x / 4) Hi.out (by omega)
  have hwl := Hi.out.words hFT
  have hwn := Hi.out.words_len
  obtain ⟨res, hres⟩ : ∃ res, (if gOver blk l (x / 4) = true then none else some (l ++ [x / 4])) = res := ⟨_, rfl⟩
  rw [hres]
  have Hres := Lib.hid hres
  have Hov := Lib.hid hov
  have cb := beq_eq_false_iff_ne.mpr hb0
  clear hres hov hbd
  go_enter Try.func35, Try.ntmps35
  go_wp2_with (first | (go_at_call 24; refine (hlead _ hm_).mono ?_; rintro e W_ ⟨rfl, hb_⟩; replace HA := HA.call hb_; have hm_ := Kd.C_below hm_ hb_; clear hb_) | ((with_reducible refine gate_dst (N := 31) rfl ?_); refine aw_lookup_ok 1 (f := sizesF blk l) (kl := .int .i64 (x / 4)) i_keyed ii_under i_under i_zero rfl rfl rfl rfl HA rfl hkx hsz ?_; simp only [Act.put, List.setIfInBounds_toArray, List.set_cons_succ, List.set_cons_zero]) | (go_at_call 43; refine (hblk _ hm_).mono ?_; rintro e W_ ⟨rfl, hb_⟩; replace HA := HA.call hb_; have hm_ := Kd.C_below hm_ hb_; clear hb_) | ((with_reducible refine gate_ld rfl ?_); (first | refine aw_loadA 0 (t := 52) (j := 0) rfl rfl HA rfl rfl 3 ?_ rfl rfl ?_ | refine aw_load 0 rfl rfl HA rfl rfl rfl ?_ ?_); kernel_rfl; simp only [Act.put, List.setIfInBounds_toArray, List.set_cons_succ, List.set_cons_zero]))
  go_loopw [9] (fun i wr => ∃ (j : Nat), (j : Int) ≤ blk (x / 4) ∧ i = .int .i64 (x / 4 + j) ∧ (∀ j' : Nat, j' < j → gHit blk l (x / 4 + j') = none) ∧ Aw S w wr ((gc, .c 56 [.slice A0 m.length c0, .int .i64 F, .int .i64 T, v, .map (some sm), .map (some tm), .int .i64 (gWords blk l)]) :: (sm, Blk.m Try.prog 3 3 .i64 l.length (sizesF blk l)) :: (tm, Blk.m Try.prog 3 3 .i64 ((gWords blk l).toNat + j) (takenF blk l (x / 4) j)) :: Lv)) (fun i _ => (x / 4 + blk (x / 4) - intOf i).toNat)
  case atStart => exact ⟨0, by omega, by simp, by omega, by rw [Int.natCast_zero, takenF_zero]; exact HA⟩
  case round =>
    obtain ⟨j, hj, rfl, hno, HA⟩ := hrel
    have Hno := Lib.hid hno
    clear hno
    by_cases hlt : (j : Int) < blk (x / 4)
    · have hkj : keyOf Try.prog 3 (.int .i64 (x / 4 + j)) = some (.int .i64 (x / 4 + j)) := i_key (by omega) (by omega)
      have cj : decide (x / 4 + (j : Int) < x / 4 + blk (x / 4)) = true := decide_eq_true (by omega)
      have htj0 : takenF blk l (x / 4) j (.int .i64 (x / 4 + j)) = gHit blk l (x / 4 + j) := if_neg (by omega)
      obtain ⟨hh, hhe⟩ : ∃ hh, gHit blk l (x / 4 + j) = hh := ⟨_, rfl⟩
      have htj := htj0.trans hhe
      have Hhe := Lib.hid hhe
      clear hhe htj0
      cases hh with
      | some b =>
        go_wp2_with (first | ((with_reducible refine gate_dst (N := 57) rfl ?_); refine aw_lookup_ok 2 (f := takenF blk l (x / 4) j) (kl := .int .i64 (x / 4 + j)) i_keyed ii_under i_under i_zero rfl rfl rfl rfl HA rfl hkj htj ?_; simp only [Act.put, List.setIfInBounds_toArray, List.set_cons_succ, List.set_cons_zero]) | ((with_reducible refine gate_ld rfl ?_); (first | refine aw_loadA 0 (t := 52) (j := 0) rfl rfl HA rfl rfl 3 ?_ rfl rfl ?_ | refine aw_load 0 rfl rfl HA rfl rfl rfl ?_ ?_); kernel_rfl; simp only [Act.put, List.setIfInBounds_toArray, List.set_cons_succ, List.set_cons_zero]))
        go_ret
        have hr : res = none := by rw [← Hres.out]; exact if_pos (Hov.out.2 ⟨j, hlt, by rw [Hhe.out]; rfl⟩)
        subst hr
        exact ⟨rfl, HA.1⟩
      | none =>
        have hwa : (Lit.int .i64 (x / 4)).wf = true := i_wf (by omega) (by omega)
        have hnj : (gWords blk l).toNat + j < maxLen := by unfold maxLen; omega
        go_wp2_with (first | ((with_reducible refine gate_dst (N := 57) rfl ?_); refine aw_lookup_ok 2 (f := takenF blk l (x / 4) j) (kl := .int .i64 (x / 4 + j)) i_keyed ii_under i_under i_zero rfl rfl rfl rfl HA rfl hkj htj ?_; simp only [Act.put, List.setIfInBounds_toArray, List.set_cons_succ, List.set_cons_zero]) | ((with_reducible refine gate_ld rfl ?_); (first | refine aw_loadA 0 (t := 52) (j := 0) rfl rfl HA rfl rfl 3 ?_ rfl rfl ?_ | refine aw_load 0 rfl rfl HA rfl rfl rfl ?_ ?_); kernel_rfl; simp only [Act.put, List.setIfInBounds_toArray, List.set_cons_succ, List.set_cons_zero]) | ((with_reducible refine gate_mu rfl ?_); (refine aw_mapput 2 (kl := .int .i64 (x / 4 + j)) i_keyed ii_under i_under rfl rfl rfl rfl rfl rfl HA rfl hkj hwa hnj ?_); clear HA; intro W_ HA; dsimp only [List.set, List.take, List.cons_append, List.nil_append] at HA))
        go_roundw
        case rel =>
          refine ⟨j + 1, by omega, congrArg (Value.int .i64) (by omega), ?_, ?_⟩
          · intro j' hj'
            rcases Nat.lt_succ_iff_lt_or_eq.1 hj' with h | h
            · exact Hno.out j' h
            · rw [h]; exact Hhe.out
          · refine Aw.congr HA ?_
            rw [htj, takenF_put blk l (x / 4) j (by omega)]
            simp [Nat.add_assoc]
        case measure => simp [intOf]; omega
    · have cj : decide (x / 4 + (j : Int) < x / 4 + blk (x / 4)) = false := decide_eq_false (by omega)
      have hjb : (j : Int) = blk (x / 4) := by omega
      have hwb : (Lit.int .i64 (blk (x / 4))).wf = true := i_wf (by omega) (by omega)
      have hns : l.length < maxLen := by unfold maxLen; omega
      have hap1 : l.length + 1 ≤ maxLen := by unfold maxLen; omega
      have hap2 : (l.length + 1) * 8 ≤ 140737488355328 := by omega
      have Hjb := Lib.hid hjb
      clear hjb
      go_wp2_with (first | ((with_reducible refine gate_dst (N := 73) rfl ?_); refine aw_newv (fun g => .slice (some ⟨g, 0, none⟩) 1 1) 3 [.int .i64 (x / 4)] rfl (fun W => by kernel_rfl) HA ?_; clear HA; intro gn W_ HA; simp only [Act.put, List.setIfInBounds_toArray, List.set_cons_succ, List.set_cons_zero]) | ((with_reducible refine gate_dst (N := 74) rfl ?_); refine aw_append 4 0 rfl Try.underlying53 int_infoG rfl (Nat.le_refl 1) rfl hown rfl rfl HA rfl rfl rfl rfl hap1 hap2 ?_; clear HA; intro v_ W_ Lv_ hown_ HA; obtain ⟨A_, c_, rfl⟩ := hown_.form; dsimp only [List.set, List.take, List.cons_append, List.nil_append] at HA; simp only [Act.put, List.setIfInBounds_toArray, List.set_cons_succ, List.set_cons_zero]) | ((with_reducible refine gate_ld rfl ?_); (first | refine aw_load 0 rfl rfl HA rfl rfl rfl ?_ ?_ | refine aw_load 1 rfl rfl HA rfl rfl rfl ?_ ?_); kernel_rfl; simp only [Act.put, List.setIfInBounds_toArray, List.set_cons_succ, List.set_cons_zero]) | ((with_reducible refine gate_st rfl ?_); (first | refine aw_store 0 (v := .slice _ _ _) rfl rfl rfl rfl rfl HA rfl rfl rfl ?_ ?_ | refine aw_store 1 (v := .slice _ _ _) rfl rfl rfl rfl rfl HA rfl rfl rfl ?_ ?_ | refine aw_store 0 (v := .int _ _) rfl rfl rfl rfl rfl HA rfl rfl rfl ?_ ?_ | refine aw_store 1 (v := .int _ _) rfl rfl rfl rfl rfl HA rfl rfl rfl ?_ ?_); kernel_rfl; clear HA; intro W_ HA; dsimp only [List.set, List.take, List.cons_append, List.nil_append] at HA) | ((with_reducible refine gate_mu rfl ?_); (refine aw_mapput 2 (kl := .int .i64 (x / 4)) i_keyed ii_under i_under rfl rfl rfl rfl rfl rfl HA rfl hkx hwb hns ?_); clear HA; intro W_ HA; dsimp only [List.set, List.take, List.cons_append, List.nil_append] at HA))
      go_ret
      have hov : gOver blk l (x / 4) = false := by
        cases e : gOver blk l (x / 4) with
        | false => rfl
        | true =>
          obtain ⟨j', hj', h⟩ := Hov.out.1 e
          rw [Hno.out j' (by have := Hjb.out; omega)] at h
          cases h
      have hr : res = some (l ++ [x / 4]) := by rw [← Hres.out, hov]; rfl
      subst hr
      refine ⟨rfl, _, Lv_, by simpa using hown_, ?_⟩
      refine Aw.congr (HA.sub (List.sublist_cons_self _ _)) ?_
      have e1 : takenF blk l (x / 4) j = takenF blk (l ++ [x / 4]) 0 0 := by
        rw [Hjb.out]
        exact takenF_new (fun j' h => Hno.out j' (by have := Hjb.out; omega))
      have e2 : gWords blk (l ++ [x / 4]) = gWords blk l + blk (x / 4) := by rw [gWords_append]; simp [gWords]
      have e3 : (gWords blk (l ++ [x / 4])).toNat = (gWords blk l).toNat + j := by rw [e2]; have := Hjb.out; omega
      have e4 : (gWords blk l + blk (x / 4)) = gWords blk (l ++ [x / 4]) := e2.symm
      rw [hsz, sizesF_new, e1, e4, ← e3]
      simp
end Go.Proofs.Ytnkbfbhhioemoaa.Q

--@needs XAw
--@needs XAwMap
--@needs XAwSl
--@needs XAwFrame
--@needs XGcModel
--@needs XHgcMeet
namespace Go.Proofs.Ytnkbfbhhioemoaa.Q
open Go.RowKit Go.Proofs.YtnkbfbhhioemoaaW.PrintWords Go.Proofs.YtnkbfbhhioemoaaW.PrintLast Go.Proofs.YtnkbfbhhioemoaaW.PrintMore
attribute [local go_sem] max2_int min2_int max_two min_two max_three min_three max_four min_four   -- for this text's walks alone
set_option linter.unusedVariables false
set_option linter.unusedSimpArgs false

open Go.Maps
set_option maxHeartbeats 4000000 in
set_option maxRecDepth 100000 in
theorem gc_begin.bad (A0 : Option Addr) (n c : Nat) (F T : Int) (W : World) (h : F < 0 ∨ T < F ∨ (n : Int) < T) :
    Calls Try.prog 20 #[.slice A0 n c, .int .i64 F, .int .i64 T] W fun e W' => e = .returned (.tuple #[.pointer none, .bool false]) ∧ W' = W := by
  by_cases h1 : F < 0
  · have c1 := decide_eq_true h1
    clear h
    go_enter Try.func20, Try.ntmps20
    go_wp2
    go_ret2
    exact ⟨rfl, rfl⟩
  have c1 := decide_eq_false h1
  by_cases h2 : T < F
  · have c2 := decide_eq_true h2
    clear h
    go_enter Try.func20, Try.ntmps20
    go_wp2
    go_ret2
    exact ⟨rfl, rfl⟩
  have c2 := decide_eq_false h2
  have h3 : (n : Int) < T := by omega
  have c3 := decide_eq_true h3
  clear h
  go_enter Try.func20, Try.ntmps20
  go_wp2
  go_ret2
  exact ⟨rfl, rfl⟩
set_option maxHeartbeats 4000000 in
set_option maxRecDepth 100000 in
theorem gc_begin.good (blk : Int → Int) (A0 : Option Addr) (n c : Nat) (F T : Int) (W : World) (h : ¬ (F < 0 ∨ T < F ∨ (n : Int) < T)) :
    Calls Try.prog 20 #[.slice A0 n c, .int .i64 F, .int .i64 T] W fun e W' => ∃ gc sm tm, e = .returned (.tuple #[.pointer (some ⟨gc, 0, none⟩), .bool true]) ∧ Aw noS W W' (gcL blk gc sm tm (.slice A0 n c) (.slice none 0 0) F T []) := by
  have HA := Aw.start noS W
  have c1 : decide (F < 0) = false := decide_eq_false (by omega)
  have c2 : decide (T < F) = false := decide_eq_false (by omega)
  have c3 : decide ((n : Int) < T) = false := decide_eq_false (by omega)
  clear h
  go_enter Try.func20, Try.ntmps20
  go_wp2_with (first | ((with_reducible refine gate_dst (N := 25) rfl ?_); refine aw_makemap 3 3 .i64 rfl rfl HA ?_; clear HA; intro sm W_ HA; simp only [Act.put, List.setIfInBounds_toArray, List.set_cons_succ, List.set_cons_zero]) | ((with_reducible refine gate_dst (N := 26) rfl ?_); refine aw_makemap 3 3 .i64 rfl rfl HA ?_; clear HA; intro tm W_ HA; simp only [Act.put, List.setIfInBounds_toArray, List.set_cons_succ, List.set_cons_zero]) | ((with_reducible refine gate_dst (N := 28) rfl ?_); refine aw_box rfl rfl rfl HA ?_; clear HA; intro gc W_ HA; simp only [Act.put, List.setIfInBounds_toArray, List.set_cons_succ, List.set_cons_zero]))
  go_ret2
  refine ⟨gc, sm, tm, rfl, ?_⟩
  have e : takenF blk [] 0 0 = fun _ => none := by
    funext k
    unfold takenF
    split
    · rw [if_neg (by omega)]; rfl
    · rfl
  have e2 : sizesF blk [] = fun _ => none := by
    funext k
    unfold sizesF
    split
    · simp
    · rfl
  have e3 : gWords blk [] = 0 := rfl
  refine Aw.congr (Aw.perm HA (List.Perm.cons _ (List.Perm.swap _ _ []))) ?_
  rw [gcL, e, e2, e3]
  rfl
/-- what the collector knows of its memory -/
structure GcEnv (S : Nat → Prop) (w : World) (A0 : Option Addr) (c0 : Nat) (m : List Int) (F T : Int) (blk : Int → Int) : Prop where
  reads : ∀ W', Kp S w W' → Kd.C (Kd.int .u32) W' A0 m.length m
  cap : m.length ≤ c0
  len : m.length ≤ 1000000
  h0 : 0 ≤ F
  h1 : F ≤ T
  h2 : T ≤ m.length
  blkf : ∀ a, F ≤ a → a < T → gc_half_block.f m F T a = some (blk a)
  ok : BlkOk F T blk
  vals : ∀ x ∈ m, 0 ≤ x ∧ x < 4294967296
theorem GcEnv.meet {S : Nat → Prop} {w W : World} {gc sm tm : Nat} {A0 : Option Addr} {c0 : Nat} {m : List Int} {F T : Int} {l : List Int} {blk : Int → Int} (h : GcEnv S w A0 c0 m F T blk) (x : Int) (hi : GInv F T blk l) (hx : 0 ≤ x ∧ x < 4294967296) (HS : GcSt blk S w W gc sm tm (.slice A0 m.length c0) F T l) :
    Calls Try.prog 35 #[.pointer (some ⟨gc, 0, none⟩), .int .u32 x] W (GcMeetPost blk S w gc sm tm (.slice A0 m.length c0) F T (gMeet F T blk l x)) := by
  have hk : Kp S w W := by obtain ⟨v, Lv, _, HA⟩ := HS; exact HA.1
  exact gc_meet.calls x (h.reads W hk) h.cap h.len h.h0 h.h1 h.h2 h.blkf h.ok hi hx.1 hx.2 HS
theorem rd_mem {l : List Int} {i : Int} (h0 : 0 ≤ i) (h1 : i < l.length) : rd l i ∈ l := by
  unfold rd
  rw [List.getD_eq_getElem?_getD, List.getElem?_eq_getElem (show i.toNat < l.length by omega)]
  exact List.getElem_mem _
theorem drop_rd {l : List Int} {k : Nat} (h : k < l.length) : l.drop k = rd l k :: l.drop (k + 1) := by
  unfold rd
  rw [List.drop_eq_getElem_cons h, Int.toNat_natCast, List.getD_eq_getElem?_getD, List.getElem?_eq_getElem h]
  rfl
theorem GcSt.kp {blk : Int → Int} {S : Nat → Prop} {w W : World} {gc sm tm : Nat} {M : Value} {F T : Int} {l : List Int} (h : GcSt blk S w W gc sm tm M F T l) : Kp S w W := by
  obtain ⟨v, Lv, _, HA⟩ := h; exact HA.1
set_option maxHeartbeats 4000000 in
set_option maxRecDepth 100000 in
theorem gc_reach.calls {S : Nat → Prop} {w W : World} {gc sm tm : Nat} {A0 A3 : Option Addr} {c0 c3 : Nat} {m roots : List Int} {F T : Int} {blk : Int → Int} (HE : GcEnv S w A0 c0 m F T blk)
    (hr : ∀ W', Kp S w W' → Kd.C (Kd.int .u32) W' A3 roots.length roots) (hc3 : roots.length ≤ c3) (hlr : roots.length ≤ 1000000) (hrr : ∀ x ∈ roots, 0 ≤ x ∧ x < 4294967296) (HS : GcSt blk S w W gc sm tm (.slice A0 m.length c0) F T []) :
    Calls Try.prog 22 #[.pointer (some ⟨gc, 0, none⟩), .slice A3 roots.length c3] W (GcMeetPost blk S w gc sm tm (.slice A0 m.length c0) F T (gReach m F T blk roots)) := by
  have HE' := Lib.hid HE
  have HR' := Lib.hid hr
  have Hrr := Lib.hid hrr
  have hT := HE.h2
  have hlen := HE.len
  have hF0 := HE.h0
  have hFT := HE.h1
  have hcap := HE.cap
  clear HE hr hrr
  obtain ⟨res, hres⟩ : ∃ res, gReach m F T blk roots = res := ⟨_, rfl⟩
  rw [hres]
  have Hres := Lib.hid hres
  clear hres
  obtain ⟨P, hP⟩ : ∃ P, GcMeetPost blk S w gc sm tm (.slice A0 m.length c0) F T res = P := ⟨_, rfl⟩
  have HP := Lib.hid hP
  rw [hP]
  clear hP
  go_enter Try.func22, Try.ntmps22
  go_wp2
  go_step3
  go_wp2
  try go_step3
  try go_wp2
  go_loopg [] 1 (fun g wx => g = 1 ∧ GcSt blk S w wx gc sm tm (.slice A0 m.length c0) F T [])
  case atStart => exact ⟨rfl, HS⟩
  case round =>
    obtain ⟨rfl, HS⟩ := hrel
    go_wp2
    obtain ⟨res1, hres1⟩ : ∃ res1, gFold F T blk [] roots = res1 := ⟨_, rfl⟩
    have Hres1 := Lib.hid hres1
    go_loopg [13] (roots.length) (fun g v wx => ∃ (k : Nat) (l : List Int), k + g = roots.length ∧ v = .int .i64 k ∧ Aside0 (gFold F T blk l (roots.drop k) = res1 ∧ GInv F T blk l) ∧ GcSt blk S w wx gc sm tm (.slice A0 m.length c0) F T l)
    case atStart => exact ⟨0, [], by omega, rfl, ⟨by simpa using hres1, GInv.nil _ _ _⟩, HS⟩
    case round =>
      clear hres1 HS
      obtain ⟨k, l, hk, rfl, HG, HS⟩ := hrel
      by_cases hlt : k < roots.length
      · have ck1 : decide ((k : Int) < (roots.length : Int)) = true := decide_eq_true (by omega)
        have ck2 : decide (k < roots.length) = true := decide_eq_true hlt
        obtain ⟨ad, e, hcell⟩ := Kd.at_int (HR'.out _ HS.kp) (k : Int) (by omega) (by omega)
        subst e
        rw [Int.toNat_natCast] at hcell
        have hcall := HE'.out.meet (rd roots k) HG.out.2 (Hrr.out _ (rd_mem (by omega) (by omega))) HS
        have hstep : gFold F T blk l (roots.drop k) = (gMeet F T blk l (rd roots k)).bind fun l' => gFold F T blk l' (roots.drop (k + 1)) := by rw [drop_rd hlt]; rfl
        have hb0 : 0 ≤ (k : Int) := by omega
        cases hmm : gMeet F T blk l (rd roots k) with
        | none =>
          rw [hmm] at hcall hstep
          have HN := Aside0.mk (HG.out.1.symm.trans hstep)
          have HS' := Aside0.mk HS
          clear hmm hstep HG HS
          go_wp2_with (go_at_call 35; refine hcall.mono ?_; rintro e W_ ⟨rfl, hkp⟩)
          (try rw [Exit.noGoto_ret])
          (try go_ret)
          rw [← HP.out]
          have hr : res = none := by rw [← Hres.out, gReach, Hres1.out, HN.out]; rfl
          subst hr
          exact ⟨rfl, hkp⟩
        | some l' =>
          rw [hmm] at hcall hstep
          have hi' := gMeet_inv HE'.out.ok HG.out.2 hmm
          have HN := Aside0.mk (hstep.symm.trans HG.out.1)
          have HS' := Aside0.mk HS
          have HI' := Aside0.mk hi'
          clear hmm hstep HG HS hi'
          go_wp2_with (go_at_call 35; refine hcall.mono ?_; rintro e W_ ⟨rfl, hpost⟩)
          go_roundg (roots.length - (k + 1))
          case measure => omega
          case rel => exact ⟨k + 1, l', by omega, by go_num, ⟨HN.out, HI'.out⟩, hpost⟩
      · have ck1 : decide ((k : Int) < (roots.length : Int)) = false := decide_eq_false (by omega)
        have ck2 : decide (k < roots.length) = false := decide_eq_false hlt
        have hdn : roots.drop k = [] := List.drop_eq_nil_of_le (by omega)
        have hg := HG.out.1
        rw [hdn] at hg
        have hg1 : res1 = some l := hg.symm
        have HI := Aside0.mk HG.out.2
        obtain ⟨r2, hr2⟩ := gLoop_ends (m := m) HE'.out.ok hFT (m.length + 1) 0 l HG.out.2 (by omega) (by omega)
        have hres2 : r2 = res := by rw [← Hres.out, gReach, Hres1.out, hg1]; show r2 = (gLoop m F T blk (m.length + 1) 0 l).getD none; rw [hr2]; rfl
        subst hres2
        have HL := Aside0.mk hr2
        clear hg hg1 hr2 hdn HG
        go_wp2
        go_loopg [7] (m.length + 1) (fun g v wx => ∃ (i : Nat) (l : List Int), v = .int .i64 i ∧ i ≤ l.length ∧ Aside0 (gLoop m F T blk g i l = some r2 ∧ GInv F T blk l) ∧ GcSt blk S w wx gc sm tm (.slice A0 m.length c0) F T l)
        case atStart => exact ⟨0, l, rfl, Nat.zero_le _, ⟨HL.out, HI.out⟩, HS⟩
        case round =>
          clear HL HI HS hk hlt ck1 ck2
          obtain ⟨i, l, rfl, hil, HG, HS⟩ := hrel
          cases gk with
          | zero => exact absurd HG.out.1 (by simp [gLoop])
          | succ g =>
          have HS0 := Aside0.mk HS
          have hl2 := HG.out.2.len hFT
          obtain ⟨v, Lv, hown, HA⟩ := HS
          obtain ⟨A_, c_, rfl⟩ := hown.form
          by_cases hlt : i < l.length
          · have hgl := HG.out.1
            rw [gLoop, dif_pos hlt] at hgl
            have HGL := Aside0.mk hgl
            have HI := Aside0.mk HG.out.2
            have hma := HG.out.2.mem l[i] (List.getElem_mem hlt)
            clear hgl HG
            obtain ⟨a, ha⟩ : ∃ a, l[i] = a := ⟨_, rfl⟩
            rw [ha] at HGL hma
            have hal : a ∈ l := ha ▸ List.getElem_mem hlt
            obtain ⟨g2, cap2, hv, hcell⟩ := hown.cell HA (fun x hx => List.mem_append_right _ hx) (j := i) (u := .int .i64 a) (by simp [List.getElem?_eq_getElem hlt, ha])
            injection hv with hv1 hv2 hv3
            subst hv1 hv3
            have hlk : ∀ n, (Instr.lookup 54 (.map (some sm)) (.int .i64 a) false).run Try.prog (wr.drewN n) = .ok (.int .i64 (blk a)) (wr.drewN n) := fun n => (HA.drewN n).lookup_run 1 i_keyed ii_under i_under i_zero rfl (i_key (by omega) (by omega)) (show (sizesF blk l (.int .i64 a)).getD 0 = blk a by unfold sizesF; simp [hal])
            obtain ⟨ui, hui, _, huz, _⟩ := info_parts (show (Try.prog.info? 41).map (fun i => (i.zero, i.size, i.bytes)) = some (some (.int .u32 0), 1, 4) by kernel_rfl)
            have hcut := cut_mid (P := Try.prog) 22 41 .i64 .i64 Try.underlying22 hui 1 huz A0 m.length c0 (a + 1) (a + blk a) (by omega) (by omega) (by omega) hcap
            have hkid : ∀ W', Kp S w W' → Kd.C (Kd.int .u32) W' (if c0 = (a + 1).toNat then A0 else A0.map (·.add ((a + 1).toNat * 1))) (gKids m blk a).length (gKids m blk a) := fun W' hk => Kd.C_mid (HE'.out.reads W' hk) (by omega) (by omega) hcap
            have hkl : (gKids m blk a).length = (a + blk a).toNat - (a + 1).toNat := by unfold gKids; simp; omega
            rw [← hkl] at hcut
            obtain ⟨A2, hA2⟩ : ∃ A2, (if c0 = (a + 1).toNat then A0 else A0.map (·.add ((a + 1).toNat * 1))) = A2 := ⟨_, rfl⟩
            rw [hA2] at hcut hkid
            obtain ⟨ks, hks⟩ : ∃ ks, gKids m blk a = ks := ⟨_, rfl⟩
            rw [hks] at hcut hkid
            have hksr : ∀ x ∈ ks, 0 ≤ x ∧ x < 4294967296 := fun x hx => HE'.out.vals x (by rw [← hks] at hx; exact List.mem_of_mem_take (List.mem_of_mem_drop hx))
            have hksl : ks.length ≤ 1000000 := by rw [← hks, hkl]; omega
            rw [hks] at HGL
            have HK := Lib.hid hkid
            have HKR := Lib.hid hksr
            have HAL := Aside0.mk hal
            clear hkid hksr hkl hA2 hks hui huz ha hal
            have ci1 : decide ((i : Int) < (l.length : Int)) = true := decide_eq_true (by omega)
            have ci2 : decide (i < l.length) = true := decide_eq_true hlt
            have ci3 : 0 ≤ (i : Int) := by omega
            go_wp2_with (first | ((with_reducible refine gate_ld rfl ?_); (refine aw_load 0 rfl rfl HA rfl rfl rfl ?_ ?_); kernel_rfl; simp only [Act.put, List.setIfInBounds_toArray, List.set_cons_succ, List.set_cons_zero]))
            have k0 := HA.cell (i := 0) (j := 0) rfl rfl
            have k4 := HA.cell (i := 0) (j := 4) rfl rfl
            have s1 : IntKind.i64.wrap (a + 1) = a + 1 := IntWalk.i64_in _ (by omega)
            have s2 : IntKind.i64.wrap (a + blk a) = a + blk a := IntWalk.i64_in _ (by omega)
            go_quiet (fail)
            clear k0 k4 hlk hcut s1 s2 hcell
            replace HA := HA.drewN nq
            have HSq : GcSt blk S w (wr.drewN nq) gc sm tm (.slice A0 m.length c0) F T l := ⟨_, Lv, hown, HA⟩
            clear HA HS0
            go_wp2
            obtain ⟨resk, hresk⟩ : ∃ resk, gFold F T blk l ks = resk := ⟨_, rfl⟩
            rw [hresk] at HGL
            have Hresk := Lib.hid hresk
            go_loopg [55] (ks.length) (fun g v wx => ∃ (k : Nat) (l1 : List Int), k + g = ks.length ∧ v = .int .i64 k ∧ Aside0 (gFold F T blk l1 (ks.drop k) = resk ∧ GInv F T blk l1 ∧ l.length ≤ l1.length) ∧ GcSt blk S w wx gc sm tm (.slice A0 m.length c0) F T l1)
            case atStart => exact ⟨0, l, by omega, rfl, ⟨by simpa using hresk, HI.out, Nat.le_refl _⟩, HSq⟩
            case round =>
              clear hresk HSq hown HI
              obtain ⟨k, l1, hk, rfl, HG, HS⟩ := hrel
              by_cases hltk : k < ks.length
              · have ck1 : decide ((k : Int) < (ks.length : Int)) = true := decide_eq_true (by omega)
                have ck2 : decide (k < ks.length) = true := decide_eq_true hltk
                obtain ⟨ad, e, hcell⟩ := Kd.at_int (HK.out _ HS.kp) (k : Int) (by omega) (by omega)
                subst e
                rw [Int.toNat_natCast] at hcell
                have hcall := HE'.out.meet (rd ks k) HG.out.2.1 (HKR.out _ (rd_mem (by omega) (by omega))) HS
                have hstep : gFold F T blk l1 (ks.drop k) = (gMeet F T blk l1 (rd ks k)).bind fun l' => gFold F T blk l' (ks.drop (k + 1)) := by rw [drop_rd hltk]; rfl
                have hb0 : 0 ≤ (k : Int) := by omega
                cases hmm : gMeet F T blk l1 (rd ks k) with
                | none =>
                  rw [hmm] at hcall hstep
                  have HN := Aside0.mk (HG.out.1.symm.trans hstep)
                  have HS' := Aside0.mk HS
                  clear hmm hstep HG HS
                  go_wp2_with (go_at_call 35; refine hcall.mono ?_; rintro e W_ ⟨rfl, hkp⟩)
                  (try rw [Exit.noGoto_ret])
                  (try go_ret)
                  rw [← HP.out]
                  have hr : r2 = none := by
                    have h1 := HGL.out
                    rw [show resk = none from HN.out] at h1
                    exact (Option.some.inj h1).symm
                  subst hr
                  exact ⟨rfl, hkp⟩
                | some l' =>
                  rw [hmm] at hcall hstep
                  have hi' := gMeet_inv HE'.out.ok HG.out.2.1 hmm
                  have hle' : l.length ≤ l'.length := by
                    obtain ⟨q, hq⟩ := gMeet_len hmm
                    have := HG.out.2.2
                    rw [hq, List.length_append]; omega
                  have HN := Aside0.mk (hstep.symm.trans HG.out.1)
                  have HS' := Aside0.mk HS
                  have HI' := Aside0.mk hi'
                  have HLe := Aside0.mk hle'
                  clear hmm hstep HG HS hi' hle'
                  go_wp2_with (go_at_call 35; refine hcall.mono ?_; rintro e W_ ⟨rfl, hpost⟩)
                  go_roundg (ks.length - (k + 1))
                  case measure => omega
                  case rel => exact ⟨k + 1, l', by omega, by go_num, ⟨HN.out, HI'.out, HLe.out⟩, hpost⟩
              · have ck1 : decide ((k : Int) < (ks.length : Int)) = false := decide_eq_false (by omega)
                have ck2 : decide (k < ks.length) = false := decide_eq_false hltk
                have hdn : ks.drop k = [] := List.drop_eq_nil_of_le (by omega)
                have hg := HG.out.1
                rw [hdn] at hg
                have hg1 : resk = some l1 := hg.symm
                have HGL2 : Aside0 (gLoop m F T blk g (i + 1) l1 = some r2) := by
                  have h1 := HGL.out
                  rw [hg1] at h1
                  exact ⟨h1⟩
                have HG' := HG
                clear hg hg1 hdn HG
                have hw1 : IntKind.i64.wrap ((i : Int) + 1) = ((i + 1 : Nat) : Int) := (IntWalk.i64_in _ (by omega)).trans (by omega)
                have HW1 := Aside0.mk hw1
                clear hw1
                go_wp2
                go_roundg g
                case measure => omega
                case rel => exact ⟨i + 1, l1, by go_num, by have := HG'.out.2.2; omega, ⟨HGL2.out, HG'.out.2.1⟩, HS⟩
          · have ci1 : decide ((i : Int) < (l.length : Int)) = false := decide_eq_false (by omega)
            have ci2 : decide (i < l.length) = false := decide_eq_false hlt
            have hgl := HG.out.1
            rw [gLoop, dif_neg hlt] at hgl
            have hr : r2 = some l := (Option.some.inj hgl).symm
            subst hr
            clear hgl HG
            have HSq : Aside0 (GcSt blk S w wr gc sm tm (.slice A0 m.length c0) F T l) := ⟨_, Lv, hown, HA⟩
            go_wp2_with (first | ((with_reducible refine gate_ld rfl ?_); (refine aw_load 0 rfl rfl HA rfl rfl rfl ?_ ?_); kernel_rfl; simp only [Act.put, List.setIfInBounds_toArray, List.set_cons_succ, List.set_cons_zero]))
            (try rw [Exit.noGoto_ret])
            (try go_ret)
            rw [← HP.out]
            exact ⟨rfl, HSq.out⟩
end Go.Proofs.Ytnkbfbhhioemoaa.Q

--@needs XHeapPlain
--@needs XGcModel
namespace Go.Proofs.Ytnkbfbhhioemoaa.Q
open Go.RowKit Go.Proofs.YtnkbfbhhioemoaaW.PrintWords Go.Proofs.YtnkbfbhhioemoaaW.PrintLast Go.Proofs.YtnkbfbhhioemoaaW.PrintMore
attribute [local go_sem] max2_int min2_int max_two min_two max_three min_three max_four min_four   -- for this text's walks alone
set_option linter.unusedVariables false
set_option linter.unusedSimpArgs false

/-- how many words the block has that stands at a place and ends by T; 0: none -/
def gBlk (m : List Int) (T a : Int) : Int := if splOk (rd m a) ∧ a + 1 + rd m a / 16384 ≤ T ∧ ¬ (rd m a % 16 / 2 = 1 ∧ rd m (a + 1) % 2 = 0) then 1 + rd m a / 16384 else 0
theorem rd_val {m : List Int} (hv : ∀ x ∈ m, 0 ≤ x ∧ x < 4294967296) (i : Int) : 0 ≤ rd m i ∧ rd m i < 4294967296 := by
  unfold rd
  rw [List.getD_eq_getElem?_getD]
  cases h : m[i.toNat]? with
  | none => simp
  | some x => exact hv x (List.mem_of_getElem? h)
theorem gBlk_ok (m : List Int) (F T : Int) : BlkOk F T (gBlk m T) := by
  intro a h0 h1
  unfold gBlk
  by_cases h : splOk (rd m a) ∧ a + 1 + rd m a / 16384 ≤ T ∧ ¬ (rd m a % 16 / 2 = 1 ∧ rd m (a + 1) % 2 = 0)
  · rw [if_pos h]
    have := h.1.2.2.2.2.2.2
    exact .inr ⟨by omega, by omega⟩
  · rw [if_neg h]; exact .inl rfl
section
variable {m : List Int} {F T a : Int} (hv : ∀ x ∈ m, 0 ≤ x ∧ x < 4294967296) (hlen : m.length ≤ 1000000) (h0 : 0 ≤ a) (h1 : a < T) (hT : T ≤ m.length)
include hv hlen h0 h1 hT
theorem half_block_eq : gc_half_block.f m F T a = some (gBlk m T a) := by
  have hr := rd_val hv a
  unfold gc_half_block.f gBlk
  rw [if_pos h0, if_pos (by omega), heap_Split_eq _ hr.1 hr.2]
  simp only [Option.bind_some]
  unfold splV
  by_cases hs : splOk (rd m a)
  · rw [if_pos hs]
    have hsz := hs.2.2.2.2.2.2
    have h256 := hMost_le (rd m a % 16 / 2)
    simp only [if_true]
    rw [wr64 (n := a + 1) (by omega), wr64 (n := a + 1 + rd m a / 16384) (by omega), wr64 (n := 1 + rd m a / 16384) (by omega)]
    by_cases c1 : a + 1 + rd m a / 16384 > T
    · rw [if_pos c1, if_neg (by omega)]
    · rw [if_neg c1]
      by_cases c2 : rd m a % 16 / 2 = 1
      · rw [if_pos c2, if_pos (by omega), if_pos (by omega)]
        have hr1 := rd_val hv (a + 1)
        rw [Int.tmod_eq_emod_of_nonneg hr1.1]
        by_cases c3 : rd m (a + 1) % 2 = 0
        · rw [if_pos c3, if_neg (fun h => h.2.2 ⟨c2, c3⟩)]
        · rw [if_neg c3, if_pos ⟨hs, by omega, fun h => c3 h.2⟩]
      · rw [if_neg c2, if_pos ⟨hs, by omega, fun h => c2 h.1⟩]
  · rw [if_neg hs, if_neg (show ¬ ((0, 0, 0, false) : Int × Int × Int × Bool).2.2.2 = true by decide), if_neg (fun h => hs h.1)]
end
end Go.Proofs.Ytnkbfbhhioemoaa.Q

--@needs XHgcReachW
--@needs XGcBlk
--@uses (camlet/gc.half).leads
--@uses (camlet/gc.half).block
namespace Go.Proofs.Ytnkbfbhhioemoaa.Q
open Go.RowKit Go.Proofs.YtnkbfbhhioemoaaW.PrintWords Go.Proofs.YtnkbfbhhioemoaaW.PrintLast Go.Proofs.YtnkbfbhhioemoaaW.PrintMore
attribute [local go_sem] max2_int min2_int max_two min_two max_three min_three max_four min_four   -- for this text's walks alone
set_option linter.unusedVariables false
set_option linter.unusedSimpArgs false

open Go.Maps
def w32 (l : List Int) : Prop := l.length ≤ 1000000 ∧ ∀ x ∈ l, 0 ≤ x ∧ x < 4294967296
instance (l : List Int) : Decidable (w32 l) := by unfold w32; infer_instance
def gc_Reach.f (l0 : List Int) (a1 : Int) (a2 : Int) (l3 : List Int) : Option (Int × Int) :=
  if w32 l0 ∧ w32 l3 then some (if a1 < 0 ∨ a2 < a1 ∨ (l0.length : Int) < a2 then (0, 1) else match gReach l0 a1 a2 (gBlk l0 a2) l3 with | none => (0, 22) | some l => (gWords (gBlk l0 a2) l, 0)) else none
theorem gcEnv {w : World} {S : Nat → Prop} {A0 : Option Addr} {c0 : Nat} {m : List Int} {F T : Int} (hr : ∀ W', Kp S w W' → Kd.C (Kd.int .u32) W' A0 m.length m) (hc : m.length ≤ c0) (hm : w32 m) (h : ¬ (F < 0 ∨ T < F ∨ (m.length : Int) < T)) : GcEnv S w A0 c0 m F T (gBlk m T) :=
  ⟨hr, hc, hm.1, by omega, by omega, by omega, fun a h0 h1 => half_block_eq hm.2 hm.1 (by omega) h1 (by omega), gBlk_ok m F T, hm.2⟩
set_option maxHeartbeats 4000000 in
set_option maxRecDepth 100000 in
theorem gc_Reach.calls (A0 : Option Addr) (c0 : Nat) (l0 : List Int) (a1 : Int) (a2 : Int) (A3 : Option Addr) (c3 : Nat) (l3 : List Int) (r1 : Int) (r2 : Int) (w : World) (hr0 : Kd.C (Kd.int .u32) w A0 l0.length l0) (hc0 : l0.length ≤ c0) (hr3 : Kd.C (Kd.int .u32) w A3 l3.length l3) (hc3 : l3.length ≤ c3) (h : gc_Reach.f l0 a1 a2 l3 = some (r1, r2)) :
    Calls Try.prog 13 #[.slice A0 l0.length c0, .int .i64 a1, .int .i64 a2, .slice A3 l3.length c3] w fun e w' => e = .returned (.tuple #[.int .i64 r1, .int .i64 r2]) ∧ Below w.heap.size w w' := by
  unfold gc_Reach.f at h
  by_cases hok : w32 l0 ∧ w32 l3
  case neg => rw [if_neg hok] at h; cases h
  rw [if_pos hok] at h
  replace h := Option.some.inj h
  by_cases hb : a1 < 0 ∨ a2 < a1 ∨ (l0.length : Int) < a2
  · rw [if_pos hb] at h
    injection h with h1 h2
    subst h1 h2
    have hbad := gc_begin.bad A0 l0.length c0 a1 a2 w hb
    clear hb hok
    go_enter Try.func13, Try.ntmps13
    go_wp2_with (go_at_call 20; refine hbad.mono ?_; rintro e W_ ⟨rfl, rfl⟩)
    go_ret2
    exact ⟨rfl, Below.refl _ _⟩
  rw [if_neg hb] at h
  have HR0 : ∀ W', Kp noS w W' → Kd.C (Kd.int .u32) W' A0 l0.length l0 := fun W' hk => hk.reads hr0
  have HR3 : ∀ W', Kp noS w W' → Kd.C (Kd.int .u32) W' A3 l3.length l3 := fun W' hk => hk.reads hr3
  have HE := gcEnv HR0 hc0 hok.1 hb
  have hgood := gc_begin.good (gBlk l0 a2) A0 l0.length c0 a1 a2 w hb
  have hreach := fun W gc sm tm (HS : GcSt (gBlk l0 a2) noS w W gc sm tm (.slice A0 l0.length c0) a1 a2 []) => gc_reach.calls HE HR3 hc3 hok.2.1 hok.2.2 HS
  clear hb hok HE HR0 HR3 hr0 hr3
  have H := Lib.hid h
  clear h
  cases hg : gReach l0 a1 a2 (gBlk l0 a2) l3 with
  | none =>
    rw [hg] at hreach
    have hh := H.out
    rw [hg] at hh
    injection hh with h1 h2
    subst h1 h2
    clear H hg
    go_enter Try.func13, Try.ntmps13
    go_wp2_with (first | (go_at_call 20; refine hgood.mono ?_; rintro e W_ ⟨gc, sm, tm, rfl, HA⟩) | (go_at_call 22; refine (hreach _ gc sm tm ⟨_, [], Own.nil _ _, by simpa using HA⟩).mono ?_; rintro e W_ ⟨rfl, hkp⟩))
    go_ret2
    exact ⟨rfl, hkp.below (fun _ hk => hk.elim)⟩
  | some l =>
    rw [hg] at hreach
    have hh := H.out
    rw [hg] at hh
    injection hh with h1 h2
    subst h1 h2
    clear H hg
    go_enter Try.func13, Try.ntmps13
    go_wp2_with (first | (go_at_call 20; refine hgood.mono ?_; rintro e W_ ⟨gc, sm, tm, rfl, HA⟩) | (go_at_call 22; refine (hreach _ gc sm tm ⟨_, [], Own.nil _ _, by simpa using HA⟩).mono ?_; rintro e W_ ⟨rfl, v_, Lv_, hown, HA⟩) | ((with_reducible refine gate_ld rfl ?_); (refine aw_load 0 rfl rfl HA rfl rfl rfl ?_ ?_); kernel_rfl; simp only [Act.put, List.setIfInBounds_toArray, List.set_cons_succ, List.set_cons_zero]))
    go_ret2
    exact ⟨rfl, HA.below⟩
end Go.Proofs.Ytnkbfbhhioemoaa.Q

--@needs XAw
--@needs XAwMap
--@needs XAwSl
--@needs XAwFrame
--@needs XHgcReachW
--@uses (camlet/gc.half).leads
--@uses (camlet/gc.half).block
namespace Go.Proofs.Ytnkbfbhhioemoaa.Q
open Go.RowKit Go.Proofs.YtnkbfbhhioemoaaW.PrintWords Go.Proofs.YtnkbfbhhioemoaaW.PrintLast Go.Proofs.YtnkbfbhhioemoaaW.PrintMore
attribute [local go_sem] max2_int min2_int max_two min_two max_three min_three max_four min_four   -- for this text's walks alone
set_option linter.unusedVariables false
set_option linter.unusedSimpArgs false


/-- how many words may be laid from a number on -/
def gRoom (len F T there : Int) : Int := if len - there < T - F then len - there else T - F
def gRoomOk (len F T there : Int) : Bool := decide (gRoom len F T there = 0) || (decide (T ≤ there) || decide (there + gRoom len F T there ≤ F))
set_option maxHeartbeats 4000000 in
set_option maxRecDepth 100000 in
theorem gc_room.calls {W : World} {gc : Nat} {A0 : Option Addr} {n c0 : Nat} {F T there : Int} (hn : n ≤ 1000000) (hF : 0 ≤ F) (hFT : F ≤ T) (hT : T ≤ n)
    (k0 : W.cell? ⟨gc, 0, none⟩ = some (.slice A0 n c0)) (k1 : W.cell? ⟨gc, 1, none⟩ = some (.int .i64 F)) (k2 : W.cell? ⟨gc, 2, none⟩ = some (.int .i64 T)) :
    Calls Try.prog 21 #[.pointer (some ⟨gc, 0, none⟩), .int .i64 there] W fun e W' => e = .returned (.tuple #[.int .i64 (if there < 0 ∨ (n : Int) < there then 0 else gRoom n F T there), .bool (if there < 0 ∨ (n : Int) < there then false else gRoomOk n F T there)]) ∧ Drawn0 W W' := by
  by_cases h1 : there < 0
  · rw [if_pos (.inl h1), if_pos (.inl h1)]
    have c1 := decide_eq_true h1
    go_enter Try.func21, Try.ntmps21
    go_wp2
    go_ret2
    exact ⟨rfl, Drawn0.refl _⟩
  have c1 := decide_eq_false h1
  by_cases h2 : (n : Int) < there
  · rw [if_pos (.inr h2), if_pos (.inr h2)]
    have c2 := decide_eq_true h2
    go_enter Try.func21, Try.ntmps21
    go_wp2
    go_ret2
    exact ⟨rfl, Drawn0.refl _⟩
  have c2 := decide_eq_false h2
  rw [if_neg (by omega), if_neg (by omega)]
  unfold gRoomOk
  have s1 : IntKind.i64.wrap (T - F) = T - F := IntWalk.i64_in _ (by omega)
  have s2 : IntKind.i64.wrap ((n : Int) - there) = (n : Int) - there := IntWalk.i64_in _ (by omega)
  obtain ⟨r, hrr⟩ : ∃ r, gRoom n F T there = r := ⟨_, rfl⟩
  rw [hrr]
  have hr : (if (n : Int) - there < T - F then (n : Int) - there else T - F) = r := hrr
  have hrb : 0 ≤ r ∧ r ≤ 1000000 := by rw [← hrr]; unfold gRoom; split <;> omega
  have s3 : IntKind.i64.wrap (there + r) = there + r := IntWalk.i64_in _ (by omega)
  clear hrr
  by_cases h3 : r = 0
  · subst h3
    have d3 : decide ((0 : Int) = 0) = true := rfl
    rw [d3]
    go_enter Try.func21, Try.ntmps21
    go_wp2
    go_quiet (fail)
    go_wp2
    go_quiet (fail)
    go_wp2
    go_ret2
    exact ⟨rfl, by repeat (first | exact Drawn0.refl _ | apply Drawn0.step)⟩
  have c3 := beq_eq_false_iff_ne.mpr h3
  have d3 : decide (r = 0) = false := decide_eq_false h3
  rw [d3]
  by_cases h4 : T ≤ there
  · have c4 := decide_eq_true h4
    rw [c4]
    go_enter Try.func21, Try.ntmps21
    go_wp2
    go_quiet (fail)
    go_wp2
    go_quiet (fail)
    go_wp2
    go_ret2
    exact ⟨rfl, by repeat (first | exact Drawn0.refl _ | apply Drawn0.step)⟩
  have c4 := decide_eq_false h4
  rw [c4]
  obtain ⟨b, hb⟩ : ∃ b, decide (there + r ≤ F) = b := ⟨_, rfl⟩
  rw [hb]
  go_enter Try.func21, Try.ntmps21
  go_wp2
  go_quiet (fail)
  go_wp2
  go_quiet (fail)
  go_wp2
  go_ret2
  exact ⟨rfl, by repeat (first | exact Drawn0.refl _ | apply Drawn0.step)⟩
end Go.Proofs.Ytnkbfbhhioemoaa.Q

--@needs XAw
--@needs XAwMap
--@needs XAwSl
--@needs XAwFrame
--@needs XHgcReachW
--@uses (camlet/gc.half).leads
--@uses (camlet/gc.half).block
namespace Go.Proofs.Ytnkbfbhhioemoaa.Q
open Go.RowKit Go.Proofs.YtnkbfbhhioemoaaW.PrintWords Go.Proofs.YtnkbfbhhioemoaaW.PrintLast Go.Proofs.YtnkbfbhhioemoaaW.PrintMore
attribute [local go_sem] max2_int min2_int max_two min_two max_three min_three max_four min_four   -- for this text's walks alone
set_option linter.unusedVariables false
set_option linter.unusedSimpArgs false

open Go.Maps
/-- a word, changed: to where the block was moved to -/
def gChange (F T : Int) (mv : Int → Option Int) (x : Int) : Int := if gLeads F T x = true then 4 * (mv (x / 4)).getD 0 else x
def movedF (mv : Int → Option Int) : Lit → Option Int
  | .int .i64 k => mv k
  | _ => none
theorem half_leads_calls {A0 : Option Addr} {c0 : Nat} {m : List Int} {F T x : Int} {W : World} (hm : Kd.C (Kd.int .u32) W A0 m.length m) (hc : m.length ≤ c0) (hlen : m.length ≤ 1000000) (hF : 0 ≤ F) (hFT : F ≤ T) (hT : T ≤ m.length) (hx0 : 0 ≤ x) (hx1 : x < 4294967296) :
    Calls Try.prog 24 #[.agg #[.slice A0 m.length c0, .int .i64 F, .int .i64 T], .int .u32 x] W fun e w' => e = .returned (.bool (gLeads F T x)) ∧ Below W.heap.size W w' := by
  refine gc_half_leads.calls A0 c0 m F T x _ W hm hc ?_
  unfold gc_half_leads.f gLeads
  rw [Int.tmod_eq_emod_of_nonneg hx0]
  have e1 : wrap64 x = x := by unfold wrap64; omega
  have e2 : wrap64 (4 * F) = 4 * F := by unfold wrap64; omega
  have e3 : wrap64 (4 * T) = 4 * T := by unfold wrap64; omega
  rw [e1, e2, e3]
  by_cases h1 : x % 2 = 0
  · by_cases h2 : 4 * F ≤ x
    · simp [h1, h2]
    · have : ¬ x ≥ 4 * F := by omega
      simp [h1, h2]
  · simp [h1]
set_option maxHeartbeats 4000000 in
set_option maxRecDepth 100000 in
theorem gc_change.calls {w W : World} {bm mm bc gc nm : Nat} {A0 : Option Addr} {c0 : Nat} {m : List Int} {F T : Int} {mv : Int → Option Int} {tl : List Value} {R : List (Nat × Blk)} (x : Int) (hr : Kd.C (Kd.int .u32) w A0 m.length m) (hc : m.length ≤ c0) (hlen : m.length ≤ 1000000) (hF : 0 ≤ F) (hFT : F ≤ T) (hT : T ≤ m.length) (hx0 : 0 ≤ x) (hx1 : x < 4294967296) (hmv : ∀ k v, mv k = some v → 0 ≤ v ∧ v ≤ 1000000)
    (HA : Aw noS w W ((bm, .c 54 [.map (some mm)]) :: (mm, Blk.m Try.prog 3 3 .i64 nm (movedF mv)) :: (bc, .c 45 [.pointer (some ⟨gc, 0, none⟩)]) :: (gc, .c 56 (.slice A0 m.length c0 :: .int .i64 F :: .int .i64 T :: tl)) :: R)) :
    Calls Try.prog 23 #[.int .u32 x, .pointer (some ⟨bc, 0, none⟩), .pointer (some ⟨bm, 0, none⟩)] W fun e W' => e = .returned (.int .u32 (gChange F T mv x)) ∧ Below W.heap.size W W' := by
  have hm := HA.1.reads hr
  have hlead := half_leads_calls hm hc hlen hF hFT hT hx0 hx1
  have HB := Below.refl W.heap.size W
  clear hr hm
  unfold gChange
  cases hl : gLeads F T x
  case false =>
    rw [hl] at hlead
    rw [if_neg (by decide)]
    clear hl
    go_enter Try.func23, Try.ntmps23
    go_wp2_with (first | (go_at_call 24; refine (hlead).mono ?_; rintro e W_ ⟨rfl, hb_⟩; replace HA := HA.call hb_) | ((with_reducible refine gate_dst (N := 15) rfl ?_); refine aw_lookup 1 (f := movedF mv) (kl := .int .i64 (x / 4)) i_keyed ii_under i_under i_zero rfl rfl rfl rfl HA rfl hkx hmx ?_; simp only [Act.put, List.setIfInBounds_toArray, List.set_cons_succ, List.set_cons_zero]) | ((with_reducible refine gate_ld rfl ?_); (first | refine aw_loadA 3 (t := 52) (j := 0) rfl rfl HA rfl rfl 3 ?_ rfl rfl ?_ | refine aw_loadA 2 (t := 52) (j := 0) rfl rfl HA rfl rfl 3 ?_ rfl rfl ?_ | refine aw_load 0 rfl rfl HA rfl rfl rfl ?_ ?_ | refine aw_load 1 rfl rfl HA rfl rfl rfl ?_ ?_ | refine aw_load 2 rfl rfl HA rfl rfl rfl ?_ ?_ | refine aw_load 3 rfl rfl HA rfl rfl rfl ?_ ?_ | refine aw_load 4 rfl rfl HA rfl rfl rfl ?_ ?_); kernel_rfl; simp only [Act.put, List.setIfInBounds_toArray, List.set_cons_succ, List.set_cons_zero]))
    go_ret
    exact ⟨rfl, hb_⟩
  case true =>
    rw [hl] at hlead
    rw [if_pos rfl]
    clear hl
    have hkx : keyOf Try.prog 3 (.int .i64 (x / 4)) = some (.int .i64 (x / 4)) := i_key (by omega) (by omega)
    obtain ⟨v, hv⟩ : ∃ v, (mv (x / 4)).getD 0 = v := ⟨_, rfl⟩
    rw [hv]
    have hvb : 0 ≤ v ∧ v ≤ 1000000 := by
      cases e : mv (x / 4) with
      | none => rw [e] at hv; subst hv; exact ⟨by decide, by decide⟩
      | some u => rw [e] at hv; subst hv; exact hmv _ _ e
    have hmx : (movedF mv (.int .i64 (x / 4))).getD 0 = v := hv
    have HV := Lib.hid hv
    clear hv hmv
    go_enter Try.func23, Try.ntmps23
    go_wp2_with (first | (go_at_call 24; refine (hlead).mono ?_; rintro e W_ ⟨rfl, hb_⟩; replace HA := HA.call hb_) | ((with_reducible refine gate_dst (N := 15) rfl ?_); refine aw_lookup 1 (f := movedF mv) (kl := .int .i64 (x / 4)) i_keyed ii_under i_under i_zero rfl rfl rfl rfl HA rfl hkx hmx ?_; simp only [Act.put, List.setIfInBounds_toArray, List.set_cons_succ, List.set_cons_zero]) | ((with_reducible refine gate_ld rfl ?_); (first | refine aw_loadA 3 (t := 52) (j := 0) rfl rfl HA rfl rfl 3 ?_ rfl rfl ?_ | refine aw_loadA 2 (t := 52) (j := 0) rfl rfl HA rfl rfl 3 ?_ rfl rfl ?_ | refine aw_load 0 rfl rfl HA rfl rfl rfl ?_ ?_ | refine aw_load 1 rfl rfl HA rfl rfl rfl ?_ ?_ | refine aw_load 2 rfl rfl HA rfl rfl rfl ?_ ?_ | refine aw_load 3 rfl rfl HA rfl rfl rfl ?_ ?_ | refine aw_load 4 rfl rfl HA rfl rfl rfl ?_ ?_); kernel_rfl; simp only [Act.put, List.setIfInBounds_toArray, List.set_cons_succ, List.set_cons_zero]))
    go_ret
    exact ⟨rfl, hb_⟩
end Go.Proofs.Ytnkbfbhhioemoaa.Q

--@needs XGcModel
namespace Go.Proofs.Ytnkbfbhhioemoaa.Q
open Go.RowKit Go.Proofs.YtnkbfbhhioemoaaW.PrintWords Go.Proofs.YtnkbfbhhioemoaaW.PrintLast Go.Proofs.YtnkbfbhhioemoaaW.PrintMore
attribute [local go_sem] max2_int min2_int max_two min_two max_three min_three max_four min_four   -- for this text's walks alone
set_option linter.unusedVariables false
set_option linter.unusedSimpArgs false

/-- where a block is moved to, the first of them to a place -/
def gMoved (blk : Int → Int) : Int → List Int → Int → Option Int
  | _, [], _ => none
  | t, a :: r, k => if k = a then some t else gMoved blk (t + blk a) r k
def gCells (m : List Int) (blk : Int → Int) (chg : Int → Int) (a : Int) : List Int := rd m a :: (gKids m blk a).map chg
def gLay (m : List Int) (blk : Int → Int) (chg : Int → Int) : Int → List Int → List Int → List Int
  | _, [], O => O
  | t, a :: r, O => gLay m blk chg (t + blk a) r (splice O t.toNat (gCells m blk chg a))
theorem gMoved_append (blk : Int → Int) (a k : Int) : ∀ (l : List Int) (t : Int), gMoved blk t (l ++ [a]) k = match gMoved blk t l k with | some v => some v | none => if k = a then some (t + gWords blk l) else none
  | [], t => by simp [gMoved, gWords]
  | b :: r, t => by
    rw [List.cons_append, gMoved, gMoved]
    by_cases h : k = b
    · rw [if_pos h, if_pos h]
    · rw [if_neg h, if_neg h, gMoved_append blk a k r (t + blk b), gWords, Int.add_assoc]
theorem gMoved_none {blk : Int → Int} {k : Int} : ∀ {l : List Int} {t : Int}, k ∉ l → gMoved blk t l k = none
  | [], t, _ => rfl
  | b :: r, t, h => by
    rw [gMoved, if_neg (fun e => h (by simp [e])), gMoved_none (fun e => h (by simp [e]))]
theorem gMoved_some {blk : Int → Int} {k v : Int} : ∀ {l : List Int} {t : Int}, gMoved blk t l k = some v → ∃ pre post, l = pre ++ k :: post ∧ v = t + gWords blk pre
  | [], t, h => by simp [gMoved] at h
  | b :: r, t, h => by
    rw [gMoved] at h
    by_cases e : k = b
    · rw [if_pos e] at h
      injection h with h
      exact ⟨[], r, by simp [e], by simp [gWords, h]⟩
    · rw [if_neg e] at h
      obtain ⟨pre, post, rfl, rfl⟩ := gMoved_some h
      exact ⟨b :: pre, post, rfl, by simp only [gWords]; omega⟩
theorem gMoved_mid {blk : Int → Int} {k : Int} {post : List Int} : ∀ {pre : List Int} {t : Int}, k ∉ pre → gMoved blk t (pre ++ k :: post) k = some (t + gWords blk pre)
  | [], t, _ => by simp [gMoved, gWords]
  | b :: r, t, h => by
    rw [List.cons_append, gMoved, if_neg (fun e => h (by simp [e])), gMoved_mid (fun e => h (by simp [e])), gWords]
    congr 1; omega
theorem gLay_append (m : List Int) (blk : Int → Int) (chg : Int → Int) (a : Int) : ∀ (l : List Int) (t : Int) (O : List Int), gLay m blk chg t (l ++ [a]) O = splice (gLay m blk chg t l O) (t + gWords blk l).toNat (gCells m blk chg a)
  | [], t, O => by simp [gLay, gWords]
  | b :: r, t, O => by
    rw [List.cons_append, gLay, gLay, gLay_append m blk chg a r, gWords, Int.add_assoc]
theorem gWords_nonneg {blk : Int → Int} : ∀ {l : List Int}, (∀ a, a ∈ l → 0 ≤ blk a) → 0 ≤ gWords blk l
  | [], _ => by simp [gWords]
  | a :: r, h => by
    have h1 := h a (by simp)
    have h2 := gWords_nonneg (l := r) (fun b hb => h b (by simp [hb]))
    simp only [gWords]; omega
theorem GInv.nodup {F T : Int} {blk : Int → Int} {l : List Int} (h : GInv F T blk l) : l.Nodup := by
  have hm := h.mem
  have ha := h.apart
  rw [List.Nodup]
  refine List.Pairwise.imp_of_mem ?_ ha
  intro a b h1 h2 h3 e
  have := hm a h1
  subst e
  omega
theorem GInv.nonneg {F T : Int} {blk : Int → Int} {l : List Int} (h : GInv F T blk l) : ∀ a, a ∈ l → 0 ≤ blk a := fun a ha => by have := h.mem a ha; omega
theorem gKids_len {m : List Int} {F T : Int} {blk : Int → Int} {l : List Int} (h : GInv F T blk l) (hF : 0 ≤ F) (hT : T ≤ m.length) {a : Int} (ha : a ∈ l) : ((gKids m blk a).length : Int) = blk a - 1 := by
  have := h.mem a ha
  unfold gKids
  simp
  omega
theorem gCells_len {m : List Int} {F T : Int} {blk : Int → Int} {chg : Int → Int} {l : List Int} (h : GInv F T blk l) (hF : 0 ≤ F) (hT : T ≤ m.length) {a : Int} (ha : a ∈ l) : ((gCells m blk chg a).length : Int) = blk a := by
  have := gKids_len h hF hT ha
  simp only [gCells, List.length_cons, List.length_map]
  omega
theorem gLay_len {m : List Int} {F T : Int} {blk : Int → Int} {chg : Int → Int} (hF : 0 ≤ F) (hT : T ≤ m.length) : ∀ {l : List Int} {t : Int} {O : List Int}, GInv F T blk l → 0 ≤ t → t + gWords blk l ≤ O.length → (gLay m blk chg t l O).length = O.length
  | [], t, O, _, _, _ => rfl
  | a :: r, t, O, h, h0, h1 => by
    have hc := gCells_len (m := m) (chg := chg) h hF hT (a := a) (by simp)
    have hi : GInv F T blk r := ⟨fun b hb => h.mem b (by simp [hb]), (List.pairwise_cons.1 h.apart).2⟩
    have hn := gWords_nonneg hi.nonneg
    have ha := h.mem a (by simp)
    simp only [gWords] at h1
    have hl : (splice O t.toNat (gCells m blk chg a)).length = O.length := length_splice _ _ _ (by omega)
    rw [gLay, gLay_len hF hT hi (by omega) (by rw [hl]; omega), hl]
theorem splice_set {α : Type} (O X : List α) (off j : Nat) (v : α) (hj : j < X.length) (hO : off ≤ O.length) : (splice O off X).set (off + j) v = splice O off (X.set j v) := by
  unfold splice
  rw [List.set_append_right _ _ (by simp; omega), List.length_take, Nat.min_eq_left hO, Nat.add_sub_cancel_left, List.set_append_left _ _ hj, List.length_set]
theorem splice_map {α β : Type} (f : α → β) (O X : List α) (off : Nat) : (splice O off X).map f = splice (O.map f) off (X.map f) := by
  simp [splice]
theorem splice_whole {α : Type} (O X : List α) (h : O.length = X.length) : splice O 0 X = X := by
  unfold splice
  rw [List.drop_eq_nil_of_le (by omega)]
  simp
def gRoomN (len F T there : Int) : Int := if len - there < T - F then len - there else T - F
/-- a block's cells, j of its words changed -/
def gPart (m : List Int) (blk : Int → Int) (chg : Int → Int) (a : Int) (j : Nat) : List Int := rd m a :: (((gKids m blk a).take j).map chg ++ (gKids m blk a).drop j)
theorem gPart_len (m : List Int) (blk chg : Int → Int) (a : Int) (j : Nat) : (gPart m blk chg a j).length = (gKids m blk a).length + 1 := by
  simp only [gPart, List.length_cons, List.length_append, List.length_map, List.length_take, List.length_drop]
  omega
theorem gPart_zero {m : List Int} {blk chg : Int → Int} {a : Int} (h0 : 0 ≤ a) (h1 : a < m.length) (h2 : 1 ≤ blk a) : (m.take (a + blk a).toNat).drop a.toNat = gPart m blk chg a 0 := by
  have hl : a.toNat < (m.take (a + blk a).toNat).length := by simp; omega
  rw [List.drop_eq_getElem_cons hl]
  unfold gPart gKids
  simp only [List.take_zero, List.map_nil, List.nil_append, List.drop_zero]
  rw [show (a + 1).toNat = a.toNat + 1 by omega]
  congr 1
  unfold rd
  rw [List.getElem_take, List.getD_eq_getElem?_getD, List.getElem?_eq_getElem (by omega)]
  rfl
theorem gPart_full (m : List Int) (blk chg : Int → Int) (a : Int) : gPart m blk chg a (gKids m blk a).length = gCells m blk chg a := by
  unfold gPart gCells
  rw [List.take_length, List.drop_length, List.append_nil]
theorem gPart_set {m : List Int} {blk chg : Int → Int} {a : Int} {j : Nat} (hj : j < (gKids m blk a).length) : (gPart m blk chg a j).set (j + 1) (chg ((gKids m blk a)[j])) = gPart m blk chg a (j + 1) := by
  unfold gPart
  rw [List.set_cons_succ]
  congr 1
  rw [List.set_append_right _ _ (by simp; omega)]
  simp only [List.length_map, List.length_take]
  rw [show j - min j (gKids m blk a).length = 0 by omega, List.drop_eq_getElem_cons hj, List.set_cons_zero, List.take_succ_eq_append_getElem hj, List.map_append, List.append_assoc]
  rfl
theorem gKids_at {m : List Int} {blk : Int → Int} {a : Int} {j : Nat} (h0 : 0 ≤ a) (h1 : a + blk a ≤ m.length) (hj : j < (gKids m blk a).length) : (gKids m blk a)[j] = rd m (a + (j + 1)) := by
  have hj2 := hj
  unfold gKids at hj
  simp at hj
  unfold gKids rd
  rw [List.getElem_drop, List.getElem_take, List.getD_eq_getElem?_getD, List.getElem?_eq_getElem (by omega)]
  simp only [Option.getD_some]
  congr 1
  omega
end Go.Proofs.Ytnkbfbhhioemoaa.Q

--@needs XHgcReach
--@needs XHgcRoom
--@needs XHgcChange
--@needs XGcMove
--@needs XAwRow
--@uses (camlet/gc.half).leads
--@uses (camlet/gc.half).block
namespace Go.Proofs.Ytnkbfbhhioemoaa.Q
open Go.RowKit Go.Proofs.YtnkbfbhhioemoaaW.PrintWords Go.Proofs.YtnkbfbhhioemoaaW.PrintLast Go.Proofs.YtnkbfbhhioemoaaW.PrintMore
attribute [local go_sem] max2_int min2_int max_two min_two max_three min_three max_four min_four   -- for this text's walks alone
set_option linter.unusedVariables false
set_option linter.unusedSimpArgs false

open Go.Maps
def gCollect (m : List Int) (F T there : Int) (roots : List Int) : List Int × List Int × Int × Int :=
  if F < 0 ∨ T < F ∨ (m.length : Int) < T then ([], [], 0, 1) else if there < 0 ∨ (m.length : Int) < there then ([], [], 0, 1) else if gRoomOk m.length F T there = false then ([], [], 0, 1) else
  match gReach m F T (gBlk m T) roots with
  | none => ([], [], 0, 22)
  | some l => if gRoom m.length F T there < gWords (gBlk m T) l then ([], [], 0, 6) else
    (gLay m (gBlk m T) (gChange F T (gMoved (gBlk m T) there l)) there l m, roots.map (gChange F T (gMoved (gBlk m T) there l)), there + gWords (gBlk m T) l, 0)
def gc_Collect.f (l0 : List Int) (a1 : Int) (a2 : Int) (a3 : Int) (l4 : List Int) : Option (List Int × List Int × Int × Int) := if w32 l0 ∧ w32 l4 then some (gCollect l0 a1 a2 a3 l4) else none
theorem Aw.rot {S : Nat → Prop} {w W : World} {x : Nat × Blk} {L : List (Nat × Blk)} (h : Aw S w W (x :: L)) : Aw S w W (L ++ [x]) := h.perm (List.perm_append_comm (l₁ := [x]) (l₂ := L))
theorem Aw.unrot {S : Nat → Prop} {w W : World} {x : Nat × Blk} {L : List (Nat × Blk)} (h : Aw S w W (L ++ [x])) : Aw S w W (x :: L) := h.perm (List.perm_append_comm (l₁ := L) (l₂ := [x]))
theorem cp_zero (W : World) : (Instr.alloc 45 true (.tuple #[])).run Try.prog W = .ok (.pointer (some ⟨W.heap.size, 0, none⟩)) (W.alloc (.cells ([.pointer none] : List Value).toArray 45 (0, 0))) := by kernel_rfl
theorem mp_zero (W : World) : (Instr.alloc 54 true (.tuple #[])).run Try.prog W = .ok (.pointer (some ⟨W.heap.size, 0, none⟩)) (W.alloc (.cells ([.map none] : List Value).toArray 54 (0, 0))) := by kernel_rfl
theorem frame_reach {w W : World} {gc sm tm : Nat} {A0 A3 : Option Addr} {c0 c3 : Nat} {m roots : List Int} {F T : Int} {blk : Int → Int} {R : List (Nat × Blk)} (hr0 : Kd.C (Kd.int .u32) w A0 m.length m) (hc0 : m.length ≤ c0) (hm : w32 m) (hb : ¬ (F < 0 ∨ T < F ∨ (m.length : Int) < T)) (hblk : blk = gBlk m T)
    (hr3 : Kd.C (Kd.int .u32) w A3 roots.length roots) (hc3 : roots.length ≤ c3) (hro : w32 roots) (HA : Aw noS w W (gcL blk gc sm tm (.slice A0 m.length c0) (.slice none 0 0) F T [] ++ R)) :
    Calls Try.prog 22 #[.pointer (some ⟨gc, 0, none⟩), .slice A3 roots.length c3] W fun e W' => ((gReach m F T blk roots = none → e = .returned (.bool false) ∧ Aw noS w W' R) ∧ (∀ l, gReach m F T blk roots = some l → e = .returned (.bool true) ∧ ∃ v Lv, Own 3 1 v l.length (l.map (Value.int .i64)) Lv ∧ Aw noS w W' (gcL blk gc sm tm (.slice A0 m.length c0) v F T l ++ Lv ++ R))) := by
  subst hblk
  have HE : GcEnv (inL (gcL (gBlk m T) gc sm tm (.slice A0 m.length c0) (.slice none 0 0) F T [])) W A0 c0 m F T (gBlk m T) := gcEnv (fun W' hk => (Kp.frame HA hk).1.reads hr0) hc0 hm hb
  refine (gc_reach.calls HE (fun W' hk => (Kp.frame HA hk).1.reads hr3) hc3 hro.1 hro.2 ⟨_, [], Own.nil _ _, by simpa using HA.left.givens⟩).mono ?_
  intro e W' hp
  refine ⟨fun hg => ?_, fun l hg => ?_⟩
  · rw [hg] at hp
    exact ⟨hp.1, Kp.frame HA hp.2⟩
  · rw [hg] at hp
    obtain ⟨h1, v, Lv, h2, h3⟩ := hp
    exact ⟨h1, v, Lv, h2, Aw.frame HA h3⟩
set_option maxHeartbeats 8000000 in
set_option maxRecDepth 100000 in
theorem gc_Collect.early (A0 : Option Addr) (c0 : Nat) (l0 : List Int) (a1 : Int) (a2 : Int) (a3 : Int) (A4 : Option Addr) (c4 : Nat) (l4 : List Int) (r4 : Int) (w : World) (hr0 : Kd.C (Kd.int .u32) w A0 l0.length l0) (hc0 : l0.length ≤ c0) (hr4 : Kd.C (Kd.int .u32) w A4 l4.length l4) (hc4 : l4.length ≤ c4) (hok : w32 l0 ∧ w32 l4)
    (h : gCollect l0 a1 a2 a3 l4 = ([], [], 0, r4)) (h4 : r4 ≠ 0) :
    Calls Try.prog 10 #[.slice A0 l0.length c0, .int .i64 a1, .int .i64 a2, .int .i64 a3, .slice A4 l4.length c4] w fun e w' => e = .returned (.tuple #[.slice none 0 0, .slice none 0 0, .int .i64 0, .int .i64 r4]) ∧ Below w.heap.size w w' := by
  unfold gCollect at h
  by_cases hb : a1 < 0 ∨ a2 < a1 ∨ (l0.length : Int) < a2
  · rw [if_pos hb] at h
    simp only [Prod.mk.injEq, true_and] at h
    subst h
    have hbad := gc_begin.bad A0 l0.length c0 a1 a2 w hb
    have HA := Aw.start noS w
    clear hb hok h4
    go_enter Try.func10, Try.ntmps10
    go_wp2_with (first | (go_at_call 20; refine hbad.mono ?_; rintro e W_ ⟨rfl, rfl⟩) | ((with_reducible refine gate_dst (N := 14) rfl ?_); refine aw_alloc rfl rfl cp_zero HA ?_; clear HA; intro bc W_ HA; simp only [Act.put, List.setIfInBounds_toArray, List.set_cons_succ, List.set_cons_zero]) | ((with_reducible refine gate_ld rfl ?_); (first | refine aw_load 0 rfl rfl HA rfl rfl rfl ?_ ?_ | refine aw_load 1 rfl rfl HA rfl rfl rfl ?_ ?_); kernel_rfl; simp only [Act.put, List.setIfInBounds_toArray, List.set_cons_succ, List.set_cons_zero]) | ((with_reducible refine gate_st rfl ?_); (refine aw_store 0 (v := .pointer _) rfl rfl rfl rfl rfl HA rfl rfl rfl ?_ ?_); kernel_rfl; clear HA; intro W_ HA; dsimp only [List.set, List.take, List.cons_append, List.nil_append] at HA))
    (try simp only [Exit.inBlock, Exit.then]); refine bodyPost_ret (results_list (rs := [.tmp 10, .tmp 11, .tmp 12, .tmp 13]) rfl (by simp) (.tmp (.tmp (.tmp (.tmp .nil))))) rfl ?_
    exact ⟨rfl, HA.below⟩
  rw [if_neg hb] at h
  have hgood := gc_begin.good (gBlk l0 a2) A0 l0.length c0 a1 a2 w hb
  have hroom := fun W gc => gc_room.calls (W := W) (gc := gc) (A0 := A0) (n := l0.length) (c0 := c0) (F := a1) (T := a2) (there := a3) hok.1.1 (by omega) (by omega) (by omega)
  by_cases hth : a3 < 0 ∨ (l0.length : Int) < a3
  · rw [if_pos hth] at h
    simp only [Prod.mk.injEq, true_and] at h
    subst h
    rw [if_pos hth, if_pos hth] at hroom
    clear hb hok h4 hth
    go_enter Try.func10, Try.ntmps10
    go_wp2_with (first | (go_at_call 20; refine hgood.mono ?_; rintro e W_ ⟨gc, sm, tm, rfl, HA⟩) | ((with_reducible refine gate_dst (N := 14) rfl ?_); refine aw_alloc rfl rfl cp_zero HA ?_; clear HA; intro bc W_ HA; simp only [Act.put, List.setIfInBounds_toArray, List.set_cons_succ, List.set_cons_zero]) | (go_at_call 21; refine (hroom _ gc (HA.cell (i := 1) (j := 0) rfl rfl) (HA.cell (i := 1) (j := 1) rfl rfl) (HA.cell (i := 1) (j := 2) rfl rfl)).mono ?_; rintro e W_ ⟨rfl, hd⟩; replace HA := HA.drewN0 hd; clear hd) | ((with_reducible refine gate_ld rfl ?_); (first | refine aw_load 0 rfl rfl HA rfl rfl rfl ?_ ?_ | refine aw_load 1 rfl rfl HA rfl rfl rfl ?_ ?_); kernel_rfl; simp only [Act.put, List.setIfInBounds_toArray, List.set_cons_succ, List.set_cons_zero]) | ((with_reducible refine gate_st rfl ?_); (refine aw_store 0 (v := .pointer _) rfl rfl rfl rfl rfl HA rfl rfl rfl ?_ ?_); kernel_rfl; clear HA; intro W_ HA; dsimp only [List.set, List.take, List.cons_append, List.nil_append] at HA))
    (try simp only [Exit.inBlock, Exit.then]); refine bodyPost_ret (results_list (rs := [.tmp 10, .tmp 11, .tmp 12, .tmp 13]) rfl (by simp) (.tmp (.tmp (.tmp (.tmp .nil))))) rfl ?_
    exact ⟨rfl, HA.below⟩
  rw [if_neg hth] at h
  rw [if_neg hth, if_neg hth] at hroom
  obtain ⟨rn, hrn⟩ : ∃ rn, gRoom l0.length a1 a2 a3 = rn := ⟨_, rfl⟩
  rw [hrn] at hroom h
  cases hro : gRoomOk l0.length a1 a2 a3 with
  | false =>
    rw [if_pos hro] at h
    rw [hro] at hroom
    simp only [Prod.mk.injEq, true_and] at h
    subst h
    clear hb hok h4 hth hro hrn
    go_enter Try.func10, Try.ntmps10
    go_wp2_with (first | (go_at_call 20; refine hgood.mono ?_; rintro e W_ ⟨gc, sm, tm, rfl, HA⟩) | ((with_reducible refine gate_dst (N := 14) rfl ?_); refine aw_alloc rfl rfl cp_zero HA ?_; clear HA; intro bc W_ HA; simp only [Act.put, List.setIfInBounds_toArray, List.set_cons_succ, List.set_cons_zero]) | (go_at_call 21; refine (hroom _ gc (HA.cell (i := 1) (j := 0) rfl rfl) (HA.cell (i := 1) (j := 1) rfl rfl) (HA.cell (i := 1) (j := 2) rfl rfl)).mono ?_; rintro e W_ ⟨rfl, hd⟩; replace HA := HA.drewN0 hd; clear hd) | ((with_reducible refine gate_ld rfl ?_); (first | refine aw_load 0 rfl rfl HA rfl rfl rfl ?_ ?_ | refine aw_load 1 rfl rfl HA rfl rfl rfl ?_ ?_); kernel_rfl; simp only [Act.put, List.setIfInBounds_toArray, List.set_cons_succ, List.set_cons_zero]) | ((with_reducible refine gate_st rfl ?_); (refine aw_store 0 (v := .pointer _) rfl rfl rfl rfl rfl HA rfl rfl rfl ?_ ?_); kernel_rfl; clear HA; intro W_ HA; dsimp only [List.set, List.take, List.cons_append, List.nil_append] at HA))
    (try simp only [Exit.inBlock, Exit.then]); refine bodyPost_ret (results_list (rs := [.tmp 10, .tmp 11, .tmp 12, .tmp 13]) rfl (by simp) (.tmp (.tmp (.tmp (.tmp .nil))))) rfl ?_
    exact ⟨rfl, HA.below⟩
  | true =>
  rw [if_neg (by rw [hro]; decide)] at h
  rw [hro] at hroom
  have hreach := fun W gc sm tm (x : Nat × Blk) (HA : Aw noS w W (gcL (gBlk l0 a2) gc sm tm (.slice A0 l0.length c0) (.slice none 0 0) a1 a2 [] ++ [x])) => frame_reach hr0 hc0 hok.1 hb rfl hr4 hc4 hok.2 HA
  cases hg : gReach l0 a1 a2 (gBlk l0 a2) l4 with
  | none =>
    rw [hg] at h hreach
    simp only [Prod.mk.injEq, true_and] at h
    subst h
    replace hreach := fun W gc sm tm x HA => (hreach W gc sm tm x HA).mono (fun e W' hp => hp.1 rfl)
    clear hb hok h4 hth hro hrn hg hr0 hr4
    go_enter Try.func10, Try.ntmps10
    go_wp2_with (first | (go_at_call 20; refine hgood.mono ?_; rintro e W_ ⟨gc, sm, tm, rfl, HA⟩) | ((with_reducible refine gate_dst (N := 14) rfl ?_); refine aw_alloc rfl rfl cp_zero HA ?_; clear HA; intro bc W_ HA; simp only [Act.put, List.setIfInBounds_toArray, List.set_cons_succ, List.set_cons_zero]) | (go_at_call 21; refine (hroom _ gc (HA.cell (i := 1) (j := 0) rfl rfl) (HA.cell (i := 1) (j := 1) rfl rfl) (HA.cell (i := 1) (j := 2) rfl rfl)).mono ?_; rintro e W_ ⟨rfl, hd⟩; replace HA := HA.drewN0 hd; clear hd) | (go_at_call 22; refine (hreach _ gc sm tm _ (Aw.rot HA)).mono ?_; clear HA; rintro e W_ ⟨rfl, HA⟩) | ((with_reducible refine gate_ld rfl ?_); (first | refine aw_load 0 rfl rfl HA rfl rfl rfl ?_ ?_ | refine aw_load 1 rfl rfl HA rfl rfl rfl ?_ ?_); kernel_rfl; simp only [Act.put, List.setIfInBounds_toArray, List.set_cons_succ, List.set_cons_zero]) | ((with_reducible refine gate_st rfl ?_); (refine aw_store 0 (v := .pointer _) rfl rfl rfl rfl rfl HA rfl rfl rfl ?_ ?_); kernel_rfl; clear HA; intro W_ HA; dsimp only [List.set, List.take, List.cons_append, List.nil_append] at HA))
    (try simp only [Exit.inBlock, Exit.then]); refine bodyPost_ret (results_list (rs := [.tmp 10, .tmp 11, .tmp 12, .tmp 13]) rfl (by simp) (.tmp (.tmp (.tmp (.tmp .nil))))) rfl ?_
    exact ⟨rfl, HA.below⟩
  | some l =>
    rw [hg] at h hreach
    dsimp only at h
    by_cases hw : rn < gWords (gBlk l0 a2) l
    · rw [if_pos hw] at h
      simp only [Prod.mk.injEq, true_and] at h
      subst h
      replace hreach := fun W gc sm tm x HA => (hreach W gc sm tm x HA).mono (fun e W' hp => hp.2 l rfl)
      have cw := decide_eq_true hw
      clear hb hok h4 hth hro hrn hg hr0 hr4
      go_enter Try.func10, Try.ntmps10
      go_wp2_with (first | (go_at_call 20; refine hgood.mono ?_; rintro e W_ ⟨gc, sm, tm, rfl, HA⟩) | ((with_reducible refine gate_dst (N := 14) rfl ?_); refine aw_alloc rfl rfl cp_zero HA ?_; clear HA; intro bc W_ HA; simp only [Act.put, List.setIfInBounds_toArray, List.set_cons_succ, List.set_cons_zero]) | (go_at_call 21; refine (hroom _ gc (HA.cell (i := 1) (j := 0) rfl rfl) (HA.cell (i := 1) (j := 1) rfl rfl) (HA.cell (i := 1) (j := 2) rfl rfl)).mono ?_; rintro e W_ ⟨rfl, hd⟩; replace HA := HA.drewN0 hd; clear hd) | (go_at_call 22; refine (hreach _ gc sm tm _ (Aw.rot HA)).mono ?_; clear HA; rintro e W_ ⟨rfl, v_, Lv_, hown, HA⟩; replace HA := Aw.unrot HA) | ((with_reducible refine gate_ld rfl ?_); (first | refine aw_load 0 rfl rfl HA rfl rfl rfl ?_ ?_ | refine aw_load 1 rfl rfl HA rfl rfl rfl ?_ ?_); kernel_rfl; simp only [Act.put, List.setIfInBounds_toArray, List.set_cons_succ, List.set_cons_zero]) | ((with_reducible refine gate_st rfl ?_); (refine aw_store 0 (v := .pointer _) rfl rfl rfl rfl rfl HA rfl rfl rfl ?_ ?_); kernel_rfl; clear HA; intro W_ HA; dsimp only [List.set, List.take, List.cons_append, List.nil_append] at HA))
      (try simp only [Exit.inBlock, Exit.then]); refine bodyPost_ret (results_list (rs := [.tmp 10, .tmp 11, .tmp 12, .tmp 13]) rfl (by simp) (.tmp (.tmp (.tmp (.tmp .nil))))) rfl ?_
      exact ⟨rfl, HA.below⟩
    · rw [if_neg hw] at h
      simp only [Prod.mk.injEq] at h
      exact absurd h.2.2.2.symm h4
end Go.Proofs.Ytnkbfbhhioemoaa.Q

--@needs XHgcCollE
--@needs XGcMove
--@needs XAwRow
--@uses (camlet/gc.half).leads
--@uses (camlet/gc.half).block
namespace Go.Proofs.Ytnkbfbhhioemoaa.Q
open Go.RowKit Go.Proofs.YtnkbfbhhioemoaaW.PrintWords Go.Proofs.YtnkbfbhhioemoaaW.PrintLast Go.Proofs.YtnkbfbhhioemoaaW.PrintMore
attribute [local go_sem] max2_int min2_int max_two min_two max_three min_three max_four min_four   -- for this text's walks alone
set_option linter.unusedVariables false
set_option linter.unusedSimpArgs false

open Go.Maps
theorem u_info : (Try.prog.info? 41).map (fun i => (i.zero, i.size, i.bytes)) = some (some (.int .u32 0), 1, 4) := by kernel_rfl
theorem u_size : (Try.prog.info? 41).map (·.size) = some 1 := by kernel_rfl
theorem movedF_nil (blk : Int → Int) (t : Int) : movedF (gMoved blk t []) = fun _ => none := by
  funext k
  unfold movedF gMoved
  split <;> rfl
theorem movedF_put {blk : Int → Int} {t a : Int} {l : List Int} (h : a ∉ l) : putf (movedF (gMoved blk t l)) (.int .i64 a) (t + gWords blk l) = movedF (gMoved blk t (l ++ [a])) := by
  funext k
  unfold putf
  by_cases e : k = .int .i64 a
  · subst e
    rw [if_pos rfl]
    show _ = gMoved blk t (l ++ [a]) a
    rw [gMoved_append, gMoved_none h, if_pos rfl]
  · rw [if_neg e]
    unfold movedF
    split
    · rename_i i
      have : i ≠ a := fun h => e (by rw [h])
      rw [gMoved_append]
      cases gMoved blk t l i with
      | some v => rfl
      | none => rw [if_neg this]
    · rfl
theorem C_cells {w : World} {q : IntKind} {A : Option Addr} {xs : List Int} (h : Kd.C (Kd.int q) w A xs.length xs) : 0 < (xs.map (Value.int q)).length → ∃ ad, A = some ad ∧ ∀ j v, (xs.map (Value.int q))[j]? = some v → w.cell? (ad.add j) = some v := by
  intro h0
  rw [List.length_map] at h0
  obtain ⟨ad, rfl, _⟩ := Kd.at_int h 0 (by omega) (by omega)
  refine ⟨ad, rfl, fun j v hj => ?_⟩
  have hl : j < xs.length := by
    have := (List.getElem?_eq_some_iff.1 hj).1
    simpa using this
  obtain ⟨ad', e, hc⟩ := Kd.at_int h (j : Int) (by omega) (by omega)
  injection e with e
  subst e
  rw [Int.toNat_natCast] at hc
  rw [hc]
  rw [List.getElem?_map, List.getElem?_eq_getElem hl] at hj
  have : v = .int q xs[j] := (Option.some.inj hj).symm
  rw [this]
  unfold rd
  rw [List.getD_eq_getElem?_getD, Int.toNat_natCast, List.getElem?_eq_getElem hl]
  rfl
/-- what Collect knows of its memory, the output's row ahead -/
abbrev coL (blk : Int → Int) (bm mm bc gc sm tm : Nat) (mv : Int → Option Int) (n : Nat) (M v : Value) (F T : Int) (l : List Int) (Lv : List (Nat × Blk)) : List (Nat × Blk) :=
  (bm, .c 54 [.map (some mm)]) :: (mm, Blk.m Try.prog 3 3 .i64 n (movedF mv)) :: (bc, .c 45 [.pointer (some ⟨gc, 0, none⟩)]) :: (gc, .c 56 [M, .int .i64 F, .int .i64 T, v, .map (some sm), .map (some tm), .int .i64 (gWords blk l)]) ::
   (sm, Blk.m Try.prog 3 3 .i64 l.length (sizesF blk l)) :: (tm, Blk.m Try.prog 3 3 .i64 (gWords blk l).toNat (takenF blk l 0 0)) :: Lv
theorem cut_low {P : Program} (t e : TypeId) (kl : IntKind) {i : TypeInfo} (ht : P.underlying t = some (.slice e)) (hi : P.info? e = some i) (hsz : i.size = 1) (g n m : Nat) (hm : m < n) :
    ∀ W : World, (Instr.slice t (.slice (some ⟨g, 0, none⟩) n n) (some (.int kl (m : Int))) none none).run P W = .ok (.slice (some ⟨g, m, none⟩) (n - m) (n - m)) W := by
  intro W
  have hel : P.elem t = e := by simp [Program.elem, ht]
  have hu : P.underlying t = some (.slice (P.elem t)) := by rw [hel]; exact ht
  rw [run_slice_l W t (some ⟨g, 0, none⟩) n n hu kl (m : Int) (Int.natCast_nonneg _) (by omega), hel]
  have hne : ¬ n = m := by omega
  simp [sizeOf, typeInfo, hi, hsz, sliced, Result.andThen, hne, Addr.add_mid]
set_option maxHeartbeats 8000000 in
set_option maxRecDepth 100000 in
theorem gc_Collect.main (A0 : Option Addr) (c0 : Nat) (l0 : List Int) (a1 : Int) (a2 : Int) (a3 : Int) (A4 : Option Addr) (c4 : Nat) (l4 : List Int) (w : World) (hr0 : Kd.C (Kd.int .u32) w A0 l0.length l0) (hc0 : l0.length ≤ c0) (hr4 : Kd.C (Kd.int .u32) w A4 l4.length l4) (hc4 : l4.length ≤ c4) (hok : w32 l0 ∧ w32 l4)
    (hb : ¬ (a1 < 0 ∨ a2 < a1 ∨ (l0.length : Int) < a2)) (hth : ¬ (a3 < 0 ∨ (l0.length : Int) < a3)) (hro : gRoomOk l0.length a1 a2 a3 = true) (l : List Int) (hg : gReach l0 a1 a2 (gBlk l0 a2) l4 = some l) (hw : ¬ gRoom l0.length a1 a2 a3 < gWords (gBlk l0 a2) l) :
    Calls Try.prog 10 #[.slice A0 l0.length c0, .int .i64 a1, .int .i64 a2, .int .i64 a3, .slice A4 l4.length c4] w fun e w' => ∃ v0_ v1_ : Value, e = .returned (.tuple #[v0_, v1_, .int .i64 (a3 + gWords (gBlk l0 a2) l), .int .i64 0]) ∧ Kd.R (Kd.int .u32) 41 w' w.heap.size (fun k_ => some k_ ≠ (v1_ : Value).ownBlock) v0_ (gLay l0 (gBlk l0 a2) (gChange a1 a2 (gMoved (gBlk l0 a2) a3 l)) a3 l l0) ∧ Kd.R (Kd.int .u32) 41 w' w.heap.size (fun k_ => some k_ ≠ (v0_ : Value).ownBlock) v1_ (l4.map (gChange a1 a2 (gMoved (gBlk l0 a2) a3 l))) ∧ Below w.heap.size w w' := by
  have hgood := gc_begin.good (gBlk l0 a2) A0 l0.length c0 a1 a2 w hb
  have hroom := fun W gc => gc_room.calls (W := W) (gc := gc) (A0 := A0) (n := l0.length) (c0 := c0) (F := a1) (T := a2) (there := a3) hok.1.1 (by omega) (by omega) (by omega)
  rw [if_neg hth, if_neg hth, hro] at hroom
  have hgi := gReach_inv (gBlk_ok l0 a1 a2) (by omega) (by omega) (by omega) hg
  have hreach := fun W gc sm tm (x : Nat × Blk) (HA : Aw noS w W (gcL (gBlk l0 a2) gc sm tm (.slice A0 l0.length c0) (.slice none 0 0) a1 a2 [] ++ [x])) => (frame_reach hr0 hc0 hok.1 hb rfl hr4 hc4 hok.2 HA).mono (fun e W' hp => hp.2 l hg)
  have hgw := hgi.words (by omega)
  have hgl := hgi.words_len
  obtain ⟨rn, hrn⟩ : ∃ rn, gRoom l0.length a1 a2 a3 = rn := ⟨_, rfl⟩
  rw [hrn] at hroom hw
  have hrb : rn ≤ l0.length - a3 := by rw [← hrn]; unfold gRoom; split <;> omega
  have cw := decide_eq_false hw
  have hlen := hok.1.1
  have hlen4 := hok.2.1
  have HOK := Aside0.mk hok
  have HGI := Aside0.mk hgi
  have HR0 := Aside0.mk hr0
  have HR4 := Aside0.mk hr4
  have hF : 0 ≤ a1 := by omega
  have hFT : a1 ≤ a2 := by omega
  have hT : a2 ≤ l0.length := by omega
  have h3 : 0 ≤ a3 := by omega
  have h3b : a3 + gWords (gBlk l0 a2) l ≤ l0.length := by omega
  obtain ⟨mv, hmv⟩ : ∃ mv, gMoved (gBlk l0 a2) a3 l = mv := ⟨_, rfl⟩
  rw [hmv]
  have hmvb : ∀ k v, mv k = some v → 0 ≤ v ∧ v ≤ 1000000 := by
    intro k v hkv
    rw [← hmv] at hkv
    obtain ⟨pre, post, e, rfl⟩ := gMoved_some hkv
    have h1 := gWords_append (gBlk l0 a2) pre (k :: post)
    rw [← e] at h1
    have h2 := gWords_nonneg (blk := gBlk l0 a2) (l := pre) (fun b hb => HGI.out.nonneg b (by rw [e]; simp [hb]))
    have h4 := gWords_nonneg (blk := gBlk l0 a2) (l := k :: post) (fun b hb => HGI.out.nonneg b (by rw [e]; exact List.mem_append_right _ hb))
    omega
  have HMV := Aside0.mk hmv
  have HMB := Aside0.mk hmvb
  clear hmv hmvb
  obtain ⟨chg, hchg⟩ : ∃ chg, gChange a1 a2 mv = chg := ⟨_, rfl⟩
  rw [hchg]
  have HCG := Aside0.mk (show ∀ x, gChange a1 a2 mv x = chg x from fun x => by rw [hchg])
  have hchange := fun (W : World) (nm bm mm bc gc : Nat) (tl : List Value) (R : List (Nat × Blk)) (x : Int) (hx : 0 ≤ x ∧ x < 4294967296) HA => gc_change.calls (w := w) (W := W) (bm := bm) (mm := mm) (bc := bc) (gc := gc) (nm := nm) (tl := tl) (R := R) x HR0.out hc0 hlen hF hFT hT hx.1 hx.2 HMB.out HA
  rw [hchg] at hchange
  have HCH := Lib.hid hchange
  clear hchange
  clear hchg
  clear hok hg hr0 hr4 hro hth hb hgi hrn
  go_enter Try.func10, Try.ntmps10
  go_wp2_with (first | (go_at_call 20; refine hgood.mono ?_; rintro e W_ ⟨gc, sm, tm, rfl, HA⟩) | ((with_reducible refine gate_dst (N := 14) rfl ?_); refine aw_alloc rfl rfl cp_zero HA ?_; clear HA; intro bc W_ HA; simp only [Act.put, List.setIfInBounds_toArray, List.set_cons_succ, List.set_cons_zero]) | (go_at_call 21; refine (hroom _ gc (HA.cell (i := 1) (j := 0) rfl rfl) (HA.cell (i := 1) (j := 1) rfl rfl) (HA.cell (i := 1) (j := 2) rfl rfl)).mono ?_; rintro e W_ ⟨rfl, hd⟩; replace HA := HA.drewN0 hd; clear hd) | (go_at_call 22; refine (hreach _ gc sm tm _ (Aw.rot HA)).mono ?_; clear HA; rintro e W_ ⟨rfl, v_, Lv, hown, HA⟩; replace HA := Aw.unrot HA; obtain ⟨A_, c_, rfl⟩ := hown.form) | ((with_reducible refine gate_dst (N := 60) rfl ?_); refine aw_makemap 3 3 .i64 rfl rfl HA ?_; clear HA; intro mm W_ HA; simp only [Act.put, List.setIfInBounds_toArray, List.set_cons_succ, List.set_cons_zero]) | ((with_reducible refine gate_dst (N := 17) rfl ?_); refine aw_alloc rfl rfl mp_zero HA ?_; clear HA; intro bm W_ HA; simp only [Act.put, List.setIfInBounds_toArray, List.set_cons_succ, List.set_cons_zero]) | ((with_reducible refine gate_ld rfl ?_); (first | refine aw_load 0 rfl rfl HA rfl rfl rfl ?_ ?_ | refine aw_load 1 rfl rfl HA rfl rfl rfl ?_ ?_ | refine aw_load 2 rfl rfl HA rfl rfl rfl ?_ ?_ | refine aw_load 3 rfl rfl HA rfl rfl rfl ?_ ?_ | refine aw_load 4 rfl rfl HA rfl rfl rfl ?_ ?_ | refine aw_load 5 rfl rfl HA rfl rfl rfl ?_ ?_); kernel_rfl; simp only [Act.put, List.setIfInBounds_toArray, List.set_cons_succ, List.set_cons_zero]) | ((with_reducible refine gate_st rfl ?_); (first | refine aw_store 0 (v := .pointer _) rfl rfl rfl rfl rfl HA rfl rfl rfl ?_ ?_ | refine aw_store 0 (v := .map _) rfl rfl rfl rfl rfl HA rfl rfl rfl ?_ ?_); kernel_rfl; clear HA; intro W_ HA; dsimp only [List.set, List.take, List.cons_append, List.nil_append] at HA))
  go_loopg [18, 67] (l.length) (fun g e_ i wx => ∃ (k : Nat), k + g = l.length ∧ i = .int .i64 k ∧ e_ = .int .i64 (a3 + gWords (gBlk l0 a2) (l.take k)) ∧ Aw noS w wx (coL (gBlk l0 a2) bm mm bc gc sm tm (gMoved (gBlk l0 a2) a3 (l.take k)) k (.slice A0 l0.length c0) (.slice A_ l.length c_) a1 a2 l Lv))
  case atStart => exact ⟨0, by omega, rfl, by simp [gWords], by rw [List.take_zero, coL, movedF_nil]; exact HA⟩
  case round =>
    clear HA
    obtain ⟨k, hk, rfl, rfl, HA⟩ := hrel
    by_cases hlt : k < l.length
    · have ck1 : decide ((k : Int) < (l.length : Int)) = true := decide_eq_true (by omega)
      have ck2 : decide (k < l.length) = true := decide_eq_true hlt
      have ck3 : 0 ≤ (k : Int) := by omega
      obtain ⟨a, ha⟩ : ∃ a, l[k] = a := ⟨_, rfl⟩
      have hal : a ∈ l := ha ▸ List.getElem_mem hlt
      have hma := HGI.out.mem a hal
      have htk : l.take (k + 1) = l.take k ++ [a] := by rw [List.take_succ_eq_append_getElem hlt, ha]
      have hnm : a ∉ l.take k := by
        have hd := HGI.out.nodup
        rw [← List.take_append_drop (k + 1) l, htk, List.append_assoc, List.nodup_append] at hd
        intro h
        exact hd.2.2 a h a (by simp) rfl
      have hgk : gWords (gBlk l0 a2) (l.take (k + 1)) = gWords (gBlk l0 a2) (l.take k) + gBlk l0 a2 a := by rw [htk, gWords_append]; simp [gWords]
      have hgk0 : 0 ≤ gWords (gBlk l0 a2) (l.take k) := gWords_nonneg (fun b hb => HGI.out.nonneg b (List.mem_of_mem_take hb))
      have hgk1 : gWords (gBlk l0 a2) (l.take (k + 1)) ≤ gWords (gBlk l0 a2) l := by
        have h1 := gWords_append (gBlk l0 a2) (l.take (k + 1)) (l.drop (k + 1))
        rw [List.take_append_drop] at h1
        have h2 := gWords_nonneg (blk := gBlk l0 a2) (l := l.drop (k + 1)) (fun b hb => HGI.out.nonneg b (List.mem_of_mem_drop hb))
        omega
      obtain ⟨p, hp⟩ : ∃ p, a3 + gWords (gBlk l0 a2) (l.take k) = p := ⟨_, rfl⟩
      have hpb : 0 ≤ p ∧ p + gBlk l0 a2 a ≤ l0.length := by omega
      have HMV := Aside0.mk (movedF_put (blk := gBlk l0 a2) (t := a3) hnm)
      have HP := Aside0.mk hp
      have HTK := Aside0.mk htk
      have HGK := Aside0.mk hgk
      have HMN := Aside0.mk (show movedF (gMoved (gBlk l0 a2) a3 (l.take k)) (.int .i64 a) = none from gMoved_none hnm)
      rw [hp]
      obtain ⟨g2, cap2, hv, hcell⟩ := hown.cell HA (fun x hx => by simp [coL, hx]) (j := k) (u := .int .i64 a) (by simp [List.getElem?_eq_getElem hlt, ha])
      injection hv with hv1 hv2 hv3
      subst hv1 hv3
      have hka : keyOf Try.prog 3 (.int .i64 a) = some (.int .i64 a) := i_key (by omega) (by omega)
      have hsa : (sizesF (gBlk l0 a2) l (.int .i64 a)).getD 0 = gBlk l0 a2 a := by unfold sizesF; simp [hal]
      have hwf : (Lit.int .i64 p).wf = true := i_wf (by omega) (by omega)
      have hkn : k < maxLen := by unfold maxLen; omega
      have hlk : l.length ≤ 1000000 := by omega
      clear hp htk hgk hnm hgk0 hgk1 ha
      go_wp2_with (first | ((with_reducible refine gate_dst (N := 80) rfl ?_); refine aw_lookup 4 (f := sizesF (gBlk l0 a2) l) (kl := .int .i64 a) i_keyed ii_under i_under i_zero rfl rfl rfl rfl HA rfl hka hsa ?_; simp only [Act.put, List.setIfInBounds_toArray, List.set_cons_succ, List.set_cons_zero]) | ((with_reducible refine gate_ld rfl ?_); (first | refine aw_load 0 rfl rfl HA rfl rfl rfl ?_ ?_ | refine aw_load 1 rfl rfl HA rfl rfl rfl ?_ ?_ | refine aw_load 2 rfl rfl HA rfl rfl rfl ?_ ?_ | refine aw_load 3 rfl rfl HA rfl rfl rfl ?_ ?_); kernel_rfl; simp only [Act.put, List.setIfInBounds_toArray, List.set_cons_succ, List.set_cons_zero]) | ((with_reducible refine gate_mu rfl ?_); (refine aw_mapput 1 (kl := .int .i64 a) i_keyed ii_under i_under rfl rfl rfl rfl rfl rfl HA rfl hka hwf hkn ?_); clear HA; intro W_ HA; dsimp only [List.set, List.take, List.cons_append, List.nil_append] at HA))
      go_roundg (l.length - (k + 1))
      case measure => omega
      case rel =>
        refine ⟨k + 1, by omega, by go_num, congrArg (Value.int .i64) (by rw [HGK.out, ← HP.out]; omega), ?_⟩
        refine Aw.congr HA ?_
        rw [HTK.out]
        unfold coL
        rw [← HMV.out, HP.out, HMN.out]
        rfl
    · obtain rfl : k = l.length := by omega
      have ck1 : decide ((l.length : Int) < (l.length : Int)) = false := decide_eq_false (by omega)
      have ck2 : decide (l.length < l.length) = false := decide_eq_false hlt
      have HT := Aside0.mk (show l.take l.length = l from List.take_length)
      rw [HT.out] at HA ⊢
      have hk0 : 0 ≤ gWords (gBlk l0 a2) l := by omega
      clear hlt hk
      rw [HMV.out] at HA
      go_wp2_with (first | ((with_reducible refine gate_dst (N := 86) rfl ?_); refine aw_make_row l0.length rfl Try.underlying22 u_info rfl rfl rfl rfl HA (by omega) (by omega) ?_; clear HA; intro ob W_ HA; simp only [Act.put, List.setIfInBounds_toArray, List.set_cons_succ, List.set_cons_zero]) | ((with_reducible refine gate_dst (N := 89) rfl ?_); refine aw_copy 0 l0.length (off := 0) rfl Try.underlying22 u_size rfl rfl rfl HA rfl (l0.map (Value.int .u32)) (by simp) (by simp) (fun h0 => ⟨rfl, C_cells (HA.1.reads HR0.out) h0⟩) (by simp) (by simp; intros; rfl) ?_; clear HA; intro W_ HA; rw [splice_whole _ _ (by simp)] at HA; dsimp only [List.set, List.take, List.cons_append, List.nil_append] at HA; simp only [Act.put, List.setIfInBounds_toArray, List.set_cons_succ, List.set_cons_zero]) | ((with_reducible refine gate_ld rfl ?_); (first | refine aw_load 0 rfl rfl HA rfl rfl rfl ?_ ?_ | refine aw_load 1 rfl rfl HA rfl rfl rfl ?_ ?_ | refine aw_load 2 rfl rfl HA rfl rfl rfl ?_ ?_ | refine aw_load 3 rfl rfl HA rfl rfl rfl ?_ ?_ | refine aw_load 4 rfl rfl HA rfl rfl rfl ?_ ?_ | refine aw_load 5 rfl rfl HA rfl rfl rfl ?_ ?_); kernel_rfl; simp only [Act.put, List.setIfInBounds_toArray, List.set_cons_succ, List.set_cons_zero]))
      go_loopg [95] (l.length) (fun g i wx => ∃ (k : Nat), k + g = l.length ∧ i = .int .i64 k ∧ Aw noS w wx ((ob, .c 41 ((gLay l0 (gBlk l0 a2) chg a3 (l.take k) l0).map (Value.int .u32))) :: coL (gBlk l0 a2) bm mm bc gc sm tm mv l.length (.slice A0 l0.length c0) (.slice A_ l.length c_) a1 a2 l Lv))
      case atStart => exact ⟨0, by omega, rfl, HA⟩
      case round =>
        clear HA
        obtain ⟨k, hk, rfl, HA⟩ := hrel
        by_cases hlt : k < l.length
        · have ck1 : decide ((k : Int) < (l.length : Int)) = true := decide_eq_true (by omega)
          have ck2 : decide (k < l.length) = true := decide_eq_true hlt
          have ck3 : 0 ≤ (k : Int) := by omega
          obtain ⟨a, ha⟩ : ∃ a, l[k] = a := ⟨_, rfl⟩
          have hal : a ∈ l := ha ▸ List.getElem_mem hlt
          have hma := HGI.out.mem a hal
          have htk : l.take (k + 1) = l.take k ++ [a] := by rw [List.take_succ_eq_append_getElem hlt, ha]
          have hnm : a ∉ l.take k := by
            have hd := HGI.out.nodup
            rw [← List.take_append_drop (k + 1) l, htk, List.append_assoc, List.nodup_append] at hd
            intro h
            exact hd.2.2 a h a (by simp) rfl
          have hgk0 : 0 ≤ gWords (gBlk l0 a2) (l.take k) := gWords_nonneg (fun b hb => HGI.out.nonneg b (List.mem_of_mem_take hb))
          have hgk1 : gWords (gBlk l0 a2) (l.take k) + gBlk l0 a2 a ≤ gWords (gBlk l0 a2) l := by
            have h1 := gWords_append (gBlk l0 a2) (l.take (k + 1)) (l.drop (k + 1))
            rw [List.take_append_drop, htk, gWords_append] at h1
            have h2 := gWords_nonneg (blk := gBlk l0 a2) (l := l.drop (k + 1)) (fun b hb => HGI.out.nonneg b (List.mem_of_mem_drop hb))
            simp only [gWords] at h1
            omega
          obtain ⟨p, hp⟩ : ∃ p : Nat, a3 + gWords (gBlk l0 a2) (l.take k) = p := ⟨(a3 + gWords (gBlk l0 a2) (l.take k)).toNat, by omega⟩
          have hpb : (p : Int) + gBlk l0 a2 a ≤ l0.length := by omega
          have hmva : mv a = some (p : Int) := by
            have e2 := gMoved_mid (blk := gBlk l0 a2) (t := a3) (post := l.drop (k + 1)) hnm
            rw [show l.take k ++ a :: l.drop (k + 1) = l from by rw [← ha, ← List.drop_eq_getElem_cons hlt, List.take_append_drop]] at e2
            rw [← HMV.out, ← hp]
            exact e2
          have HP := Aside0.mk hp
          have HTK := Aside0.mk htk
          obtain ⟨O, hO⟩ : ∃ O, gLay l0 (gBlk l0 a2) chg a3 (l.take k) l0 = O := ⟨_, rfl⟩
          have hOl : O.length = l0.length := by
            rw [← hO]
            exact gLay_len (F := a1) (T := a2) hF hT ⟨fun b hb => HGI.out.mem b (List.mem_of_mem_take hb), HGI.out.apart.sublist (List.take_sublist _ _)⟩ h3 (by omega)
          rw [hO] at HA
          have HO := Aside0.mk hO
          have HOL := Aside0.mk hOl
          obtain ⟨g2, cap2, hv, hcell⟩ := hown.cell HA (fun x hx => by simp [coL, hx]) (j := k) (u := .int .i64 a) (by simp [List.getElem?_eq_getElem hlt, ha])
          injection hv with hv1 hv2 hv3
          subst hv1 hv3
          have hka : keyOf Try.prog 3 (.int .i64 a) = some (.int .i64 a) := i_key (by omega) (by omega)
          have hsa : (sizesF (gBlk l0 a2) l (.int .i64 a)).getD 0 = gBlk l0 a2 a := by unfold sizesF; simp [hal]
          have hma2 : (movedF mv (.int .i64 a)).getD 0 = (p : Int) := by show (mv a).getD 0 = _; rw [hmva]; rfl
          have hkk := gKids_len (m := l0) HGI.out hF hT hal
          have hlk2 : l.length ≤ 1000000 := by omega
          clear hp htk hgk0 hgk1 ha hmva hO hOl hnm
          go_wp2_with (first | ((with_reducible refine gate_dst (N := 101) rfl ?_); refine aw_lookup 2 (f := movedF mv) (kl := .int .i64 a) i_keyed ii_under i_under i_zero rfl rfl rfl rfl HA rfl hka hma2 ?_; simp only [Act.put, List.setIfInBounds_toArray, List.set_cons_succ, List.set_cons_zero]) | ((with_reducible refine gate_ld rfl ?_); (first | refine aw_load 0 rfl rfl HA rfl rfl rfl ?_ ?_ | refine aw_load 1 rfl rfl HA rfl rfl rfl ?_ ?_ | refine aw_load 2 rfl rfl HA rfl rfl rfl ?_ ?_ | refine aw_load 3 rfl rfl HA rfl rfl rfl ?_ ?_ | refine aw_load 4 rfl rfl HA rfl rfl rfl ?_ ?_ | refine aw_load 5 rfl rfl HA rfl rfl rfl ?_ ?_); kernel_rfl; simp only [Act.put, List.setIfInBounds_toArray, List.set_cons_succ, List.set_cons_zero]))
          obtain ⟨ui, hui, _, huz, _⟩ := info_parts u_info
          have hcut2 := cut_mid (P := Try.prog) 22 41 .i64 .i64 Try.underlying22 hui 1 huz A0 l0.length c0 a (a + gBlk l0 a2 a) (by omega) (by omega) (by omega) hc0
          have hcut1 := cut_low (P := Try.prog) 22 41 .i64 Try.underlying22 hui huz ob l0.length p (by omega)
          have hsrc := Kd.C_mid (HA.1.reads HR0.out) (lo := a.toNat) (hi := (a + gBlk l0 a2 a).toNat) (by omega) (by omega) hc0
          rw [gPart_zero (chg := chg) (by omega) (by omega) (by omega)] at hsrc
          obtain ⟨A2, hA2⟩ : ∃ A2, (if c0 = a.toNat then A0 else A0.map (·.add (a.toNat * 1))) = A2 := ⟨_, rfl⟩
          replace hsrc : Kd.C (Kd.int .u32) wr (if c0 = a.toNat then A0 else A0.map (·.add (a.toNat * 1))) (gPart l0 (gBlk l0 a2) chg a 0).length (gPart l0 (gBlk l0 a2) chg a 0) := hsrc
          rw [hA2] at hsrc hcut2
          have HSRC := Aside0.mk hsrc
          clear hA2
          have k3 := HA.cell (i := 3) (j := 0) rfl rfl
          have k4 := HA.cell (i := 4) (j := 4) rfl rfl
          have hlk : (Instr.lookup 54 (.map (some sm)) (.int .i64 a) false).run Try.prog wr.drew = .ok (.int .i64 (gBlk l0 a2 a)) wr.drew := (HA.drew).lookup_run 5 i_keyed ii_under i_under i_zero rfl hka hsa
          have s1 : IntKind.i64.wrap (a + gBlk l0 a2 a) = a + gBlk l0 a2 a := IntWalk.i64_in _ (by omega)
          clear hsrc hui huz
          have hn_ : ((gPart l0 (gBlk l0 a2) chg a 0).map (Value.int .u32)).length = Nat.min ((a + gBlk l0 a2 a).toNat - a.toNat) (l0.length - p) := by
            rw [List.length_map, gPart_len]
            show _ = min _ _
            omega
          have hf_ : p + ((gPart l0 (gBlk l0 a2) chg a 0).map (Value.int .u32)).length ≤ (O.map (Value.int .u32)).length := by
            rw [List.length_map, List.length_map, gPart_len, HOL.out]; omega
          have hl_ : ((gPart l0 (gBlk l0 a2) chg a 0).map (Value.int .u32)).all (·.oneCell') = true := by simp; intros; rfl
          obtain ⟨nn, hnn⟩ : ∃ nn, ((gPart l0 (gBlk l0 a2) chg a 0).map (Value.int .u32)).length = nn := ⟨_, rfl⟩
          have HNN := Lib.hid hnn
          have HN_ := Lib.hid hn_
          have HF_ := Lib.hid hf_
          have HL_ := Lib.hid hl_
          clear hn_ hf_ hl_ hnn
          go_still_tail 14, (by kernel_rfl)
          clear k3 k4 hlk hcut1 hcut2 s1 hcell
          replace HA := HA.drew
          change wpList _ _ _ _ _ wr.drew
          go_wp2_with (first | ((with_reducible refine gate_dst (N := 116) rfl ?_); refine aw_copy 0 nn (off := p) rfl Try.underlying22 u_size rfl rfl rfl HA rfl ((gPart l0 (gBlk l0 a2) chg a 0).map (Value.int .u32)) HN_.out HNN.out (fun h0 => ⟨rfl, C_cells HSRC.out h0⟩) HF_.out (List.all_eq_true.1 HL_.out) ?_; clear HA; intro W_ HA; dsimp only [List.set, List.take, List.cons_append, List.nil_append] at HA; simp only [Act.put, List.setIfInBounds_toArray, List.set_cons_succ, List.set_cons_zero]) | ((with_reducible refine gate_ld rfl ?_); (first | refine aw_load 0 rfl rfl HA rfl rfl rfl ?_ ?_ | refine aw_load 1 rfl rfl HA rfl rfl rfl ?_ ?_ | refine aw_load 2 rfl rfl HA rfl rfl rfl ?_ ?_ | refine aw_load 3 rfl rfl HA rfl rfl rfl ?_ ?_ | refine aw_load 4 rfl rfl HA rfl rfl rfl ?_ ?_ | refine aw_load 5 rfl rfl HA rfl rfl rfl ?_ ?_); kernel_rfl; simp only [Act.put, List.setIfInBounds_toArray, List.set_cons_succ, List.set_cons_zero]))
          rw [← splice_map] at HA
          obtain ⟨K, hK⟩ : ∃ K, gKids l0 (gBlk l0 a2) a = K := ⟨_, rfl⟩
          have HK := Aside0.mk hK
          rw [hK] at hkk
          clear hK HN_ HF_ HL_ HSRC
          have hKl : K.length ≤ 1000000 := by omega
          go_loopg [26] (K.length) (fun g i wx => ∃ (j : Nat), j + g = K.length ∧ i = .int .i64 ((j : Int) + 1) ∧ Aw noS w wx ((ob, .c 41 ((splice O p (gPart l0 (gBlk l0 a2) chg a j)).map (Value.int .u32))) :: coL (gBlk l0 a2) bm mm bc gc sm tm mv l.length (.slice A0 l0.length c0) (.slice (some ⟨g2, 0, none⟩) l.length c_) a1 a2 l Lv))
          case atStart => exact ⟨0, by omega, rfl, HA⟩
          case round =>
            clear HA
            obtain ⟨j, hj, rfl, HA⟩ := hrel
            by_cases hjl : j < K.length
            · have cj1 : decide ((j : Int) + 1 < gBlk l0 a2 a) = true := decide_eq_true (by omega)
              have hpl : p + (gPart l0 (gBlk l0 a2) chg a j).length ≤ O.length := by rw [gPart_len, HK.out, HOL.out]; omega
              have hsl : (splice O p (gPart l0 (gBlk l0 a2) chg a j)).length = l0.length := by rw [length_splice _ _ _ hpl, HOL.out]
              obtain ⟨ad, e, hcell⟩ := Kd.at_int (HA.1.reads HR0.out) (a + ((j : Int) + 1)) (by omega) (by omega)
              subst e
              have s1 : IntKind.i64.wrap ((p : Int) + ((j : Int) + 1)) = (p : Int) + ((j : Int) + 1) := IntWalk.i64_in _ (by omega)
              have s2 : IntKind.i64.wrap (a + ((j : Int) + 1)) = a + ((j : Int) + 1) := IntWalk.i64_in _ (by omega)
              have p1 : (0 ≤ a + ((j : Int) + 1)) = True := eq_true (by omega)
              have q1 : (a + ((j : Int) + 1) < (l0.length : Int)) = True := eq_true (by omega)
              have p2 : (0 ≤ (p : Int) + ((j : Int) + 1)) = True := eq_true (by omega)
              have q2 : ((p : Int) + ((j : Int) + 1) < (l0.length : Int)) = True := eq_true (by omega)
              have hrv := rd_val HOK.out.1.2 (a + ((j : Int) + 1))
              have hjj : decide (p + (j + 1) < ((splice O p (gPart l0 (gBlk l0 a2) chg a j)).map (Value.int .u32)).length) = true := decide_eq_true (by rw [List.length_map, hsl]; omega)
              have HSL := Lib.hid hsl
              have HPL := Lib.hid hpl
              have HJJ := Lib.hid hjj
              clear hsl hpl hjj
              go_wp2_with (first | ((with_reducible refine gate_dst (N := 123) rfl ?_); refine aw_lookup 5 (f := sizesF (gBlk l0 a2) l) (kl := .int .i64 a) i_keyed ii_under i_under i_zero rfl rfl rfl rfl HA rfl hka hsa ?_; simp only [Act.put, List.setIfInBounds_toArray, List.set_cons_succ, List.set_cons_zero]) | ((with_reducible refine gate_ld rfl ?_); (first | refine aw_load 0 rfl rfl HA rfl rfl rfl ?_ ?_ | refine aw_load 1 rfl rfl HA rfl rfl rfl ?_ ?_ | refine aw_load 2 rfl rfl HA rfl rfl rfl ?_ ?_ | refine aw_load 3 rfl rfl HA rfl rfl rfl ?_ ?_ | refine aw_load 4 rfl rfl HA rfl rfl rfl ?_ ?_ | refine aw_load 5 rfl rfl HA rfl rfl rfl ?_ ?_); kernel_rfl; simp only [Act.put, List.setIfInBounds_toArray, List.set_cons_succ, List.set_cons_zero]))
              go_wp2_with (first | (go_at_call 23; refine (HCH.out _ _ _ _ _ _ _ _ (rd l0 (a + ((j : Int) + 1))) hrv (HA.sub (List.sublist_cons_self _ _))).mono ?_; rintro e W_ ⟨rfl, hb_⟩; replace HA := HA.call hb_; clear hb_) | ((with_reducible refine gate_ld rfl ?_); (first | refine aw_load 0 rfl rfl HA rfl rfl rfl ?_ ?_ | refine aw_load 1 rfl rfl HA rfl rfl rfl ?_ ?_ | refine aw_load 2 rfl rfl HA rfl rfl rfl ?_ ?_ | refine aw_load 3 rfl rfl HA rfl rfl rfl ?_ ?_ | refine aw_load 4 rfl rfl HA rfl rfl rfl ?_ ?_ | refine aw_load 5 rfl rfl HA rfl rfl rfl ?_ ?_); kernel_rfl; simp only [Act.put, List.setIfInBounds_toArray, List.set_cons_succ, List.set_cons_zero]) | ((with_reducible refine gate_st rfl ?_); (refine aw_store 0 (v := .int _ _) (j := p + (j + 1)) rfl rfl rfl rfl rfl HA rfl rfl HJJ.out rfl ?_); clear HA; intro W_ HA; dsimp only [List.set, List.take, List.cons_append, List.nil_append] at HA))
              go_roundg (K.length - (j + 1))
              case measure => omega
              case rel =>
                refine ⟨j + 1, by omega, by go_num, ?_⟩
                refine Aw.congr HA ?_
                have hjk : j < (gKids l0 (gBlk l0 a2) a).length := by rw [HK.out]; exact hjl
                have e1 := splice_set O (gPart l0 (gBlk l0 a2) chg a j) p (j + 1) (chg (rd l0 (a + ((j : Int) + 1)))) (by rw [gPart_len]; omega) (by rw [HOL.out]; omega)
                rw [← List.map_set, e1, ← gKids_at (by omega) (by omega) hjk, gPart_set hjk]
            · have hjk : j = K.length := by omega
              have cj1 : decide ((j : Int) + 1 < gBlk l0 a2 a) = false := decide_eq_false (by omega)
              have HJ := Aside0.mk hjk
              clear hjk hj hjl
              go_wp2_with (first | ((with_reducible refine gate_dst (N := 123) rfl ?_); refine aw_lookup 5 (f := sizesF (gBlk l0 a2) l) (kl := .int .i64 a) i_keyed ii_under i_under i_zero rfl rfl rfl rfl HA rfl hka hsa ?_; simp only [Act.put, List.setIfInBounds_toArray, List.set_cons_succ, List.set_cons_zero]) | ((with_reducible refine gate_ld rfl ?_); (first | refine aw_load 0 rfl rfl HA rfl rfl rfl ?_ ?_ | refine aw_load 1 rfl rfl HA rfl rfl rfl ?_ ?_ | refine aw_load 2 rfl rfl HA rfl rfl rfl ?_ ?_ | refine aw_load 3 rfl rfl HA rfl rfl rfl ?_ ?_ | refine aw_load 4 rfl rfl HA rfl rfl rfl ?_ ?_ | refine aw_load 5 rfl rfl HA rfl rfl rfl ?_ ?_); kernel_rfl; simp only [Act.put, List.setIfInBounds_toArray, List.set_cons_succ, List.set_cons_zero]))
              go_roundg (l.length - (k + 1))
              case measure => omega
              case rel =>
                refine ⟨k + 1, by omega, by go_num, ?_⟩
                refine Aw.congr HA ?_
                rw [HTK.out, gLay_append, HO.out, HP.out, HJ.out, ← HK.out, gPart_full, Int.toNat_natCast]
        · obtain rfl : k = l.length := by omega
          have ck1 : decide ((l.length : Int) < (l.length : Int)) = false := decide_eq_false (by omega)
          have ck2 : decide (l.length < l.length) = false := decide_eq_false hlt
          rw [show l.take l.length = l from List.take_length] at HA
          clear hlt hk
          replace HA : Aw noS w wr ((ob, .c 41 ((gLay l0 (gBlk l0 a2) chg a3 l l0).map (Value.int .u32))) :: (bm, .c 54 [.map (some mm)]) :: (mm, Blk.m Try.prog 3 3 .i64 l.length (movedF mv)) :: (bc, .c 45 [.pointer (some ⟨gc, 0, none⟩)]) :: (gc, .c 56 [.slice A0 l0.length c0, .int .i64 a1, .int .i64 a2, .slice A_ l.length c_, .map (some sm), .map (some tm), .int .i64 (gWords (gBlk l0 a2) l)]) :: []) := HA.sub (by
            refine List.Sublist.cons_cons _ (List.Sublist.cons_cons _ (List.Sublist.cons_cons _ (List.Sublist.cons_cons _ (List.Sublist.cons_cons _ (List.nil_sublist _))))))
          go_wp2
          go_loopg [27, 143] (l4.length) (fun g v i wx => ∃ (k : Nat) (Lv2 : List (Nat × Blk)), k + g = l4.length ∧ i = .int .i64 k ∧ Own 41 1 v k (((l4.take k).map chg).map (Value.int .u32)) Lv2 ∧ Aw noS w wx ((ob, .c 41 ((gLay l0 (gBlk l0 a2) chg a3 l l0).map (Value.int .u32))) :: (bm, .c 54 [.map (some mm)]) :: (mm, Blk.m Try.prog 3 3 .i64 l.length (movedF mv)) :: (bc, .c 45 [.pointer (some ⟨gc, 0, none⟩)]) :: (gc, .c 56 [.slice A0 l0.length c0, .int .i64 a1, .int .i64 a2, .slice A_ l.length c_, .map (some sm), .map (some tm), .int .i64 (gWords (gBlk l0 a2) l)]) :: Lv2))
          case atStart => exact ⟨0, [], by omega, rfl, Own.nil _ _, HA⟩
          case round =>
            clear HA
            obtain ⟨k, Lv2, hk, rfl, hown2, HA⟩ := hrel
            by_cases hlt : k < l4.length
            · have ck1 : decide ((k : Int) < (l4.length : Int)) = true := decide_eq_true (by omega)
              have ck2 : decide (k < l4.length) = true := decide_eq_true hlt
              have hb0 : 0 ≤ (k : Int) := by omega
              obtain ⟨ad, e, hcell⟩ := Kd.at_int (HA.1.reads HR4.out) (k : Int) (by omega) (by omega)
              subst e
              rw [Int.toNat_natCast] at hcell
              have hrv : 0 ≤ rd l4 k ∧ rd l4 k < 4294967296 := HOK.out.2.2 _ (rd_mem (by omega) (by omega))
              have htk : l4.take (k + 1) = l4.take k ++ [rd l4 k] := by
                rw [List.take_succ_eq_append_getElem hlt]
                unfold rd
                rw [List.getD_eq_getElem?_getD, Int.toNat_natCast, List.getElem?_eq_getElem hlt]
                rfl
              have HTK := Aside0.mk htk
              have hap1 : k + 1 ≤ maxLen := by unfold maxLen; omega
              have hap2 : (k + 1) * 4 ≤ 140737488355328 := by omega
              clear htk
              go_wp2_with (first | (go_at_call 23; refine (HCH.out _ _ _ _ _ _ _ _ (rd l4 k) hrv (HA.sub (List.sublist_cons_self _ _))).mono ?_; rintro e W_ ⟨rfl, hb_⟩; replace HA := HA.call hb_; clear hb_) | ((with_reducible refine gate_dst (N := 151) rfl ?_); refine aw_newv (fun g => .slice (some ⟨g, 0, none⟩) 1 1) 41 [.int .u32 (chg (rd l4 k))] rfl (fun W => by kernel_rfl) HA ?_; clear HA; intro gn W_ HA; simp only [Act.put, List.setIfInBounds_toArray, List.set_cons_succ, List.set_cons_zero]) | ((with_reducible refine gate_dst (N := 152) rfl ?_); refine aw_append 6 0 rfl Try.underlying22 u_info rfl (Nat.le_refl 1) rfl hown2 rfl rfl HA rfl rfl rfl rfl hap1 hap2 ?_; clear HA; intro v_ W_ Lv_ hown_ HA; dsimp only [List.set, List.take, List.cons_append, List.nil_append] at HA; simp only [Act.put, List.setIfInBounds_toArray, List.set_cons_succ, List.set_cons_zero]) | ((with_reducible refine gate_ld rfl ?_); (first | refine aw_load 0 rfl rfl HA rfl rfl rfl ?_ ?_ | refine aw_load 1 rfl rfl HA rfl rfl rfl ?_ ?_ | refine aw_load 2 rfl rfl HA rfl rfl rfl ?_ ?_ | refine aw_load 3 rfl rfl HA rfl rfl rfl ?_ ?_ | refine aw_load 4 rfl rfl HA rfl rfl rfl ?_ ?_ | refine aw_load 5 rfl rfl HA rfl rfl rfl ?_ ?_); kernel_rfl; simp only [Act.put, List.setIfInBounds_toArray, List.set_cons_succ, List.set_cons_zero]))
              go_roundg (l4.length - (k + 1))
              case measure => omega
              case rel =>
                refine ⟨k + 1, Lv_, by omega, by go_num, ?_, HA.sub (List.sublist_cons_self _ _)⟩
                rw [HTK.out]
                simpa using hown_
            · obtain rfl : k = l4.length := by omega
              have ck1 : decide ((l4.length : Int) < (l4.length : Int)) = false := decide_eq_false (by omega)
              have ck2 : decide (l4.length < l4.length) = false := decide_eq_false hlt
              rw [show l4.take l4.length = l4 from List.take_length] at hown2
              go_wp2
              (try simp only [Exit.inBlock, Exit.then]); refine bodyPost_ret (results_list (rs := [.tmp 10, .tmp 11, .tmp 12, .tmp 13]) rfl (by simp) (.tmp (.tmp (.tmp (.tmp .nil))))) rfl ?_
              have hll : (gLay l0 (gBlk l0 a2) chg a3 l l0).length = l0.length := gLay_len (F := a1) (T := a2) hF hT HGI.out h3 h3b
              have hob := hown2.apart HA (fun x hx => by simp [hx])
              obtain ⟨A5, c5, rfl⟩ := hown2.form
              refine ⟨_, _, rfl, ?_, ?_, HA.below⟩
              · refine Own.kdR (Lv := [(ob, Blk.r 41 1 l0.length ((gLay l0 (gBlk l0 a2) chg a3 l l0).map (Value.int .u32)))]) ?_ (HA.litLast (size := 1) (n := l0.length) (by rw [List.length_map, hll]; omega) (by unfold maxLen; omega)) (fun x hx => by simp at hx; simp [hx]) ?_
                · rw [hll]
                  exact Own.full (by rw [List.length_map, hll]; omega)
                · intro k hk he
                  have e : ob = k := by simpa [Value.ownBlock] using hk
                  subst e
                  exact hob ob he.symm rfl
              · have h2 : Own 41 1 (.slice A5 l4.length c5) (l4.map chg).length ((l4.map chg).map (Value.int .u32)) Lv2 := by rw [List.length_map]; exact hown2
                refine h2.kdR HA (fun x hx => by simp [hx]) ?_
                intro k hk he
                exact hob k hk (by simpa [Value.ownBlock] using he)
set_option maxHeartbeats 8000000 in
set_option maxRecDepth 100000 in
theorem gc_Collect.calls (A0 : Option Addr) (c0 : Nat) (l0 : List Int) (a1 : Int) (a2 : Int) (a3 : Int) (A4 : Option Addr) (c4 : Nat) (l4 : List Int) (r1 : List Int) (r2 : List Int) (r3 : Int) (r4 : Int) (w : World) (hr0 : Kd.C (Kd.int .u32) w A0 l0.length l0) (hc0 : l0.length ≤ c0) (hr4 : Kd.C (Kd.int .u32) w A4 l4.length l4) (hc4 : l4.length ≤ c4) (h : gc_Collect.f l0 a1 a2 a3 l4 = some (r1, r2, r3, r4)) :
    Calls Try.prog 10 #[.slice A0 l0.length c0, .int .i64 a1, .int .i64 a2, .int .i64 a3, .slice A4 l4.length c4] w fun e w' => ∃ v0_ v1_ : Value, e = .returned (.tuple #[v0_, v1_, .int .i64 r3, .int .i64 r4]) ∧ Kd.R (Kd.int .u32) 41 w' w.heap.size (fun k_ => some k_ ≠ (v1_ : Value).ownBlock) v0_ r1 ∧ Kd.R (Kd.int .u32) 41 w' w.heap.size (fun k_ => some k_ ≠ (v0_ : Value).ownBlock) v1_ r2 ∧ Below w.heap.size w w' := by
  unfold gc_Collect.f at h
  by_cases hok : w32 l0 ∧ w32 l4
  case neg => rw [if_neg hok] at h; cases h
  rw [if_pos hok] at h
  replace h := Option.some.inj h
  have early : ∀ q, gCollect l0 a1 a2 a3 l4 = ([], [], 0, q) → q ≠ 0 → Calls Try.prog 10 #[.slice A0 l0.length c0, .int .i64 a1, .int .i64 a2, .int .i64 a3, .slice A4 l4.length c4] w fun e w' => ∃ v0_ v1_ : Value, e = .returned (.tuple #[v0_, v1_, .int .i64 r3, .int .i64 r4]) ∧ Kd.R (Kd.int .u32) 41 w' w.heap.size (fun k_ => some k_ ≠ (v1_ : Value).ownBlock) v0_ r1 ∧ Kd.R (Kd.int .u32) 41 w' w.heap.size (fun k_ => some k_ ≠ (v0_ : Value).ownBlock) v1_ r2 ∧ Below w.heap.size w w' := by
    intro q hq hq0
    have e := hq.symm.trans h
    simp only [Prod.mk.injEq] at e
    obtain ⟨rfl, rfl, rfl, rfl⟩ := e
    refine (gc_Collect.early A0 c0 l0 a1 a2 a3 A4 c4 l4 q w hr0 hc0 hr4 hc4 hok hq hq0).mono ?_
    rintro e w' ⟨rfl, hbw⟩
    have hn : ∀ ok : Nat → Prop, Kd.R (Kd.int .u32) 41 w' w.heap.size ok (.slice none 0 0) [] := fun ok => Own.kdR (l := []) (Own.nil _ _) ((Aw.start noS w).call hbw) (by simp) (by intro k hk; cases hk)
    exact ⟨_, _, rfl, hn _, hn _, hbw⟩
  by_cases hb : a1 < 0 ∨ a2 < a1 ∨ (l0.length : Int) < a2
  · exact early 1 (by unfold gCollect; rw [if_pos hb]) (by decide)
  by_cases hth : a3 < 0 ∨ (l0.length : Int) < a3
  · exact early 1 (by unfold gCollect; rw [if_neg hb, if_pos hth]) (by decide)
  by_cases hro : gRoomOk l0.length a1 a2 a3 = false
  · exact early 1 (by unfold gCollect; rw [if_neg hb, if_neg hth, if_pos hro]) (by decide)
  cases hg : gReach l0 a1 a2 (gBlk l0 a2) l4 with
  | none => exact early 22 (by unfold gCollect; rw [if_neg hb, if_neg hth, if_neg hro, hg]) (by decide)
  | some l =>
    by_cases hw : gRoom l0.length a1 a2 a3 < gWords (gBlk l0 a2) l
    · exact early 6 (by unfold gCollect; rw [if_neg hb, if_neg hth, if_neg hro, hg]; exact if_pos hw) (by decide)
    · have e : gCollect l0 a1 a2 a3 l4 = (gLay l0 (gBlk l0 a2) (gChange a1 a2 (gMoved (gBlk l0 a2) a3 l)) a3 l l0, l4.map (gChange a1 a2 (gMoved (gBlk l0 a2) a3 l)), a3 + gWords (gBlk l0 a2) l, 0) := by
        unfold gCollect; rw [if_neg hb, if_neg hth, if_neg hro, hg]; exact if_neg hw
      rw [e] at h
      simp only [Prod.mk.injEq] at h
      obtain ⟨rfl, rfl, rfl, rfl⟩ := h
      exact gc_Collect.main A0 c0 l0 a1 a2 a3 A4 c4 l4 w hr0 hc0 hr4 hc4 hok hb hth (by simpa using hro) l hg hw
end Go.Proofs.Ytnkbfbhhioemoaa.Q
