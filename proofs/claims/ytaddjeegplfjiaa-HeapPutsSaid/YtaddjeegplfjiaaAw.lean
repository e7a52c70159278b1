/- Words for a walk by hand: a world told by the blocks that the call has made (or was given to write), one rule an operation; the world stays a name. -/
import Derived.Test.YtaddjeegplfjiaaQx0
import Derived.Deep.MidRow
import Derived.Lib.OthersKept
import Derived.Deep.QuietTactic
namespace Go.Proofs.Ytaddjeegplfjiaa.Q
open Go.RowKit Go.Proofs.YtaddjeegplfjiaaW.PrintWords Go.Proofs.YtaddjeegplfjiaaW.PrintLast Go.Proofs.YtaddjeegplfjiaaW.PrintMore
attribute [local go_sem] max2_int min2_int max_two min_two max_three min_three max_four min_four   -- for this text's walks alone
set_option linter.unusedVariables false
set_option linter.unusedSimpArgs false

/-- what a block holds: cells, a string's iterator, anything -/
inductive Blk where
  | c (t : TypeId) (l : List Value)
  | i (s : ByteArray) (pos : Nat)
  | p (φ : Obj → Prop)
def Blk.sat : Blk → Obj → Prop
  | .c t l, o => o = .cells l.toArray t (0, 0)
  | .i s n, o => o = .stringIter s n
  | .p φ, o => φ o
/-- W is w but for what is new and the blocks of S -/
structure Kp (S : Nat → Prop) (w W : World) : Prop where
  os : W.os = w.os
  tape : W.tape = w.tape
  output : W.output = w.output
  size : w.heap.size ≤ W.heap.size
  block : ∀ k, k < w.heap.size → ¬ S k → W.heap[k]? = w.heap[k]?
section
variable {S S2 : Nat → Prop} {w W W2 : World}
theorem Kp.refl (S : Nat → Prop) (w : World) : Kp S w w := ⟨rfl, rfl, rfl, Nat.le_refl _, fun _ _ _ => rfl⟩
theorem Kp.of_below (h : Below w.heap.size w W) : Kp S w W := ⟨h.os, h.tape, h.output, h.size, fun k hk _ => h.block k hk⟩
theorem Kp.below (h : Kp S w W) (hs : ∀ k, S k → w.heap.size ≤ k) : Below w.heap.size w W := ⟨h.os, h.tape, h.output, h.size, fun k hk => h.block k hk (fun hS => by have := hs k hS; omega)⟩
theorem Kp.mono (h : Kp S w W) (hs : ∀ k, S k → S2 k) : Kp S2 w W := ⟨h.os, h.tape, h.output, h.size, fun k hk hn => h.block k hk (fun hS => hn (hs k hS))⟩
theorem Kp.trans (h : Kp S w W) (k : Kp S2 W W2) (hs : ∀ k, S2 k → S k ∨ w.heap.size ≤ k) : Kp S w W2 :=
  ⟨k.os.trans h.os, k.tape.trans h.tape, k.output.trans h.output, Nat.le_trans h.size k.size, fun i hi hn => (k.block i (Nat.lt_of_lt_of_le hi h.size) (fun h2 => (hs i h2).elim hn (fun h3 => by omega))).trans (h.block i hi hn)⟩
theorem Kp.alloc (h : Kp S w W) (o : Obj) : Kp S w (W.alloc o) := h.trans (Kp.of_below (S := fun _ => False) (below_alloc (Below.refl _ _) o)) (fun _ hk => hk.elim)
theorem Kp.drew (h : Kp S w W) : Kp S w W.drew := ⟨h.os, h.tape, h.output, h.size, h.block⟩
theorem drewN_other (W : World) (n : Nat) : (W.drewN n).os = W.os ∧ (W.drewN n).tape = W.tape ∧ (W.drewN n).output = W.output ∧ (W.drewN n).heap = W.heap := ⟨rfl, rfl, rfl, rfl⟩
theorem Kp.drewN (h : Kp S w W) (n : Nat) : Kp S w (W.drewN n) := ⟨h.os, h.tape, h.output, h.size, h.block⟩
theorem Kp.one (W : World) (g : Nat) (W2 : World) (hw : W2.os = W.os ∧ W2.tape = W.tape ∧ W2.output = W.output) (hs : W.heap.size ≤ W2.heap.size) (hb : ∀ k, k < W.heap.size → k ≠ g → W2.heap[k]? = W.heap[k]?) : Kp (fun k => k = g) W W2 :=
  ⟨hw.1, hw.2.1, hw.2.2, hs, fun k hl hn => hb k hl hn⟩
end
theorem quiet_drawn {P : Program} {f : FuncId} {args : Array Value} {w : World} {n : Nat} {v : Value} (h : Calls P f args (w.drewN n) fun e w' => e = .returned v ∧ Drawn0 (w.drewN n) w') : Calls P f args (w.drewN n) fun e w'' => e = .returned v ∧ ∃ m, w'' = w.drewN m :=
  Calls.quiet_of (h.mono fun _ _ ⟨he, hm⟩ => ⟨he, hm.out⟩)
/-- the call began at w; it may write the blocks of S and what is new; L: the blocks that are known -/
def Aw (S : Nat → Prop) (w W : World) (L : List (Nat × Blk)) : Prop :=
  Kp S w W ∧ (∀ x ∈ L, (∃ o, W.heap[x.1]? = some o ∧ x.2.sat o) ∧ (S x.1 ∨ w.heap.size ≤ x.1)) ∧ (L.map (·.1)).Nodup
abbrev noS : Nat → Prop := fun _ => False
section
variable {S S2 : Nat → Prop} {w W W2 : World} {L L' : List (Nat × Blk)}
theorem Aw.start (S : Nat → Prop) (w : World) : Aw S w w [] := ⟨Kp.refl _ _, by simp, by simp⟩
theorem Aw.given {g : Nat} {b : Blk} {o : Obj} (w : World) (hg : w.heap[g]? = some o) (hb : b.sat o) : Aw (fun k => k = g) w w [(g, b)] := ⟨Kp.refl _ _, by simpa using ⟨o, hg, hb⟩, by simp⟩
theorem Aw.below (h : Aw noS w W L) : Below w.heap.size w W := h.1.below (fun _ hk => hk.elim)
theorem Aw.atp {i g : Nat} {b : Blk} (h : Aw S w W L) (hi : L[i]? = some (g, b)) : ∃ o, W.heap[g]? = some o ∧ b.sat o := (h.2.1 (g, b) (List.mem_of_getElem? hi)).1
theorem Aw.at {i g : Nat} {t : TypeId} {l : List Value} (h : Aw S w W L) (hi : L[i]? = some (g, .c t l)) : W.heap[g]? = some (.cells l.toArray t (0, 0)) := by
  obtain ⟨o, h1, h2⟩ := h.atp hi
  rw [h1, show o = _ from h2]
theorem Aw.ati {i g pos : Nat} {s : ByteArray} (h : Aw S w W L) (hi : L[i]? = some (g, .i s pos)) : W.heap[g]? = some (.stringIter s pos) := by
  obtain ⟨o, h1, h2⟩ := h.atp hi
  rw [h1, show o = _ from h2]
theorem Aw.mine {i g : Nat} {b : Blk} (h : Aw S w W L) (hi : L[i]? = some (g, b)) : S g ∨ w.heap.size ≤ g := (h.2.1 (g, b) (List.mem_of_getElem? hi)).2
theorem Aw.cell {i g j : Nat} {t : TypeId} {l : List Value} {v : Value} (h : Aw S w W L) (hi : L[i]? = some (g, .c t l)) (hv : l[j]? = some v) : W.cell? ⟨g, j, none⟩ = some v := by
  rw [cell_of_row W g j l.toArray t (0, 0) (h.at hi)]; simpa using hv
theorem Aw.free {i g j : Nat} {t : TypeId} {l : List Value} (h : Aw S w W L) (hi : L[i]? = some (g, .c t l)) : W.frozen? ⟨g, j, none⟩ = false := blk_frozen (h.at hi) j
theorem Aw.pos {i g pos : Nat} {s : ByteArray} (h : Aw S w W L) (hi : L[i]? = some (g, .i s pos)) : W.iterPos g = pos := by
  have := h.ati hi
  simp [World.iterPos, this]
theorem Aw.range {i g j : Nat} {t : TypeId} {l vs : List Value} (h : Aw S w W L) (hi : L[i]? = some (g, .c t l)) (hv : (l.drop j).take vs.length = vs) : W.rangeAt g j vs := fun k v hk => by
  refine h.cell hi ?_
  have hl : k < vs.length := (List.getElem?_eq_some_iff.1 hk).1
  rw [← hv, List.getElem?_take_of_lt hl, List.getElem?_drop] at hk
  exact hk
theorem Aw.there {i g j n : Nat} {t : TypeId} {l : List Value} (h : Aw S w W L) (hi : L[i]? = some (g, .c t l)) (hn : j + n ≤ l.length) : W.there g j n := fun k hk => by
  have e : l[j + k]? = some l[j + k] := List.getElem?_eq_getElem (by omega)
  exact ⟨by rw [h.cell hi e]; rfl, h.free hi⟩
theorem Aw.step (h : Aw S w W L) (k : Kp S2 W W2) (hs : ∀ x ∈ L, ¬ S2 x.1) (h2 : ∀ k, S2 k → S k ∨ w.heap.size ≤ k) : Aw S w W2 L :=
  ⟨h.1.trans k h2, fun x hx => ⟨by obtain ⟨o, ho, hb⟩ := (h.2.1 x hx).1; exact ⟨o, (k.block x.1 (blk_lt ho) (hs x hx)).trans ho, hb⟩, (h.2.1 x hx).2⟩, h.2.2⟩
theorem Aw.call (h : Aw S w W L) (hb : Below W.heap.size W W2) : Aw S w W2 L := h.step (S2 := noS) (Kp.of_below hb) (fun _ _ hk => hk) (fun _ hk => hk.elim)
theorem Aw.drew (h : Aw S w W L) : Aw S w W.drew L := ⟨h.1.drew, h.2⟩
theorem Aw.drewN (h : Aw S w W L) (n : Nat) : Aw S w (W.drewN n) L := ⟨h.1.drewN n, h.2⟩
theorem Aw.drewN0 (h : Aw S w W L) (hd : Drawn0 W W2) : Aw S w W2 L := by
  obtain ⟨n, rfl⟩ := hd.out
  exact h.drewN n
theorem Aw.sub (h : Aw S w W L) (hs : L'.Sublist L) : Aw S w W L' := ⟨h.1, fun x hx => h.2.1 x (hs.subset hx), (hs.map _).nodup h.2.2⟩
theorem Aw.new (h : Aw S w W L) {b : Blk} {o : Obj} (hb : b.sat o) : ∃ g W2, g = W.heap.size ∧ W2 = W.alloc o ∧ Aw S w W2 ((g, b) :: L) := by
  refine ⟨_, _, rfl, rfl, h.1.alloc _, ?_, ?_⟩
  · intro x hx
    rcases List.mem_cons.1 hx with rfl | hx
    · exact ⟨⟨o, blk_new W _, hb⟩, .inr h.1.size⟩
    · obtain ⟨o2, ho, hb2⟩ := (h.2.1 x hx).1
      exact ⟨⟨o2, blk_alloc ho _, hb2⟩, (h.2.1 x hx).2⟩
  · rw [List.map_cons, List.nodup_cons]
    refine ⟨fun hm => ?_, h.2.2⟩
    obtain ⟨x, hx, he⟩ := List.mem_map.1 hm
    obtain ⟨o2, ho, _⟩ := (h.2.1 x hx).1
    have := blk_lt ho
    have he' : x.1 = W.heap.size := he
    omega
/-- block i's content has turned to b, all else stands -/
theorem Aw.put {i g : Nat} {b b' : Blk} {o : Obj} (h : Aw S w W L) (hi : L[i]? = some (g, b)) (hw : W2.os = W.os ∧ W2.tape = W.tape ∧ W2.output = W.output) (hsz : W.heap.size ≤ W2.heap.size)
    (hg : W2.heap[g]? = some o) (hb : b'.sat o) (ho : ∀ k, k < W.heap.size → k ≠ g → W2.heap[k]? = W.heap[k]?) : Aw S w W2 (L.set i (g, b')) := by
  have hil : i < L.length := (List.getElem?_eq_some_iff.1 hi).1
  have hgi : L[i] = (g, b) := (List.getElem?_eq_some_iff.1 hi).2
  refine ⟨h.1.trans (Kp.one W g W2 hw hsz ho) (fun k hk => by rw [show k = g from hk]; exact h.mine hi), ?_, ?_⟩
  · intro x hx
    obtain ⟨j, hj, rfl⟩ := List.getElem_of_mem hx
    rw [List.length_set] at hj
    rw [List.getElem_set]
    by_cases e : i = j
    · subst e; rw [if_pos rfl]; exact ⟨⟨o, hg, hb⟩, h.mine hi⟩
    · rw [if_neg e]
      have hne : (L[j]).1 ≠ g := by
        intro he
        have hd := h.2.2
        have := (List.getElem_inj (i := i) (j := j) (h₀ := by simpa using hil) (h₁ := by simpa using hj) hd).1 (by simp [hgi, he])
        exact e this
      obtain ⟨o2, ho2, hb2⟩ := (h.2.1 _ (List.getElem_mem hj)).1
      exact ⟨⟨o2, (ho _ (blk_lt ho2) hne).trans ho2, hb2⟩, (h.2.1 _ (List.getElem_mem hj)).2⟩
  · have e : (L.set i (g, b')).map (·.1) = L.map (·.1) := by
      apply List.ext_getElem
      · simp
      · intro j h1 h2
        simp only [List.getElem_map, List.getElem_set]
        split
        · rename_i e; subst e; rw [hgi]
        · rfl
    rw [e]; exact h.2.2
theorem setCells_heap (b : Nat) {t : TypeId} : ∀ (vs : List Value) (o : Nat) (W : World) (l : List Value), W.heap[b]? = some (.cells l.toArray t (0, 0)) → o + vs.length ≤ l.length →
    (W.setCells b o vs).heap[b]? = some (.cells (l.take o ++ vs ++ l.drop (o + vs.length)).toArray t (0, 0)) ∧ (W.setCells b o vs).heap.size = W.heap.size ∧ (∀ k, k ≠ b → (W.setCells b o vs).heap[k]? = W.heap[k]?) ∧
      ((W.setCells b o vs).os = W.os ∧ (W.setCells b o vs).tape = W.tape ∧ (W.setCells b o vs).output = W.output)
  | [], o, W, l, h, hl => by
    refine ⟨?_, rfl, fun _ _ => rfl, rfl, rfl, rfl⟩
    show W.heap[b]? = _
    rw [h]; simp
  | v :: r, o, W, l, h, hl => by
    rw [List.length_cons] at hl
    have h1 := blk_set (g := b) h o v
    rw [List.setIfInBounds_toArray] at h1
    have ih := setCells_heap b r (o + 1) (W.setCell ⟨b, o, none⟩ v) (l.set o v) h1 (by rw [List.length_set]; omega)
    rw [World.setCells]
    refine ⟨?_, ?_, ?_, ih.2.2.2.1, ih.2.2.2.2.1, ih.2.2.2.2.2⟩
    · rw [ih.1]
      congr 2
      rw [List.take_set, List.drop_set_of_lt (by omega)]
      have e : (l.take (o + 1)).set o v = l.take o ++ [v] := by
        rw [List.take_succ_eq_append_getElem (by omega), List.set_append_right _ _ (by simp; omega)]
        simp [Nat.min_eq_left (show o ≤ l.length by omega)]
      rw [e, List.length_cons, show o + 1 + r.length = o + (r.length + 1) by omega]
      simp
    · rw [ih.2.1]; simp [World.setCell]
    · intro k hk
      rw [ih.2.2.1 k hk]
      exact Below.heap_setCell W ⟨b, o, none⟩ v k hk
end
def oneB (P : Program) (t : TypeId) : Bool := match P.underlying t with | some (.struct _) => false | some (.array _ _) => false | some _ => true | none => false
def rowB (P : Program) (t : TypeId) (n : Nat) : Bool := (match P.underlying t with | some (.struct _) => true | some (.array _ _) => true | _ => false) && ((P.info? t).map (·.size) == some n)
def sizeB (P : Program) (t : TypeId) (n : Nat) : Bool := (P.info? t).map (·.size) == some n
def strB (P : Program) (t : TypeId) : Bool := match P.underlying t with | some .string => true | _ => false
section
variable {P : Program} {ops : Array Oper} {rest : List Oper} {o : Oper} {a : Act} {Q : Exit → Act → World → Prop} {S : Nat → Prop} {w W : World} {L : List (Nat × Blk)}
theorem gate_ld {t : TypeId} {x : Operand} (_ : o.op = .load t x) (h : wpList P ops Q (o :: rest) a W) : wpList P ops Q (o :: rest) a W := h
theorem gate_st {t : TypeId} {p x : Operand} (_ : o.op = .store t p x) (h : wpList P ops Q (o :: rest) a W) : wpList P ops Q (o :: rest) a W := h
theorem gate_nx {x : Operand} {b : Bool} (_ : o.op = .next x b) (h : wpList P ops Q (o :: rest) a W) : wpList P ops Q (o :: rest) a W := h
theorem gate_lk {t : TypeId} {m x : Operand} {b : Bool} (_ : o.op = .lookup t m x b) (h : wpList P ops Q (o :: rest) a W) : wpList P ops Q (o :: rest) a W := h
theorem gate_mu {t : TypeId} {m x y : Operand} (_ : o.op = .mapUpdate t m x y) (h : wpList P ops Q (o :: rest) a W) : wpList P ops Q (o :: rest) a W := h
theorem aw_ev {w1 : World} {v : Value} (hw : Region.wanted o (yielded ops a.tmps) = true) (hrun : (execOp a.eval o).run P W = .ok (.value v) w1) (h : wpList P ops Q rest (a.put o.dst v) w1) : wpList P ops Q (o :: rest) a W := by
  unfold wpList
  rw [if_pos hw]
  left
  unfold Oper.wp
  rw [hrun]
  exact h
theorem aw_sk {w1 : World} (hw : Region.wanted o (yielded ops a.tmps) = true) (hN : o.dst = none) (hrun : (execOp a.eval o).run P W = .ok .skip w1) (h : wpList P ops Q rest a w1) : wpList P ops Q (o :: rest) a W := by
  unfold wpList
  rw [if_pos hw]
  left
  unfold Oper.wp
  rw [hrun]
  show wpList P ops Q rest (a.put o.dst undef) w1
  rw [hN]; exact h
theorem run_oneB {t : TypeId} (ht : oneB P t = true) (W : World) : (isAgg t).run P W = .ok false W := by
  unfold oneB at ht
  unfold isAgg
  cases hu : P.underlying t with
  | none => simp [hu] at ht
  | some d =>
    rw [Sem.run_bind, run_underlying hu W]
    rw [hu] at ht
    cases d <;> simp_all
theorem aw_box {t : TypeId} {x : Operand} {l : List Value} (ho : o.op = .box t x) (hl : (a.eval x).cells = l.toArray) (hw : Region.wanted o (yielded ops a.tmps) = true) (HA : Aw S w W L)
    (h : ∀ g W', Aw S w W' ((g, .c t l) :: L) → wpList P ops Q rest (a.put o.dst (.pointer (some ⟨g, 0, none⟩))) W') : wpList P ops Q (o :: rest) a W := by
  obtain ⟨g, W2, rfl, rfl, H2⟩ := HA.new (b := .c t l) rfl
  refine aw_ev hw ?_ (h _ _ H2)
  unfold execOp
  rw [ho]
  simp only [Instr.box, newVar, newRow, newObj, hl]
  rfl
theorem aw_alloc {t : TypeId} {l : List Value} (ho : o.op = .alloc t) (hw : Region.wanted o (yielded ops a.tmps) = true) (hz : ∀ W, (Instr.alloc t true (.tuple #[])).run P W = .ok (.pointer (some ⟨W.heap.size, 0, none⟩)) (W.alloc (.cells l.toArray t (0, 0)))) (HA : Aw S w W L)
    (h : ∀ g W', Aw S w W' ((g, .c t l) :: L) → wpList P ops Q rest (a.put o.dst (.pointer (some ⟨g, 0, none⟩))) W') : wpList P ops Q (o :: rest) a W := by
  obtain ⟨g, W2, rfl, rfl, H2⟩ := HA.new (b := .c t l) rfl
  refine aw_ev hw ?_ (h _ _ H2)
  unfold execOp
  rw [ho]
  simp only [Sem.run_bind, hz]
  rfl
theorem aw_newv (f : Nat → Value) (t : TypeId) (l : List Value) (hw : Region.wanted o (yielded ops a.tmps) = true) (hrun : ∀ W, (execOp a.eval o).run P W = .ok (.value (f W.heap.size)) (W.alloc (.cells l.toArray t (0, 0)))) (HA : Aw S w W L)
    (h : ∀ g W', Aw S w W' ((g, .c t l) :: L) → wpList P ops Q rest (a.put o.dst (f g)) W') : wpList P ops Q (o :: rest) a W := by
  obtain ⟨g, W2, rfl, rfl, H2⟩ := HA.new (b := .c t l) rfl
  exact aw_ev hw (hrun W) (h _ _ H2)
theorem aw_load (i : Nat) {t T : TypeId} {x : Operand} {g j : Nat} {l : List Value} {v : Value} (ho : o.op = .load t x) (hx : a.eval x = .pointer (some ⟨g, j, none⟩)) (HA : Aw S w W L)
    (hi : L[i]? = some (g, .c T l)) (hv : l[j]? = some v) (hw : Region.wanted o (yielded ops a.tmps) = true) (ht : oneB P t = true) (h : wpList P ops Q rest (a.put o.dst v) W) : wpList P ops Q (o :: rest) a W := by
  refine aw_ev hw ?_ h
  unfold execOp
  rw [ho]
  simp only [hx, Instr.loadAt, Instr.sureAddr, loadVar, Sem.run_bind, Sem.run_pure, Result.andThen_ok, run_oneB ht, run_load, HA.cell hi hv, Bool.false_eq_true, if_false]
theorem aw_loadc {t : TypeId} {x : Operand} {ad : Addr} {v : Value} (ho : o.op = .load t x) (hx : a.eval x = .pointer (some ad)) (hw : Region.wanted o (yielded ops a.tmps) = true) (hc : W.cell? ad = some v) (ht : oneB P t = true)
    (h : wpList P ops Q rest (a.put o.dst v) W) : wpList P ops Q (o :: rest) a W := by
  refine aw_ev hw ?_ h
  unfold execOp
  rw [ho]
  simp only [hx, Instr.loadAt, Instr.sureAddr, loadVar, Sem.run_bind, Sem.run_pure, Result.andThen_ok, run_oneB ht, run_load, hc, Bool.false_eq_true, if_false]
theorem rowB_of {t : TypeId} {n : Nat} (ht : rowB P t n = true) : ∃ d, P.underlying t = some d ∧ d.isRow = true ∧ (P.info? t).map (·.size) = some n := by
  unfold rowB at ht
  rw [Bool.and_eq_true] at ht
  obtain ⟨h1, h2⟩ := ht
  cases hu : P.underlying t with
  | none => simp [hu] at h1
  | some d => exact ⟨d, rfl, by rw [hu] at h1; cases d <;> simp_all [TypeDesc.isRow], by simpa using h2⟩
theorem results_aw2 {fn : Func} {p q : Tmp} {ty : TypeId} {g i : Nat} {t : TypeId} {l : List Value} {v : Value} (h : fn.results = #[.cell p ty, .tmp q]) (tmps : Array Value) (HA : Aw S w W L)
    (hp : tmps.getD p undef = .pointer (some ⟨g, 0, none⟩)) (hq : tmps.getD q undef = v) (hi : L[i]? = some (g, .c t l)) (hr : rowB P ty l.length = true) :
    (results fn tmps).run P W = .ok (.tuple #[.agg l.toArray, v]) W := by
  have hp' : tmps[p]?.getD undef = .pointer (some ⟨g, 0, none⟩) := by simpa using hp
  have hq' : tmps[q]?.getD undef = v := by simpa using hq
  obtain ⟨d, hu, hd, hs⟩ := rowB_of hr
  simp [results, h, hp', hq', asAddr, run_loadVar_mid W g 0 ty l d (HA.range hi (by simp)) hu hd hs]
theorem results_aw {fn : Func} {p : Tmp} {ty : TypeId} {g i : Nat} {t : TypeId} {l : List Value} (h : fn.results = #[.cell p ty]) (tmps : Array Value) (HA : Aw S w W L)
    (hp : tmps.getD p undef = .pointer (some ⟨g, 0, none⟩)) (hi : L[i]? = some (g, .c t l)) (hr : rowB P ty l.length = true) :
    (results fn tmps).run P W = .ok (.agg l.toArray) W := by
  have hp' : tmps[p]?.getD undef = .pointer (some ⟨g, 0, none⟩) := by simpa using hp
  obtain ⟨d, hu, hd, hs⟩ := rowB_of hr
  simp [results, h, hp', asAddr, run_loadVar_mid W g 0 ty l d (HA.range hi (by simp)) hu hd hs]
theorem aw_loadA (i : Nat) {t T : TypeId} {x : Operand} {g j : Nat} {l vs : List Value} (ho : o.op = .load t x) (hx : a.eval x = .pointer (some ⟨g, j, none⟩)) (HA : Aw S w W L)
    (hi : L[i]? = some (g, .c T l)) (hw : Region.wanted o (yielded ops a.tmps) = true) (n : Nat) (ht : rowB P t n = true) (hv : (l.drop j).take n = vs) (hn : vs.length = n) (h : wpList P ops Q rest (a.put o.dst (.agg vs.toArray)) W) : wpList P ops Q (o :: rest) a W := by
  obtain ⟨d, hu, hd, hs⟩ := rowB_of ht
  refine aw_ev hw ?_ h
  unfold execOp
  rw [ho]
  simp only [hx, Sem.run_bind, run_loadAt_mid W g j t vs d (HA.range hi (by rw [hn]; exact hv)) hu hd (by rw [hn]; exact hs)]
  rfl
theorem aw_loadW (i : Nat) {t T : TypeId} {x : Operand} {g : Nat} {l : List Value} (ho : o.op = .load t x) (hx : a.eval x = .pointer (some ⟨g, 0, none⟩)) (HA : Aw S w W L)
    (hi : L[i]? = some (g, .c T l)) (hw : Region.wanted o (yielded ops a.tmps) = true) (ht : rowB P t l.length = true) (h : wpList P ops Q rest (a.put o.dst (.agg l.toArray)) W) : wpList P ops Q (o :: rest) a W :=
  aw_loadA i ho hx HA hi hw l.length ht (by simp) rfl h
theorem aw_storeW (i : Nat) {t T : TypeId} {p x : Operand} {g : Nat} {l vs : List Value} (hN : o.dst = none) (ho : o.op = .store t p x) (hp : a.eval p = .pointer (some ⟨g, 0, none⟩)) (hx : a.eval x = .agg vs.toArray) (HA : Aw S w W L)
    (hi : L[i]? = some (g, .c T l)) (hw : Region.wanted o (yielded ops a.tmps) = true) (hj : vs.length = l.length) (ht : sizeB P t vs.length = true) (h1 : vs.all (·.oneCell') = true) (h : ∀ W', Aw S w W' (L.set i (g, .c T vs)) → wpList P ops Q rest a W') : wpList P ops Q (o :: rest) a W := by
  obtain ⟨e1, e2, e3, e4⟩ := setCells_heap g vs 0 W l (HA.at hi) (by omega)
  have e : l.take 0 ++ vs ++ l.drop (0 + vs.length) = vs := by rw [List.drop_eq_nil_of_le (by omega)]; simp
  rw [e] at e1
  refine aw_sk hw hN ?_ (h (W.setCells g 0 vs) (HA.put (b' := .c T vs) hi e4 (Nat.le_of_eq e2.symm) e1 rfl (fun k _ hk => e3 k hk)))
  unfold execOp
  rw [ho]
  simp only [hp, hx, Sem.run_bind, run_storeAt_mid W g 0 t vs.toArray (by rw [List.size_toArray]; exact HA.there hi (by omega)) (by rw [List.size_toArray]; simpa [sizeB] using ht) (all_oneCell_toArray (by simpa using h1)), List.toList_toArray]
  rfl
theorem aw_store (i : Nat) {t T : TypeId} {p x : Operand} {g j : Nat} {l : List Value} {v : Value} (hN : o.dst = none) (ho : o.op = .store t p x) (hp : a.eval p = .pointer (some ⟨g, j, none⟩)) (hx : a.eval x = v) (h1 : v.oneCell' = true) (HA : Aw S w W L)
    (hi : L[i]? = some (g, .c T l)) (hw : Region.wanted o (yielded ops a.tmps) = true) (hj : decide (j < l.length) = true) (ht : sizeB P t 1 = true) (h : ∀ W', Aw S w W' (L.set i (g, .c T (l.set j v))) → wpList P ops Q rest a W') : wpList P ops Q (o :: rest) a W := by
  have hj := of_decide_eq_true hj
  have hcell := HA.cell hi (List.getElem?_eq_getElem hj)
  have h2 := blk_set (g := g) (HA.at hi) j v
  rw [List.setIfInBounds_toArray] at h2
  refine aw_sk hw hN ?_ (h (W.setCell ⟨g, j, none⟩ v) (HA.put (b' := .c T (l.set j v)) hi ⟨rfl, rfl, rfl⟩ (by simp [World.setCell]) h2 rfl (fun k _ hk => Below.heap_setCell W ⟨g, j, none⟩ v k hk)))
  have hs : ∃ inf, P.info? t = some inf ∧ inf.size = 1 := by
    unfold sizeB at ht
    cases hq : P.info? t with
    | none => simp [hq] at ht
    | some inf => exact ⟨inf, rfl, by simpa [hq] using ht⟩
  obtain ⟨inf, hq, hs⟩ := hs
  have hcs : (a.eval x).cells = #[v] := by rw [hx]; cases v <;> simp_all [Value.oneCell', Value.cells]
  have hadd : (⟨g, j, none⟩ : Addr).add 0 = ⟨g, j, none⟩ := by unfold Addr.add; split <;> simp_all
  unfold execOp
  rw [ho]
  simp [hp, Instr.storeAt, Instr.sureAddr, storeVar, sizeOf, typeInfo, hq, hs, hcs, storeCells, Sem.run_bind, hadd, run_store P W _ _ _ h1, hcell, HA.free hi]
theorem aw_storeA (i : Nat) {t T : TypeId} {p x : Operand} {g j : Nat} {l vs : List Value} (hN : o.dst = none) (ho : o.op = .store t p x) (hp : a.eval p = .pointer (some ⟨g, j, none⟩)) (hx : a.eval x = .agg vs.toArray) (HA : Aw S w W L)
    (hi : L[i]? = some (g, .c T l)) (hw : Region.wanted o (yielded ops a.tmps) = true) (hj : decide (j + vs.length ≤ l.length) = true) (ht : sizeB P t vs.length = true) (h1 : vs.all (·.oneCell') = true) (h : ∀ W', Aw S w W' (L.set i (g, .c T (l.take j ++ vs ++ l.drop (j + vs.length)))) → wpList P ops Q rest a W') : wpList P ops Q (o :: rest) a W := by
  have hj := of_decide_eq_true hj
  obtain ⟨e1, e2, e3, e4⟩ := setCells_heap g vs j W l (HA.at hi) hj
  refine aw_sk hw hN ?_ (h (W.setCells g j vs) (HA.put (b' := .c T (l.take j ++ vs ++ l.drop (j + vs.length))) hi e4 (Nat.le_of_eq e2.symm) e1 rfl (fun k _ hk => e3 k hk)))
  unfold execOp
  rw [ho]
  simp only [hp, hx, Sem.run_bind, run_storeAt_mid W g j t vs.toArray (by rw [List.size_toArray]; exact HA.there hi hj) (by rw [List.size_toArray]; simpa [sizeB] using ht) (all_oneCell_toArray (by simpa using h1)), List.toList_toArray]
  rfl
theorem aw_range {t : TypeId} {x : Operand} {s : ByteArray} (ho : o.op = .range t x) (hx : a.eval x = .string s) (hw : Region.wanted o (yielded ops a.tmps) = true) (ht : strB P t = true) (HA : Aw S w W L)
    (h : ∀ g W', Aw S w W' ((g, .i s 0) :: L) → wpList P ops Q rest (a.put o.dst (.pointer (some ⟨g, 0, none⟩))) W') : wpList P ops Q (o :: rest) a W := by
  obtain ⟨g, W2, rfl, rfl, H2⟩ := HA.new (b := .i s 0) rfl
  refine aw_ev hw ?_ (h _ _ H2)
  have hu : P.underlying t = some .string := by
    unfold strB at ht
    split at ht
    · assumption
    · simp at ht
  unfold execOp
  rw [ho]
  simp only [hx, Sem.run_bind, run_range_string W t s hu]
  rfl
theorem aw_next (i : Nat) {x : Operand} {g : Nat} {s : ByteArray} {pos : Nat} {n : Int} (ho : o.op = .next x true) (hx : a.eval x = .pointer (some ⟨g, 0, none⟩)) (hw : Region.wanted o (yielded ops a.tmps) = true) (HA : Aw S w W L)
    (hi : L[i]? = some (g, .i s pos)) (hp : pos < s.size) (hn : ((s[pos]'hp).toNat : Int) = n) (ha : n < 128)
    (h : ∀ W', Aw S w W' (L.set i (g, .i s (pos + 1))) → wpList P ops Q rest (a.put o.dst (.tuple #[.bool true, .int .i64 pos, .int .i32 n])) W') : wpList P ops Q (o :: rest) a W := by
  have e1 := Lib.iterAt_heap W g s pos (pos + 1) (HA.ati hi)
  refine aw_ev hw ?_ (h (W.iterAt g s (pos + 1)) (HA.put (b' := .i s (pos + 1)) hi ⟨rfl, rfl, rfl⟩ (Nat.le_of_eq (Lib.iterAt_size _ _ _ _).symm) e1 rfl (fun k _ hk => Lib.iterAt_other W g k s (pos + 1) hk)))
  unfold execOp
  rw [ho]
  simp only [hx, Sem.run_bind, Lib.run_next_ascii_at W g s pos o.type (HA.ati hi) hp (by omega), hn]
  rfl
theorem aw_next_end (i : Nat) {x : Operand} {g : Nat} {s : ByteArray} {pos : Nat} (ho : o.op = .next x true) (hx : a.eval x = .pointer (some ⟨g, 0, none⟩)) (hw : Region.wanted o (yielded ops a.tmps) = true) (HA : Aw S w W L)
    (hi : L[i]? = some (g, .i s pos)) (hp : ¬ pos < s.size)
    (h : wpList P ops Q rest (a.put o.dst (.tuple #[.bool false])) W) : wpList P ops Q (o :: rest) a W := by
  refine aw_ev hw ?_ h
  unfold execOp
  rw [ho]
  simp only [hx, Sem.run_bind, Lib.run_next_end_at W g s pos o.type (HA.ati hi) hp]
  rfl
end
end Go.Proofs.Ytaddjeegplfjiaa.Q
