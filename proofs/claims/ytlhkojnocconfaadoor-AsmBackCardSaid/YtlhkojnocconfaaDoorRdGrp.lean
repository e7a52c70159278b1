/- Several texts in one: A range over a function whose iterator keeps its state in a cell of its own: block b, laid ahead of the loop. Words for a walk by hand: the rules of XAw within a round of a range over a function. asm.lines: a range over a function; the iterator keeps the rest of the text in its own box. asm.Read: the lines of a text. By wip/gen/asm_read.py. -/
import Derived.Test.YtlhkojnocconfaaDoorQx0
import Derived.RangeFuncNested
import Derived.RangeFuncBound
import Derived.RangeFuncCalls
import Derived.RangeFuncLeaves
import Derived.RangeFuncFrom
import Derived.Shelf.Abstract
import Derived.Shelf.RegionOpen
import Derived.WalkKit
import Derived.OwnWalkIn
import Derived.TacticsInMore
import Derived.LoopNIn
import Derived.LoopIn
import Derived.Test.YtlhkojnocconfaaDoorAw
import Derived.Test.YtlhkojnocconfaaDoorAwAll
import Derived.OrdersIn
import Derived.Test.YtlhkojnocconfaaDoorHasmParse
import Derived.Test.YtlhkojnocconfaaDoorShelf
import Derived.Test.YtlhkojnocconfaaDoorLaid
import Derived.Lib.Hide
namespace Go.Proofs.YtlhkojnocconfaaDoor.Q
open Go.RowKit Go.Proofs.YtlhkojnocconfaaDoorW.PrintWords Go.Proofs.YtlhkojnocconfaaDoorW.PrintLast Go.Proofs.YtlhkojnocconfaaDoorW.PrintMore
attribute [local go_sem] max2_int min2_int max_two min_two max_three min_three max_four min_four   -- for this text's walks alone
set_option linter.unusedVariables false
set_option linter.unusedSimpArgs false

open Go.Shelf
/-- the cell of block b stands -/
def bKeep (b : Nat) (A B : World) : Prop := B.cell? ⟨b, 0, none⟩ = A.cell? ⟨b, 0, none⟩ ∧ B.frozen? ⟨b, 0, none⟩ = A.frozen? ⟨b, 0, none⟩
theorem bKeep_t {b : Nat} {A B C : World} (h : bKeep b A B) (k : bKeep b B C) : bKeep b A C := ⟨k.1.trans h.1, k.2.trans h.2⟩
theorem bKeep_put {b l : Nat} (W : World) (o : Obj) (h : b ≠ l) : bKeep b W (W.putObj l o) := ⟨World.cell?_of_block (World.putObj_heap_other h), World.frozen?_of_block (World.putObj_heap_other h)⟩
/-- the rounds of the iterator are those of xs; each world in which a round begins is one of φ -/
def StopsB {α : Type} (F : Fence) (n : Nat) (P : Program) (g : Nat) (lb : Array Value) (encs : α → Array Value) (b : Nat) (φ : World → Prop) (xs : List α) (w : World) : Prop :=
  ∀ (l : Nat) (J Jx : List α → World → Prop) (W : World), Below w.heap.size w W → (∀ pre W1 m, J pre W1 → J pre (W1.drewN m)) → (∀ pre W1 v, J pre W1 → J pre (W1.setCell ⟨b, 0, none⟩ v)) → (∀ pre W1, J pre W1 → φ W1) →
    (∀ pre x rest W1, xs = pre ++ x :: rest → J pre W1 → YieldAt F (n - 1) P l (encs x) W1 fun e W' =>
      (e = .returned (.bool true) ∧ J (pre ++ [x]) W' ∧ bKeep b W1 W') ∨ (e = .returned (.bool false) ∧ Jx (pre ++ [x]) W')) →
    J [] W →
    CallsIn F n P g (#[.func (.yield l) #[] #[]] ++ lb) W fun e W' => (∃ v, e = .returned v) ∧ (J xs W' ∨ ∃ pre, pre <+: xs ∧ Jx pre W')
/-- how the body of a round may be left -/
def postB {α : Type} (b : Nat) (I Ix : List α → World → Prop) (xs : List α) (W : World) : Exit → Act → World → Prop
  | .normal, _, W' => KeepsOthers W W' ∧ bKeep b W W' ∧ I xs W'
  | .ret, _, W' => KeepsOthers W W' ∧ Ix xs W'
  | _, _, _ => False
section
variable {F : Fence} {n : Nat} {P : Program}
theorem wpIn_rangeB {α : Type} {g : Operand} {ps : Array Tmp} {assign body : Code} {Q : Exit → Act → World → Prop} {a : Act} {w : World}
    (hro : F.round = none) (h1 : 1 ≤ n) {gf : Nat} {lb : Array Value} (hg : a.eval g = .func (.func gf) #[] lb) (hFg : F.fn gf) (eg : ∀ args w, (callFunc gf args).run P w = .ok (.enter gf args) w)
    {encs : α → Array Value} {b : Nat} {φ : World → Prop} {xs : List α} {w0 : World} (hseq : StopsB F (n - 1) P gf lb encs b φ xs w0) (hb : b < w.heap.size) (hb0 : Below w0.heap.size w0 w) (hps : ∀ x, (encs x).size = ps.size)
    (I Ix : List α → World → Prop) (hI : OwnFrom w.heap.size I) (hIx : OwnFrom w.heap.size Ix) (hIb : ∀ pre W v, I pre W → I pre (W.setCell ⟨b, 0, none⟩ v)) (hIp : ∀ pre W, I pre W → φ W) (h0 : I [] w) (a₁ : α → Act)
    (hassign : ∀ (l : Nat) (x : α) (W : World) (K : Act → World → Prop), K (a₁ x) W →
      assign.wpIn (F.inRound l) (n - 1 - 1) P (Exit.then K (fun _ _ _ => False)) { tmps := (ps.zip (encs x)).foldl (fun t (p, v) => t.setIfInBounds p v) a.tmps, defers := [] } W)
    (hbody : ∀ (l : Nat) (pre : List α) (x : α) (rest : List α) (W : World), xs = pre ++ x :: rest → I pre W → body.wpIn (F.inRound l) (n - 1 - 1) P (postB b I Ix (pre ++ [x]) W) (a₁ x) W)
    (hdone : ∀ (D : Nat) (W : World), w.heap.size ≤ D → I xs W → W.heap[D]? = some (.deferred (some [])) → Q .normal { a with defers := { target := .collected D, args := #[] } :: a.defers } W)
    (hstop : ∀ (D : Nat) (pre : List α) (W : World), w.heap.size ≤ D → pre <+: xs → Ix pre W → W.heap[D]? = some (.deferred (some [])) → Code.ret.wpIn F n P Q { a with defers := { target := .collected D, args := #[] } :: a.defers } W) :
    (Code.rangeFunc g ps assign body).wpIn F n P Q a w := by
  refine wpIn_rangeFunc ?_
  intro fn hfn
  rw [hro]
  obtain ⟨rc, hrc⟩ : ∃ rc : LoopState → Option Code → Loop, rc = fun st pe => { state := st, pending := pe, fn, tmps := a.tmps, params := ps, assign, body, defers := w.heap.size } := ⟨_, rfl⟩
  obtain ⟨W1, hW1⟩ : ∃ W1, (w.alloc (.deferred (some []))).alloc (.loop (rc .ready none)) = W1 := ⟨_, rfl⟩
  have hL1 : W1.heap[w.heap.size + 1]? = some (.loop (rc .ready none)) := by
    rw [← hW1]; have := World.alloc_heap_new (w.alloc (.deferred (some []))) (.loop (rc .ready none)); rwa [World.size_alloc] at this
  have hK1 : W1.heap[w.heap.size]? = some (.deferred (some [])) := by
    rw [← hW1]; exact (Below.heap_alloc _ _ _ (by simp)).trans (World.alloc_heap_new w _)
  have hI1 : I [] W1 := by rw [← hW1]; exact hI.alloc _ (hI.alloc _ h0)
  have hb1 : Below w0.heap.size w0 W1 := by
    rw [← hW1]; exact hb0.trans ((((Below.refl _ w).alloc (Nat.le_refl _) _).alloc (by simp) _).mono hb0.size)
  refine ⟨w.heap.size + 1, [{ target := .collected w.heap.size, args := #[] }], W1, { target := .fn (.func gf) lb, args := #[.func (.yield (w.heap.size + 1)) #[] #[]] }, W1, gf,
    #[.func (.yield (w.heap.size + 1)) #[] #[]] ++ lb, W1, ?_, ?_, ?_, ?_, fun _ => h1, ?_⟩
  · rw [← hW1, hrc]; exact run_enterLoop_outer _ _ _ _ _
  · simp only [resolve, hg]
    simp [go_sem]
  · intro f' hf'; simp [Target.leads] at hf'; subst hf'; exact hFg
  · simp [invoke, go_sem, eg]
  have hst : ∀ (W : World) (v : Value) (k : Nat) (o : Obj), W.heap[k]? = some o → o.isCells = false → (W.setCell ⟨b, 0, none⟩ v).heap[k]? = some o := fun W v k o h hc => (KeepsOthers.setCell W ⟨b, 0, none⟩ v).same k _ h hc
  refine (hseq (w.heap.size + 1)
    (fun pre W => I pre W ∧ W.heap[w.heap.size + 1]? = some (.loop (rc .ready none)) ∧ W.heap[w.heap.size]? = some (.deferred (some [])))
    (fun pre W => Ix pre W ∧ W.heap[w.heap.size + 1]? = some (.loop (rc .done (some .ret))) ∧ W.heap[w.heap.size]? = some (.deferred (some [])))
    W1 hb1
    (fun pre W m h => ⟨hI pre W (W.drewN m) none h.1 ⟨rfl, rfl, rfl, Nat.le_refl _, fun _ _ _ => rfl⟩ (fun r e => by cases e), h.2.1, h.2.2⟩)
    (fun pre W v h => ⟨hIb pre W v h.1, hst W v _ _ h.2.1 rfl, hst W v _ _ h.2.2 rfl⟩)
    (fun pre W h => hIp pre W h.1)
    ?_ ⟨hI1, hL1, hK1⟩).mono ?_
  · rintro pre x rest W hx ⟨hi, hl, hk⟩
    have hlt : w.heap.size + 1 < W.heap.size := (Array.getElem?_eq_some_iff.1 hl).1
    have hy := run_yield (P := P) (args := encs x) hl (by rw [hrc]; exact hps x)
    rw [hrc] at hy
    refine ⟨fn, _, assign, body, hy, roundIn_of_wpIn hfn (hassign _ x W _ ⟨_, run_beginRound hl (by rw [hrc]), ?_⟩)⟩
    have hl2 : (W.putObj (w.heap.size + 1) (.loop { rc .ready none with state := .busy })).heap[w.heap.size + 1]? = some (.loop { rc .ready none with state := .busy }) := World.putObj_heap_same hlt
    have hk2 : (W.putObj (w.heap.size + 1) (.loop { rc .ready none with state := .busy })).heap[w.heap.size]? = some (.deferred (some [])) := (World.putObj_heap_other (by omega)).trans hk
    have hw2 : bKeep b W (W.putObj (w.heap.size + 1) (.loop { rc .ready none with state := .busy })) := bKeep_put _ _ (by omega)
    refine wpIn_mono (hbody _ pre x rest _ hx (hI.putObj _ hi (by omega) hl rfl)) ?_
    have fin : ∀ (jump : Option Code) (W3 : World), KeepsOthers (W.putObj (w.heap.size + 1) (.loop { rc .ready none with state := .busy })) W3 →
        (Instr.endRound (w.heap.size + 1) jump).run P W3 = .ok (.bool jump.isNone) (W3.putObj (w.heap.size + 1) (.loop (rc (if jump.isNone then .ready else .done) jump))) ∧
        W3.heap[w.heap.size + 1]? = some (.loop { rc .ready none with state := .busy }) ∧
        (W3.putObj (w.heap.size + 1) (.loop (rc (if jump.isNone then .ready else .done) jump))).heap[w.heap.size + 1]? = some (.loop (rc (if jump.isNone then .ready else .done) jump)) ∧
        (W3.putObj (w.heap.size + 1) (.loop (rc (if jump.isNone then .ready else .done) jump))).heap[w.heap.size]? = some (.deferred (some [])) := fun jump W3 hk3 => by
      have hl3 := hk3.same _ _ hl2 rfl
      have := run_endRound (P := P) jump hl3
      rw [hrc] at this ⊢
      exact ⟨this, by rw [hrc] at hl3; exact hl3, World.putObj_heap_same (Array.getElem?_eq_some_iff.1 hl3).1, (World.putObj_heap_other (by omega)).trans (hk3.same _ _ hk2 rfl)⟩
    rintro e a3 W3 hp
    cases e with
    | normal =>
      obtain ⟨hk3, hkp3, hi3⟩ := hp
      obtain ⟨hr, hl3, hl4, hk4⟩ := fin none W3 hk3
      exact ⟨_, _, hr, .inl ⟨rfl, ⟨hI.putObj _ hi3 (by omega) hl3 rfl, hl4, hk4⟩, bKeep_t (bKeep_t hw2 hkp3) (bKeep_put _ _ (by omega))⟩⟩
    | ret =>
      obtain ⟨hk3, hi3⟩ := hp
      obtain ⟨hr, hl3, hl4, hk4⟩ := fin (some .ret) W3 hk3
      exact ⟨_, _, hr, .inr ⟨rfl, hIx.putObj _ hi3 (by omega) hl3 rfl, hl4, hk4⟩⟩
    | exit id => exact hp.elim
    | goto t => exact hp.elim
    | panic ch => exact hp.elim
    | outgrown => exact hp.elim
  · rintro e W2 ⟨⟨v, rfl⟩, (⟨hi, hl, hk⟩ | ⟨pre, hSp, hi, hl, hk⟩)⟩
    · exact ⟨none, _, by have := run_endLoop (P := P) hl (by rw [hrc]; simp); rw [hrc] at this; exact this, hdone _ _ (Nat.le_refl _) (hI.putObj _ hi (by omega) hl rfl) ((World.putObj_heap_other (by omega)).trans hk)⟩
    · exact ⟨some .ret, _, by have := run_endLoop (P := P) hl (by rw [hrc]; simp); rw [hrc] at this; exact this, hstop _ pre _ (Nat.le_refl _) hSp (hIx.putObj _ hi (by omega) hl rfl) ((World.putObj_heap_other (by omega)).trans hk)⟩
end
end Go.Proofs.YtlhkojnocconfaaDoor.Q

--@needs XAwReg
--@needs XAwFrame
--@needs XRngBox
namespace Go.Proofs.YtlhkojnocconfaaDoor.Q
open Go.RowKit Go.Proofs.YtlhkojnocconfaaDoorW.PrintWords Go.Proofs.YtlhkojnocconfaaDoorW.PrintLast Go.Proofs.YtlhkojnocconfaaDoorW.PrintMore
attribute [local go_sem] max2_int min2_int max_two min_two max_three min_three max_four min_four   -- for this text's walks alone
set_option linter.unusedVariables false
set_option linter.unusedSimpArgs false

section
variable {P : Program} {ops : Array Oper} {rest : List Oper} {o : Oper} {a : Act} {Q : Exit → Act → World → Prop} {W : World} {n : Nat}
theorem semAt_any (r : Option Nat) (ρ : Operand → Value) (o : Oper) (h : ∀ c, o.op ≠ .defer c) : Oper.semAt r ρ o = execOp ρ o := by
  cases r with
  | none => rw [Oper.semAt_none]
  | some l => exact Oper.semAt_some l ρ o h
/-- one operation by the rules for a list of operations: at the wide fence, in a round or in none -/
theorem in_stepK {F : Fence} {K : Act → World → Prop} (hfn : ∀ f, F.fn f) (hdep : F.depth = none) (hfe : ∀ m m' e, ComesIn (Machine.fenced P Fence.wide) P m m' e → ComesIn (Machine.fenced P F) P m m' e) (hfs : ∀ m m', StepsIn (Machine.fenced P Fence.wide) P m m' → StepsIn (Machine.fenced P F) P m m')
    (hw : Region.wanted o (yielded ops a.tmps) = true) (hd : ∀ c, o.op ≠ .defer c) (h : wpList P ops (regQ K) [o] a W) : o.wpIn F n P a W K Q := by
  unfold wpList at h
  rw [if_pos hw] at h
  rcases h with h | ⟨_, _, _, h⟩
  · refine ⟨fun f _ => hfn f, ?_⟩
    rw [semAt_any _ _ _ hd]
    unfold Oper.wp at h
    generalize (execOp a.eval o).run P W = r at *
    have hz : F.depth.isSome = true → 1 ≤ n := fun e => by rw [hdep] at e; cases e
    cases r with
    | ok v w' =>
      cases v with
      | value v => exact h
      | skip => exact h
      | defer d => exact h
      | enter f args =>
        refine ⟨hz, hfn f, fun cs _ => ?_⟩
        obtain ⟨e, w2, fr, r, s, x⟩ := ((callsIn_wide (n := n)).2 h).2 cs (room_wide _)
        refine ⟨e, w2, fr, ?_, hfe _ _ _ s, x⟩
        cases e with
        | returned v => exact r
        | panicked c => exact r.elim
        | outgrown => obtain ⟨_, _, he⟩ := r; exact he.elim
      | row row args => exact ⟨hz, fun c cs _ => by obtain ⟨v, w2, r, s⟩ := h c cs; exact ⟨v, w2, r, hfs _ _ (stepsIn_wide.2 s)⟩⟩
      | _ => exact h.elim
    | halt x w' => cases x <;> exact h.elim
  · exact h.elim
theorem in_stepF {F : Fence} (hfn : ∀ f, F.fn f) (hdep : F.depth = none) (hfe : ∀ m m' e, ComesIn (Machine.fenced P Fence.wide) P m m' e → ComesIn (Machine.fenced P F) P m m' e) (hfs : ∀ m m', StepsIn (Machine.fenced P Fence.wide) P m m' → StepsIn (Machine.fenced P F) P m m')
    (hw : Region.wanted o (yielded ops a.tmps) = true) (hd : ∀ c, o.op ≠ .defer c) (h : wpList P ops (regQ (wpListIn F n P ops Q rest)) [o] a W) : wpListIn F n P ops Q (o :: rest) a W := by
  unfold wpListIn
  rw [if_pos hw]
  exact in_stepK hfn hdep hfe hfs hw hd h
/-- one operation of a region that draws its order, in a round -/
theorem op_in (l : Nat) {i : Nat} {K : Act → World → Prop} (ho : ops[i]? = some o) (hw : Region.wanted o (yielded ops a.tmps) = true) (hd : ∀ c, o.op ≠ .defer c) (h : wpList P ops (regQ K) [o] a W) : wpOpIn (Fence.wide.inRound l) n P ops Q i K a W := by
  unfold wpOpIn
  rw [ho]
  dsimp only
  rw [if_pos hw]
  exact in_stepK (fun _ => trivial) rfl (fun _ _ _ h => h) (fun _ _ h => h) hw hd h
theorem any_step (l : Nat) {fuel i : Nat} {is : List Nat} {listed : Array Bool} (hr : Region.ready .any ops listed = i :: is) (h : ∀ j ∈ i :: is, wpOpIn (Fence.wide.inRound l) n P ops Q j (wpAnyIn (Fence.wide.inRound l) n P .any ops Q fuel (listed.setIfInBounds j true)) a W) :
    wpAnyIn (Fence.wide.inRound l) n P .any ops Q (fuel + 1) listed a W := ⟨fun e => (by rw [hr] at e; cases e), (by rw [hr]; exact h)⟩
theorem any_end (l : Nat) {listed : Array Bool} (hr : Region.ready .any ops listed = []) (h : Q .normal a W) : wpAnyIn (Fence.wide.inRound l) n P .any ops Q 0 listed a W := ⟨hr, h⟩
theorem in_step (l : Nat) (hw : Region.wanted o (yielded ops a.tmps) = true) (hd : ∀ c, o.op ≠ .defer c) (h : wpList P ops (regQ (wpListIn (Fence.wide.inRound l) n P ops Q rest)) [o] a W) : wpListIn (Fence.wide.inRound l) n P ops Q (o :: rest) a W :=
  in_stepF (fun _ => trivial) rfl (fun _ _ _ h => h) (fun _ _ h => h) hw hd h
theorem in_step0 (hw : Region.wanted o (yielded ops a.tmps) = true) (hd : ∀ c, o.op ≠ .defer c) (h : wpList P ops (regQ (wpListIn Fence.wide n P ops Q rest)) [o] a W) : wpListIn Fence.wide n P ops Q (o :: rest) a W :=
  in_stepF (fun _ => trivial) rfl (fun _ _ _ h => h) (fun _ _ h => h) hw hd h
end
section
variable {w W W' : World} {L : List (Nat × Blk)} {row : Option Nat} {B : Nat}
/-- what is known holds cells -/
def CellsL (L : List (Nat × Blk)) : Prop := ∀ x ∈ L, ∀ o, x.2.sat o → o.isCells = true
theorem Aw.grown (h : Aw noS w W L) (hc : CellsL L) (hg : W.grownBy W' row) (hr : ∀ r, row = some r → B ≤ r ∧ ∃ o : Obj, W.heap[r]? = some o ∧ o.isCells = false) (hB : w.heap.size ≤ B) : Aw noS w W' L := by
  refine ⟨⟨hg.os.trans h.1.os, hg.tape.trans h.1.tape, hg.output.trans h.1.output, Nat.le_trans h.1.size hg.size, fun k hk hn => ?_⟩, fun x hx => ?_, h.2.2⟩
  · refine (hg.block k (Nat.lt_of_lt_of_le hk h.1.size) (fun e => ?_)).trans (h.1.block k hk hn)
    have := (hr k e.symm).1
    omega
  · obtain ⟨⟨o, ho, hs⟩, hm⟩ := h.2.1 x hx
    exact ⟨⟨o, (grownBy_keeps_cells hg (fun r e => (hr r e).2) ho (hc x hx o hs)).trans ho, hs⟩, hm⟩
/-- what is no cells stands where the blocks of L, all cells, were written -/
theorem Kp.keepsOthers (k : Kp (inL L) W W') (h : Aw noS w W L) (hc : CellsL L) : KeepsOthers W W' := by
  refine ⟨k.size, fun i o hi ho => (k.block i (blk_lt hi) (fun hm => ?_)).trans hi⟩
  obtain ⟨x, hx, e⟩ := List.mem_map.1 hm
  obtain ⟨⟨o2, ho2, hs⟩, _⟩ := h.2.1 x hx
  have e2 : x.1 = i := e
  rw [e2, hi] at ho2
  obtain rfl := Option.some.inj ho2
  rw [hc x hx _ hs] at ho
  cases ho
/-- a block that holds one cell, whatever it is -/
abbrev Blk.one (t : TypeId) : Blk := .p (fun o => ∃ v, o = .cells #[v] t (0, 0))
theorem Aw.setOne {g i : Nat} {t : TypeId} (h : Aw noS w W L) (hi : L[i]? = some (g, Blk.one t)) (v : Value) : Aw noS w (W.setCell ⟨g, 0, none⟩ v) L := by
  obtain ⟨o, ho, u, rfl⟩ := h.atp hi
  have h2 := blk_set (g := g) (t := t) ho 0 v
  have h3 := h.put (W2 := W.setCell ⟨g, 0, none⟩ v) (b' := Blk.one t) hi ⟨rfl, rfl, rfl⟩ (by simp [World.setCell]) h2 ⟨v, rfl⟩ (fun k _ hk => Below.heap_setCell W ⟨g, 0, none⟩ v k hk)
  have e : L.set i (g, Blk.one t) = L := by
    obtain ⟨hlt, he⟩ := List.getElem?_eq_some_iff.1 hi
    rw [← he, List.set_getElem_self]
  rwa [e] at h3
end
end Go.Proofs.YtlhkojnocconfaaDoor.Q

--@needs XRngBox
--@needs XHasmParse
namespace Go.Proofs.YtlhkojnocconfaaDoor.Q
open Go.RowKit Go.Proofs.YtlhkojnocconfaaDoorW.PrintWords Go.Proofs.YtlhkojnocconfaaDoorW.PrintLast Go.Proofs.YtlhkojnocconfaaDoorW.PrintMore
attribute [local go_sem] max2_int min2_int max_two min_two max_three min_three max_four min_four   -- for this text's walks alone
set_option linter.unusedVariables false
set_option linter.unusedSimpArgs false

open Go.Shelf
attribute [local go_sem] Oper.semAt_some
/-- the lines of a text, and whether each has its end -/
def linesN : Nat → ByteArray → List (ByteArray × Bool)
  | 0, _ => []
  | f + 1, s => if s.size = 0 then [] else ((cutB s [10]).1, (cutB s [10]).2.2) :: linesN f (cutB s [10]).2.1
def linesB (s : ByteArray) : List (ByteArray × Bool) := linesN s.size s
theorem cutB_less (s : ByteArray) (h : s.size ≠ 0) : (cutB s [10]).2.1.size < s.size := by
  have hl : s.data.toList.length = s.size := by rw [Array.length_toList]; rfl
  unfold cutB Lib.cut
  split
  · show (s.data.toList.drop _).toArray.size < s.size
    rw [List.size_toArray, List.length_drop]
    simp only [List.length_cons, List.length_nil]
    omega
  · show ([] : List UInt8).toArray.size < _
    simp
    omega
abbrev lnencs (x : ByteArray × Bool) : Array Value := #[.string x.1, .bool x.2]
theorem asm_lines.in_ (n : Nat) (s : ByteArray) (w : World) :
    CallsIn Fence.wide n Tryd.prog 29 #[.string s] w fun e w' => e = .returned (.func (.func 42) #[] #[.pointer (some ⟨w.heap.size, 0, none⟩)]) ∧ w' = w.alloc (.cells #[.string s] 9) := by
  refine callsIn_of_wp Tryd.func29 rfl trivial ?_ rfl
  simp only [Tryd.ntmps29, List.size_toArray, List.length_cons, List.length_nil, Nat.reduceAdd, Nat.reduceSub, Array.replicate_succ, Array.replicate_zero, List.push_toArray, List.append_toArray, List.nil_append, List.cons_append]
  gi_wp2
  go_ret
  exact ⟨rfl, rfl⟩
/-- the size of the text in block b -/
def leftB (b : Nat) (W : World) : Nat := match W.cell? ⟨b, 0, none⟩ with | some (.string t) => t.size | _ => 0
theorem leftB_of {b : Nat} {W : World} {t : ByteArray} (h : W.cell? ⟨b, 0, none⟩ = some (.string t)) : leftB b W = t.size := by unfold leftB; rw [h]
set_option maxRecDepth 100000 in
set_option maxHeartbeats 4000000 in
theorem asm_lines1.in_ (n : Nat) (hn : 1 ≤ n) (l b : Nat) (s : ByteArray) (hs : s.size ≤ 1000000) (m : Int) (J Jx : List (ByteArray × Bool) → World → Prop)
    (hJd : ∀ pre W1 m, J pre W1 → J pre (W1.drewN m)) (hJb : ∀ pre W1 v, J pre W1 → J pre (W1.setCell ⟨b, 0, none⟩ v)) (hJp : ∀ pre W1, J pre W1 → W1.cell? ⟨0, 0, none⟩ = some (.int .i64 m))
    (hY : ∀ pre x rest W1, linesB s = pre ++ x :: rest → J pre W1 → YieldAt Fence.wide (n - 1) Tryd.prog l (lnencs x) W1 fun e W' =>
      (e = .returned (.bool true) ∧ J (pre ++ [x]) W' ∧ bKeep b W1 W') ∨ (e = .returned (.bool false) ∧ Jx (pre ++ [x]) W'))
    (W : World) (hB : W.cell? ⟨b, 0, none⟩ = some (.string s)) (hF : W.frozen? ⟨b, 0, none⟩ = false) (h0 : J [] W) :
    CallsIn Fence.wide n Tryd.prog 42 #[.func (.yield l) #[] #[], .pointer (some ⟨b, 0, none⟩)] W fun e W' => (∃ v, e = .returned v) ∧ (J (linesB s) W' ∨ ∃ pre, pre <+: linesB s ∧ Jx pre W') := by
  refine callsIn_of_wp Tryd.func42 rfl trivial ?_ rfl
  simp only [Tryd.ntmps42, List.size_toArray, List.length_cons, List.length_nil, Nat.reduceAdd, Nat.reduceSub, Array.replicate_succ, Array.replicate_zero, List.push_toArray, List.append_toArray, List.nil_append, List.cons_append]
  gi_wp2
  gi_loopw [3, 4, 5] (fun _ _ _ wr => ∃ (pre : List (ByteArray × Bool)) (f : Nat) (t : ByteArray), t.size ≤ f ∧ t.size ≤ 1000000 ∧ linesB s = pre ++ linesN f t ∧ wr.cell? ⟨b, 0, none⟩ = some (.string t) ∧ wr.frozen? ⟨b, 0, none⟩ = false ∧ J pre wr)
    (fun _ _ _ wr => leftB b wr)
  case atStart => exact ⟨[], s.size, s, Nat.le_refl _, hs, rfl, hB, hF, h0⟩
  case round =>
    obtain ⟨pre, f, t, hf, ht, hx, hc, hz, hJ⟩ := hrel
    by_cases h00 : t = ⟨#[]⟩
    · subst h00
      have hx2 : linesB s = pre := by rw [hx]; cases f with | zero => rw [linesN, List.append_nil] | succ f => rw [linesN, if_pos (show (⟨#[]⟩ : ByteArray).size = 0 from rfl), List.append_nil]
      gi_wp2
      go_end0
      exact ⟨⟨_, rfl⟩, .inl (hx2 ▸ hJ)⟩
    · have hsz : t.size ≠ 0 := fun e => h00 (by cases t with | mk d => exact congrArg _ (Array.eq_empty_of_size_eq_zero e))
      have c1 : t.toList.isEmpty = false := by
        rw [List.isEmpty_eq_false_iff, ByteArray.toList_eq]
        intro e
        exact hsz (by show t.data.size = 0; rw [← Array.length_toList, e]; rfl)
      obtain ⟨f, rfl⟩ : ∃ g, f = g + 1 := ⟨f - 1, by omega⟩
      have hlt := cutB_less t hsz
      rw [linesN, if_neg hsz] at hx
      have hct : Calls Tryd.prog 43 #[.string t, .string ⟨#[10]⟩] wr fun e w' => e = .returned (.tuple #[.string (cutB t [10]).1, .string (cutB t [10]).2.1, .bool (cutB t [10]).2.2]) ∧ ∃ n, w' = wr.drewN n := Tryd.strings_Cut t ⟨#[10]⟩ m wr (by omega) (hJp _ _ hJ)
      generalize cutB t [10] = c at hct hx hlt
      obtain ⟨one, r, whole⟩ := c
      dsimp only at hct hx hlt
      have h1 : 1 ≤ n := hn
      gi_wp2_with (refine ⟨trivial, ?_⟩; gi_at_call 43; refine (callsIn_wide.2 hct).mono ?_; rintro e W_ ⟨rfl, k, rfl⟩; obtain ⟨fn, tmps, assign, body, hy, hR⟩ := hY pre (one, whole) _ _ hx (hJd _ _ k hJ); dsimp only [lnencs] at hy)
      refine hR.mono ?_
      rintro e W3 (⟨rfl, hJ3, hk3⟩ | ⟨rfl, hJx3⟩)
      · have hc3 : W3.cell? ⟨b, 0, none⟩ = some (.string t) := hk3.1.trans hc
        have hz3 : W3.frozen? ⟨b, 0, none⟩ = false := hk3.2.trans hz
        gi_wp2
        have hc4 : (W3.setCell ⟨b, 0, none⟩ (.string r)).cell? ⟨b, 0, none⟩ = some (.string r) := World.cell?_setCell_same' _ _ _ (by rw [hc3]; rfl)
        go_roundw
        case rel => exact ⟨pre ++ [(one, whole)], f, r, by omega, by omega, by rw [hx, List.append_assoc]; rfl, hc4, by rw [World.frozen?_setCell]; exact hz3, hJb _ _ _ hJ3⟩
        case measure => rw [leftB_of hc4, leftB_of hc]; exact hlt
      · gi_wp2
        refine bodyPost_ret (results_none rfl _ _ _) rfl ?_
        exact ⟨⟨_, rfl⟩, .inr ⟨pre ++ [(one, whole)], ⟨linesN f r, by rw [hx, List.append_assoc]; rfl⟩, hJx3⟩⟩
theorem asm_lines.stops (n : Nat) (hn : 1 ≤ n) (b : Nat) (s : ByteArray) (hs : s.size ≤ 1000000) (m : Int) (w : World) (hb : b < w.heap.size) (hc : w.cell? ⟨b, 0, none⟩ = some (.string s)) (hz : w.frozen? ⟨b, 0, none⟩ = false) :
    StopsB Fence.wide n Tryd.prog 42 #[.pointer (some ⟨b, 0, none⟩)] lnencs b (fun W => W.cell? ⟨0, 0, none⟩ = some (.int .i64 m)) (linesB s) w := fun l J Jx W hW hJd hJb hJp hY h0 =>
  asm_lines1.in_ n hn l b s hs m J Jx hJd hJb hJp hY W ((hW.cell (p := ⟨b, 0, none⟩) hb).trans hc) ((World.frozen?_of_block (hW.block b hb)).trans hz) h0
end Go.Proofs.YtlhkojnocconfaaDoor.Q

--@needs XHasmLines
--@needs XAwIn
--@needs XLaid
namespace Go.Proofs.YtlhkojnocconfaaDoor.Q
open Go.RowKit Go.Proofs.YtlhkojnocconfaaDoorW.PrintWords Go.Proofs.YtlhkojnocconfaaDoorW.PrintLast Go.Proofs.YtlhkojnocconfaaDoorW.PrintMore
attribute [local go_sem] max2_int min2_int max_two min_two max_three min_three max_four min_four   -- for this text's walks alone
set_option linter.unusedVariables false
set_option linter.unusedSimpArgs false

open Go.Shelf
attribute [local go_sem] Oper.semAt_some
def lnCells (x : S36) : List Value := [.string x.f0, .int .i64 x.f1.f0, .int .i64 x.f1.f1, .int .i64 x.f1.f2, .int .i64 x.f1.f3, .int .i64 x.f1.f4, .string x.f2]
def readGo : List S36 → List (ByteArray × Bool) → List S36 × Int × Int
  | acc, [] => (acc, 0, 0)
  | acc, (one, whole) :: r =>
    match asmParse one, whole with
    | some (l, (k, D, A, B, N), t), true => readGo (acc ++ [⟨l, ⟨k, D, A, B, N⟩, t⟩]) r
    | _, _ => ([], (acc.length : Int), 3)
def asmRead (s : ByteArray) : List S36 × Int × Int := if (16384 : Int) < Lib.countByte s.data.toList 10 then ([], 16384, 4) else readGo [] (linesB s)
def asm_Read.f (a0 : ByteArray) : Option (List S36 × Int × Int) := if a0.size ≤ 1000000 then some (asmRead a0) else none
theorem al_lines (W : World) : (Instr.alloc 22 true (.tuple #[])).run Tryd.prog W = .ok (.pointer (some ⟨W.heap.size, 0, none⟩)) (W.alloc (.cells ([.slice none 0 0] : List Value).toArray 22 (0, 0))) := by kernel_rfl
theorem al_int (W : World) : (Instr.alloc 3 true (.tuple #[])).run Tryd.prog W = .ok (.pointer (some ⟨W.heap.size, 0, none⟩)) (W.alloc (.cells ([.int .i64 0] : List Value).toArray 3 (0, 0))) := by kernel_rfl
theorem al_err (W : World) : (Instr.alloc 26 true (.tuple #[])).run Tryd.prog W = .ok (.pointer (some ⟨W.heap.size, 0, none⟩)) (W.alloc (.cells ([.int .i64 0] : List Value).toArray 26 (0, 0))) := by kernel_rfl
theorem lines_made (n : Nat) (s : ByteArray) (w0 w : World) (L : List (Nat × Blk)) (HA : Aw noS w0 w L) :
    CallsIn Fence.wide n Tryd.prog 29 #[.string s] w fun e w' => ∃ gs, e = .returned (.func (.func 42) #[] #[.pointer (some ⟨gs, 0, none⟩)]) ∧ Aw noS w0 w' (L ++ [(gs, Blk.one 9)]) ∧ w'.cell? ⟨gs, 0, none⟩ = some (.string s) ∧ w'.frozen? ⟨gs, 0, none⟩ = false ∧ gs < w'.heap.size := by
  refine (asm_lines.in_ n s w).mono (fun e w' h => ?_)
  obtain ⟨rfl, rfl⟩ := h
  have h0 : (w.alloc (.cells #[.string s] 9)).heap[w.heap.size]? = some (.cells #[.string s] 9) := World.alloc_heap_new w _
  have h1 : (w.alloc (.cells #[.string s] 9)).cell? ⟨w.heap.size, 0, none⟩ = some (.string s) ∧ (w.alloc (.cells #[.string s] 9)).frozen? ⟨w.heap.size, 0, none⟩ = false := ⟨by rw [cell_of_row _ _ 0 _ _ _ h0]; rfl, blk_frozen h0 0⟩
  obtain ⟨g, W2, rfl, rfl, H⟩ := HA.new (b := Blk.one 9) (o := .cells #[.string s] 9) ⟨_, rfl⟩
  exact ⟨w.heap.size, rfl, H.perm (List.perm_append_comm (l₁ := [(w.heap.size, Blk.one 9)]) (l₂ := L)), h1.1, h1.2, by simp⟩
theorem Own.cellsL {e size n : Nat} {v : Value} {xs : List Value} {Lv : List (Nat × Blk)} (h : Own e size v n xs Lv) : CellsL Lv := by
  obtain ⟨_, ⟨_, _, rfl⟩ | ⟨g, cap, _, _, rfl⟩⟩ := h
  · intro x hx; cases hx
  · intro x hx o ho
    obtain rfl := List.mem_singleton.1 hx
    obtain ⟨cur, rfl, _⟩ := ho
    rfl
theorem in_pure {P : Program} {ops : Array Oper} {rest : List Oper} {o : Oper} {a : Act} {Q : Exit → Act → World → Prop} {W : World} (v : Value) (hw : Region.wanted o (yielded ops a.tmps) = true) (hrun : ∀ W : World, (execOp a.eval o).run P W = .ok (.value v) W) (h : wpList P ops Q rest (a.put o.dst v) W) : wpList P ops Q (o :: rest) a W := aw_ev hw (hrun W) h
theorem own_slice {e size n : Nat} {v : Value} {xs : List Value} {Lv : List (Nat × Blk)} (h : Own e size v n xs Lv) : ∃ A c, v = .slice A n c := by
  obtain ⟨_, ⟨rfl, hn, _⟩ | ⟨g, cap, rfl, _, _⟩⟩ := h
  · exact ⟨none, 0, by rw [hn]⟩
  · exact ⟨_, _, rfl⟩
theorem reps_lines {R : S36 → List Value → Prop} (hR : ∀ x, R x (lnCells x)) : ∀ (l acc : List S36) (cs : List Value), Reps R 7 acc cs → Reps R 7 (acc ++ l) (cs ++ l.flatMap lnCells)
  | [], acc, cs, h => by simpa using h
  | x :: l, acc, cs, h => by
    have := reps_lines hR l (acc ++ [x]) (cs ++ lnCells x) (h.snoc (hR x) rfl)
    simpa [List.append_assoc] using this
theorem Own.kdLines {v : Value} {l : List S36} {Lv L : List (Nat × Blk)} {w W : World} (h : Own 36 7 v l.length (l.flatMap lnCells) Lv) (HA : Aw noS w W L) (hs : ∀ x ∈ Lv, x ∈ L) : Kd.R k36 36 W w.heap.size (fun _ => True) v l := by
  refine ⟨fun _ _ => trivial, _, h.rowB HA hs, ?_⟩
  have := reps_lines (R := k36.M W w.heap.size (fun k => True ∧ some k ≠ v.ownBlock)) (fun x => k36_mkM W _ _ x) l [] [] (Reps.none _ _)
  rw [List.nil_append, List.nil_append] at this
  exact this
/-- between two rounds -/
def rdI (w : World) (g2 g3 g4 g5 gs : Nat) (pre : List (ByteArray × Bool)) (W : World) : Prop :=
  ∃ (acc : List S36) (v : Value) (Lv : List (Nat × Blk)), (∀ rest, readGo [] (pre ++ rest) = readGo acc rest) ∧ acc.length = pre.length ∧ Own 36 7 v acc.length (acc.flatMap lnCells) Lv ∧
    Aw noS w W (((g5, .c 22 [v]) :: (g4, .c 26 [.int .i64 0]) :: (g3, .c 3 [.int .i64 0]) :: (g2, .c 22 [.slice none 0 0]) :: Lv) ++ [(gs, Blk.one 9)])
/-- a round has left by a return -/
def rdX (w : World) (g2 g3 g4 : Nat) (pre : List (ByteArray × Bool)) (W : World) : Prop :=
  ∃ k : Int, (∀ rest, readGo [] (pre ++ rest) = ([], k, 3)) ∧ Aw noS w W [(g4, .c 26 [.int .i64 3]), (g3, .c 3 [.int .i64 k]), (g2, .c 22 [.slice none 0 0])]
theorem cellsL_c {g t : Nat} {l : List Value} {L : List (Nat × Blk)} (h : CellsL L) : CellsL ((g, .c t l) :: L) := by
  intro x hx o ho
  rcases List.mem_cons.1 hx with rfl | hx
  · rw [show o = _ from ho]; rfl
  · exact h x hx o ho
theorem cellsL_nil : CellsL [] := fun x hx => by cases hx
theorem cellsL_app {L L' : List (Nat × Blk)} (h : CellsL L) (h' : CellsL L') : CellsL (L ++ L') := fun x hx o ho => (List.mem_append.1 hx).elim (fun hx => h x hx o ho) (fun hx => h' x hx o ho)
theorem cellsL_one {g t : Nat} : CellsL [(g, Blk.one t)] := fun x hx o ho => by
  obtain rfl := List.mem_singleton.1 hx
  obtain ⟨v, rfl⟩ := ho
  rfl
theorem rdI_own (w : World) (g2 g3 g4 g5 gs B : Nat) (hB : w.heap.size ≤ B) : OwnFrom B (rdI w g2 g3 g4 g5 gs) := by
  rintro s W W' row ⟨acc, v, Lv, h1, h2, h3, h4⟩ hg hr
  exact ⟨acc, v, Lv, h1, h2, h3, h4.grown (cellsL_app (cellsL_c (cellsL_c (cellsL_c (cellsL_c h3.cellsL)))) cellsL_one) hg hr hB⟩
theorem rdX_own (w : World) (g2 g3 g4 B : Nat) (hB : w.heap.size ≤ B) : OwnFrom B (rdX w g2 g3 g4) := by
  rintro s W W' row ⟨k, h1, h4⟩ hg hr
  exact ⟨k, h1, h4.grown (cellsL_c (cellsL_c (cellsL_c cellsL_nil))) hg hr hB⟩
theorem rdI_set (w : World) (g2 g3 g4 g5 gs : Nat) (pre : List (ByteArray × Bool)) (W : World) (u : Value) (h : rdI w g2 g3 g4 g5 gs pre W) : rdI w g2 g3 g4 g5 gs pre (W.setCell ⟨gs, 0, none⟩ u) := by
  obtain ⟨acc, v, Lv, h1, h2, h3, h4⟩ := h
  refine ⟨acc, v, Lv, h1, h2, h3, h4.setOne (i := Lv.length + 4) (t := 9) ?_ u⟩
  rw [List.getElem?_append_right (by simp)]
  simp
theorem linesN_in : ∀ (f : Nat) (s : ByteArray) (x : ByteArray × Bool), x ∈ linesN f s → x.1.size ≤ s.size
  | 0, s, x, h => by cases h
  | f + 1, s, x, h => by
    unfold linesN at h
    split at h
    · cases h
    · have hz := cutB_size s [10]
      rcases List.mem_cons.1 h with rfl | h
      · exact hz.1
      · exact Nat.le_trans (linesN_in f _ x h) hz.2
theorem linesN_len : ∀ (f : Nat) (s : ByteArray), (linesN f s).length ≤ f
  | 0, s => by simp [linesN]
  | f + 1, s => by
    unfold linesN
    split
    · simp
    · have := linesN_len f (cutB s [10]).2.1
      simp only [List.length_cons]
      omega
set_option maxRecDepth 100000 in
set_option maxHeartbeats 8000000 in
theorem asm_Read.in_ (n : Nat) (hn : 3 ≤ n) (s : ByteArray) (hs : s.size ≤ 1000000) (r1 : List S36) (r2 r3 : Int) (h : asmRead s = (r1, r2, r3)) (w : World) (hG : Laid w) :
    CallsIn Fence.wide n Tryd.prog 18 #[.string s] w fun e w' => ∃ v0_ : Value, e = .returned (.tuple #[v0_, .int .i64 r2, .int .i64 r3]) ∧ Kd.R k36 36 w' w.heap.size (fun _ => True) v0_ r1 ∧ Below w.heap.size w w' := by
  have h1 : 1 ≤ n := by omega
  have HA := Aw.start noS w
  obtain ⟨m, hm⟩ := hG.2.2.2
  refine callsIn_of_wp_marks Tryd.func18 rfl trivial ?_ rfl
  simp only [Tryd.ntmps18, List.size_toArray, List.length_cons, List.length_nil, Nat.reduceAdd, Nat.reduceSub, Array.replicate_succ, Array.replicate_zero, List.push_toArray, List.append_toArray, List.nil_append, List.cons_append]
  unfold asmRead at h
  by_cases hc : (16384 : Int) < Lib.countByte s.data.toList 10
  · have c1 := decide_eq_true hc
    rw [if_pos hc] at h
    simp only [Prod.mk.injEq] at h
    obtain ⟨rfl, rfl, rfl⟩ := h
    gi_wp2_with (first | (refine ⟨trivial, ?_⟩; gi_at_call 28; refine (callsIn_wide.2 (Tryd.strings_Count_one s 10 _)).mono ?_; rintro e w' ⟨rfl, rfl⟩) | (refine ⟨trivial, ?_⟩; gi_at_call 29; refine (lines_made (n - 1) s _ _ _ HA).mono ?_; clear HA; rintro e W_ ⟨gs, rfl, HA, hgc, hgz, hgl⟩) | (refine in_step0 rfl (by intro c hc; cases hc) ?_; first | (((with_reducible refine gate_dst (N := 2) rfl ?_); refine aw_alloc rfl rfl al_lines HA ?_; clear HA; intro g2 W_ HA; simp only [Act.put, List.setIfInBounds_toArray, List.set_cons_succ, List.set_cons_zero]); refine reg_end ?_) | (((with_reducible refine gate_dst (N := 3) rfl ?_); refine aw_alloc rfl rfl al_int HA ?_; clear HA; intro g3 W_ HA; simp only [Act.put, List.setIfInBounds_toArray, List.set_cons_succ, List.set_cons_zero]); refine reg_end ?_) | (((with_reducible refine gate_dst (N := 4) rfl ?_); refine aw_alloc rfl rfl al_err HA ?_; clear HA; intro g4 W_ HA; simp only [Act.put, List.setIfInBounds_toArray, List.set_cons_succ, List.set_cons_zero]); refine reg_end ?_) | (((with_reducible refine gate_dst (N := 5) rfl ?_); refine aw_alloc rfl rfl al_lines HA ?_; clear HA; intro g5 W_ HA; simp only [Act.put, List.setIfInBounds_toArray, List.set_cons_succ, List.set_cons_zero]); refine reg_end ?_) | (((with_reducible refine gate_st rfl ?_); (first | refine aw_store 0 (v := .slice _ _ _) rfl rfl rfl rfl rfl HA rfl rfl rfl ?_ ?_ | refine aw_store 1 (v := .slice _ _ _) rfl rfl rfl rfl rfl HA rfl rfl rfl ?_ ?_ | refine aw_store 2 (v := .slice _ _ _) rfl rfl rfl rfl rfl HA rfl rfl rfl ?_ ?_ | refine aw_store 3 (v := .slice _ _ _) rfl rfl rfl rfl rfl HA rfl rfl rfl ?_ ?_ | refine aw_store 0 (v := .int _ _) rfl rfl rfl rfl rfl HA rfl rfl rfl ?_ ?_ | refine aw_store 1 (v := .int _ _) rfl rfl rfl rfl rfl HA rfl rfl rfl ?_ ?_ | refine aw_store 2 (v := .int _ _) rfl rfl rfl rfl rfl HA rfl rfl rfl ?_ ?_ | refine aw_store 3 (v := .int _ _) rfl rfl rfl rfl rfl HA rfl rfl rfl ?_ ?_); kernel_rfl; clear HA; intro W_ HA; dsimp only [List.set, List.take, List.cons_append, List.nil_append] at HA); refine reg_end ?_)))
    have k2 := HA.cell (i := 2) (j := 0) rfl rfl
    have k3 := HA.cell (i := 1) (j := 0) rfl rfl
    have k4 := HA.cell (i := 0) (j := 0) rfl rfl
    refine ⟨.tuple #[.slice none 0 0, .int .i64 16384, .int .i64 4], ?_, _, rfl, Own.kdLines (l := []) (Own.nil _ _) HA (by simp), HA.below⟩
    simp [results, Tryd.f18, go_sem, k2, k3, k4]
  · have c1 := decide_eq_false hc
    rw [if_neg hc] at h
    gi_wp2_with (first | (refine ⟨trivial, ?_⟩; gi_at_call 28; refine (callsIn_wide.2 (Tryd.strings_Count_one s 10 _)).mono ?_; rintro e w' ⟨rfl, rfl⟩) | (refine ⟨trivial, ?_⟩; gi_at_call 29; refine (lines_made (n - 1) s _ _ _ HA).mono ?_; clear HA; rintro e W_ ⟨gs, rfl, HA, hgc, hgz, hgl⟩) | (refine in_step0 rfl (by intro c hc; cases hc) ?_; first | (((with_reducible refine gate_dst (N := 2) rfl ?_); refine aw_alloc rfl rfl al_lines HA ?_; clear HA; intro g2 W_ HA; simp only [Act.put, List.setIfInBounds_toArray, List.set_cons_succ, List.set_cons_zero]); refine reg_end ?_) | (((with_reducible refine gate_dst (N := 3) rfl ?_); refine aw_alloc rfl rfl al_int HA ?_; clear HA; intro g3 W_ HA; simp only [Act.put, List.setIfInBounds_toArray, List.set_cons_succ, List.set_cons_zero]); refine reg_end ?_) | (((with_reducible refine gate_dst (N := 4) rfl ?_); refine aw_alloc rfl rfl al_err HA ?_; clear HA; intro g4 W_ HA; simp only [Act.put, List.setIfInBounds_toArray, List.set_cons_succ, List.set_cons_zero]); refine reg_end ?_) | (((with_reducible refine gate_dst (N := 5) rfl ?_); refine aw_alloc rfl rfl al_lines HA ?_; clear HA; intro g5 W_ HA; simp only [Act.put, List.setIfInBounds_toArray, List.set_cons_succ, List.set_cons_zero]); refine reg_end ?_) | (((with_reducible refine gate_st rfl ?_); (first | refine aw_store 0 (v := .slice _ _ _) rfl rfl rfl rfl rfl HA rfl rfl rfl ?_ ?_ | refine aw_store 1 (v := .slice _ _ _) rfl rfl rfl rfl rfl HA rfl rfl rfl ?_ ?_ | refine aw_store 2 (v := .slice _ _ _) rfl rfl rfl rfl rfl HA rfl rfl rfl ?_ ?_ | refine aw_store 3 (v := .slice _ _ _) rfl rfl rfl rfl rfl HA rfl rfl rfl ?_ ?_ | refine aw_store 0 (v := .int _ _) rfl rfl rfl rfl rfl HA rfl rfl rfl ?_ ?_ | refine aw_store 1 (v := .int _ _) rfl rfl rfl rfl rfl HA rfl rfl rfl ?_ ?_ | refine aw_store 2 (v := .int _ _) rfl rfl rfl rfl rfl HA rfl rfl rfl ?_ ?_ | refine aw_store 3 (v := .int _ _) rfl rfl rfl rfl rfl HA rfl rfl rfl ?_ ?_); kernel_rfl; clear HA; intro W_ HA; dsimp only [List.set, List.take, List.cons_append, List.nil_append] at HA); refine reg_end ?_)))
    have hsz := HA.1.size
    have hwm := (World.block_lt_of_cell? _ _ hm)
    refine wpIn_rangeB rfl h1 (gf := 42) (lb := #[.pointer (some ⟨gs, 0, none⟩)]) rfl trivial (enters_of Tryd.func42 (by kernel_rfl) rfl)
      (asm_lines.stops (n - 1) (by omega) gs s hs m W_ hgl hgc hgz) hgl (Below.refl _ _) (fun _ => rfl) (rdI w g2 g3 g4 g5 gs) (rdX w g2 g3 g4) (rdI_own _ _ _ _ _ _ _ hsz) (rdX_own _ _ _ _ _ hsz) (fun pre W u h => rdI_set _ _ _ _ _ _ _ _ _ h)
      (fun pre W h => by obtain ⟨_, _, _, _, _, _, h4⟩ := h; exact (h4.below.cell hwm).trans hm)
      ⟨[], .slice none 0 0, [], fun rest => rfl, rfl, Own.nil _ _, HA⟩
      (fun x => { tmps := #[.string s, undef, .pointer (some ⟨g2, 0, none⟩), .pointer (some ⟨g3, 0, none⟩), .pointer (some ⟨g4, 0, none⟩), .pointer (some ⟨g5, 0, none⟩), .string x.1, .bool x.2, undef, undef, .string s, .int .i64 (Lib.countByte s.data.toList 10), .bool false, .string s, .func (.func 42) #[] #[.pointer (some ⟨gs, 0, none⟩)], .string x.1, .bool x.2, undef, undef, undef, undef, undef, undef, undef, undef, undef, undef, undef, undef, undef, undef, undef, undef, undef, undef], defers := [] }) ?assign ?body ?done ?stop
    case assign =>
      intro l x W K hK
      gi_wp2
      exact hK
    case body =>
      clear HA hgc hgz hgl hsz
      rintro l_ pre ⟨one, whole⟩ rest W hx ⟨acc, v, Lv, hgo, hlen, hown, HA0⟩
      have hmem : (one, whole) ∈ linesB s := by rw [hx]; simp
      have hone : one.size ≤ 1000000 := Nat.le_trans (linesN_in _ _ _ hmem) hs
      have hacc : acc.length ≤ 1000000 := by
        have e1 := linesN_len s.size s
        have e2 : (linesB s).length = (linesN s.size s).length := rfl
        rw [hx, List.length_append] at e2
        simp only [List.length_cons] at e2
        omega
      obtain ⟨A0, c0, rfl⟩ := own_slice hown
      have HC := asm_parse.calls one hone W (hG.mono HA0.below)
      have hcl : CellsL ((g5, .c 22 [.slice A0 acc.length c0]) :: (g4, .c 26 [.int .i64 0]) :: (g3, .c 3 [.int .i64 0]) :: (g2, .c 22 [.slice none 0 0]) :: Lv) := cellsL_c (cellsL_c (cellsL_c (cellsL_c hown.cellsL)))
      have HA := (HA0.left).givens
      cases hq : asmParse one with
      | none =>
        rw [hq] at HC
        gi_wp2_with (first | (refine ⟨trivial, fun h_ => (by cases h_), ?_⟩; gi_at_call 30; refine (CallsIn.inRound l_ (callsIn_wide.2 HC)).mono ?_; clear HC; rintro e W_ hp_; obtain ⟨lab, k, D, A, B, N, tgt, rfl, hb_⟩ := hp_; replace HA := HA.call hb_; clear hb_) | (refine in_step l_ rfl (by intro c hc; cases hc) ?_; first | (((with_reducible refine gate_dst (N := 8) rfl ?_); refine aw_alloc rfl rfl parse_zero HA ?_; clear HA; intro gx W_ HA; simp only [Act.put, List.setIfInBounds_toArray, List.set_cons_succ, List.set_cons_zero]); refine reg_end ?_) | (((with_reducible refine gate_dst (N := 32) rfl ?_); refine aw_newv (fun g => .slice (some ⟨g, 0, none⟩) 1 1) 36 [.string lab, .int .i64 k, .int .i64 D, .int .i64 A, .int .i64 B, .int .i64 N, .string tgt] rfl (fun W => by kernel_rfl) HA ?_; clear HA; intro gr W_ HA; simp only [Act.put, List.setIfInBounds_toArray, List.set_cons_succ, List.set_cons_zero]); refine reg_end ?_) | (((with_reducible refine gate_dst (N := 33) rfl ?_); refine aw_append 6 0 rfl Tryd.underlying22 info36 rfl (by decide : (0 : Nat) < 7) rfl hown rfl rfl HA rfl rfl rfl rfl ?_ ?_ ?_; (unfold maxLen; omega); (omega); clear HA; intro v_ W_ Lv_ hown_ HA; obtain ⟨A_, c_, rfl⟩ := own_slice hown_; dsimp only [List.set, List.take, List.cons_append, List.nil_append] at HA; simp only [Act.put, List.setIfInBounds_toArray, List.set_cons_succ, List.set_cons_zero]); refine reg_end ?_) | (((with_reducible refine gate_ld rfl ?_); (first | refine aw_loadW 0 (t := 36) rfl rfl HA rfl rfl ?_ ?_ | refine aw_loadW 1 (t := 36) rfl rfl HA rfl rfl ?_ ?_ | refine aw_load 0 rfl rfl HA rfl rfl rfl ?_ ?_ | refine aw_load 1 rfl rfl HA rfl rfl rfl ?_ ?_ | refine aw_load 2 rfl rfl HA rfl rfl rfl ?_ ?_); kernel_rfl; simp only [Act.put, List.setIfInBounds_toArray, List.set_cons_succ, List.set_cons_zero]); refine reg_end ?_) | (((with_reducible refine gate_st rfl ?_); (first | refine aw_storeW 0 (t := 36) rfl rfl rfl rfl HA rfl rfl rfl ?_ rfl ?_ | refine aw_store 0 (v := .slice _ _ _) rfl rfl rfl rfl rfl HA rfl rfl rfl ?_ ?_ | refine aw_store 1 (v := .slice _ _ _) rfl rfl rfl rfl rfl HA rfl rfl rfl ?_ ?_ | refine aw_store 2 (v := .slice _ _ _) rfl rfl rfl rfl rfl HA rfl rfl rfl ?_ ?_ | refine aw_store 3 (v := .slice _ _ _) rfl rfl rfl rfl rfl HA rfl rfl rfl ?_ ?_ | refine aw_store 0 (v := .int _ _) rfl rfl rfl rfl rfl HA rfl rfl rfl ?_ ?_ | refine aw_store 1 (v := .int _ _) rfl rfl rfl rfl rfl HA rfl rfl rfl ?_ ?_ | refine aw_store 2 (v := .int _ _) rfl rfl rfl rfl rfl HA rfl rfl rfl ?_ ?_ | refine aw_store 3 (v := .int _ _) rfl rfl rfl rfl rfl HA rfl rfl rfl ?_ ?_); kernel_rfl; clear HA; intro W_ HA; dsimp only [List.set, List.take, List.cons_append, List.nil_append] at HA); refine reg_end ?_)))
        have c5 := HA.cell (i := 1) (j := 0) rfl rfl
        have f2 := HA.cell (i := 4) (j := 0) rfl rfl
        have f3 := HA.cell (i := 3) (j := 0) rfl rfl
        have f4 := HA.cell (i := 2) (j := 0) rfl rfl
        have z2 := HA.free (i := 4) (j := 0) rfl
        have z3 := HA.free (i := 3) (j := 0) rfl
        have z4 := HA.free (i := 2) (j := 0) rfl
        refine wpIn_region_any (by kernel_rfl) ?_
        change wpAnyIn _ _ _ _ _ _ 5 (Array.replicate 5 false) _ (World.drew _)
        replace HA := HA.drew
        generalize World.drew W_ = W2_ at HA ⊢
        refine any_step l_ (i := 0) (is := [2]) (by kernel_rfl) ?_
        intro j_ hj_
        rcases List.mem_cons.1 hj_ with rfl | hj_
        · refine op_in l_ rfl rfl (by intro c hc; cases hc) ?_
          refine aw_load 1 rfl rfl HA rfl rfl rfl ?_ ?_
          kernel_rfl
          simp only [Act.put, List.setIfInBounds_toArray, List.set_cons_succ, List.set_cons_zero]
          refine reg_end ?_
          refine any_step l_ (i := 1) (is := [2]) (by kernel_rfl) ?_
          intro j_ hj_
          rcases List.mem_cons.1 hj_ with rfl | hj_
          · refine op_in l_ rfl rfl (by intro c hc; cases hc) ?_
            refine in_pure (.int .i64 acc.length) rfl (fun W => by kernel_rfl) ?_
            simp only [Act.put, List.setIfInBounds_toArray, List.set_cons_succ, List.set_cons_zero]
            refine reg_end ?_
            refine any_step l_ (i := 2) (is := []) (by kernel_rfl) ?_
            intro j_ hj_
            obtain rfl := List.mem_singleton.1 hj_
            refine op_in l_ rfl rfl (by intro c hc; cases hc) ?_
            refine aw_store 4 (v := .slice _ _ _) rfl rfl rfl rfl rfl HA rfl rfl rfl ?_ ?_
            kernel_rfl
            clear HA
            intro W_ HA
            dsimp only [List.set, List.take, List.cons_append, List.nil_append] at HA
            refine reg_end ?_
            refine any_step l_ (i := 3) (is := []) (by kernel_rfl) ?_
            intro j_ hj_
            obtain rfl := List.mem_singleton.1 hj_
            refine op_in l_ rfl rfl (by intro c hc; cases hc) ?_
            refine aw_store 3 (v := .int _ _) rfl rfl rfl rfl rfl HA rfl rfl rfl ?_ ?_
            kernel_rfl
            clear HA
            intro W_ HA
            dsimp only [List.set, List.take, List.cons_append, List.nil_append] at HA
            refine reg_end ?_
            refine any_step l_ (i := 4) (is := []) (by kernel_rfl) ?_
            intro j_ hj_
            obtain rfl := List.mem_singleton.1 hj_
            refine op_in l_ rfl rfl (by intro c hc; cases hc) ?_
            refine aw_store 2 (v := .int _ _) rfl rfl rfl rfl rfl HA rfl rfl rfl ?_ ?_
            kernel_rfl
            clear HA
            intro W_ HA
            dsimp only [List.set, List.take, List.cons_append, List.nil_append] at HA
            refine reg_end ?_
            refine any_end l_ (by kernel_rfl) ?_
            gi_wp2
            refine ⟨HA.1.keepsOthers HA0.left hcl, (acc.length : Int), ?_, (HA0.frame HA).sub (.cons _ (.cons _ (.cons_cons _ (.cons_cons _ (.cons_cons _ (List.nil_sublist _))))))⟩
            intro rest_
            rw [List.append_assoc, hgo]
            simp only [List.cons_append, List.nil_append, readGo, hq]
          · obtain rfl := List.mem_singleton.1 hj_
            refine op_in l_ rfl rfl (by intro c hc; cases hc) ?_
            refine aw_store 4 (v := .slice _ _ _) rfl rfl rfl rfl rfl HA rfl rfl rfl ?_ ?_
            kernel_rfl
            clear HA
            intro W_ HA
            dsimp only [List.set, List.take, List.cons_append, List.nil_append] at HA
            refine reg_end ?_
            refine any_step l_ (i := 1) (is := []) (by kernel_rfl) ?_
            intro j_ hj_
            obtain rfl := List.mem_singleton.1 hj_
            refine op_in l_ rfl rfl (by intro c hc; cases hc) ?_
            refine in_pure (.int .i64 acc.length) rfl (fun W => by kernel_rfl) ?_
            simp only [Act.put, List.setIfInBounds_toArray, List.set_cons_succ, List.set_cons_zero]
            refine reg_end ?_
            refine any_step l_ (i := 3) (is := []) (by kernel_rfl) ?_
            intro j_ hj_
            obtain rfl := List.mem_singleton.1 hj_
            refine op_in l_ rfl rfl (by intro c hc; cases hc) ?_
            refine aw_store 3 (v := .int _ _) rfl rfl rfl rfl rfl HA rfl rfl rfl ?_ ?_
            kernel_rfl
            clear HA
            intro W_ HA
            dsimp only [List.set, List.take, List.cons_append, List.nil_append] at HA
            refine reg_end ?_
            refine any_step l_ (i := 4) (is := []) (by kernel_rfl) ?_
            intro j_ hj_
            obtain rfl := List.mem_singleton.1 hj_
            refine op_in l_ rfl rfl (by intro c hc; cases hc) ?_
            refine aw_store 2 (v := .int _ _) rfl rfl rfl rfl rfl HA rfl rfl rfl ?_ ?_
            kernel_rfl
            clear HA
            intro W_ HA
            dsimp only [List.set, List.take, List.cons_append, List.nil_append] at HA
            refine reg_end ?_
            refine any_end l_ (by kernel_rfl) ?_
            gi_wp2
            refine ⟨HA.1.keepsOthers HA0.left hcl, (acc.length : Int), ?_, (HA0.frame HA).sub (.cons _ (.cons _ (.cons_cons _ (.cons_cons _ (.cons_cons _ (List.nil_sublist _))))))⟩
            intro rest_
            rw [List.append_assoc, hgo]
            simp only [List.cons_append, List.nil_append, readGo, hq]
        · obtain rfl := List.mem_singleton.1 hj_
          refine op_in l_ rfl rfl (by intro c hc; cases hc) ?_
          refine aw_store 4 (v := .slice _ _ _) rfl rfl rfl rfl rfl HA rfl rfl rfl ?_ ?_
          kernel_rfl
          clear HA
          intro W_ HA
          dsimp only [List.set, List.take, List.cons_append, List.nil_append] at HA
          refine reg_end ?_
          refine any_step l_ (i := 0) (is := []) (by kernel_rfl) ?_
          intro j_ hj_
          obtain rfl := List.mem_singleton.1 hj_
          refine op_in l_ rfl rfl (by intro c hc; cases hc) ?_
          refine aw_load 1 rfl rfl HA rfl rfl rfl ?_ ?_
          kernel_rfl
          simp only [Act.put, List.setIfInBounds_toArray, List.set_cons_succ, List.set_cons_zero]
          refine reg_end ?_
          refine any_step l_ (i := 1) (is := []) (by kernel_rfl) ?_
          intro j_ hj_
          obtain rfl := List.mem_singleton.1 hj_
          refine op_in l_ rfl rfl (by intro c hc; cases hc) ?_
          refine in_pure (.int .i64 acc.length) rfl (fun W => by kernel_rfl) ?_
          simp only [Act.put, List.setIfInBounds_toArray, List.set_cons_succ, List.set_cons_zero]
          refine reg_end ?_
          refine any_step l_ (i := 3) (is := []) (by kernel_rfl) ?_
          intro j_ hj_
          obtain rfl := List.mem_singleton.1 hj_
          refine op_in l_ rfl rfl (by intro c hc; cases hc) ?_
          refine aw_store 3 (v := .int _ _) rfl rfl rfl rfl rfl HA rfl rfl rfl ?_ ?_
          kernel_rfl
          clear HA
          intro W_ HA
          dsimp only [List.set, List.take, List.cons_append, List.nil_append] at HA
          refine reg_end ?_
          refine any_step l_ (i := 4) (is := []) (by kernel_rfl) ?_
          intro j_ hj_
          obtain rfl := List.mem_singleton.1 hj_
          refine op_in l_ rfl rfl (by intro c hc; cases hc) ?_
          refine aw_store 2 (v := .int _ _) rfl rfl rfl rfl rfl HA rfl rfl rfl ?_ ?_
          kernel_rfl
          clear HA
          intro W_ HA
          dsimp only [List.set, List.take, List.cons_append, List.nil_append] at HA
          refine reg_end ?_
          refine any_end l_ (by kernel_rfl) ?_
          gi_wp2
          refine ⟨HA.1.keepsOthers HA0.left hcl, (acc.length : Int), ?_, (HA0.frame HA).sub (.cons _ (.cons _ (.cons_cons _ (.cons_cons _ (.cons_cons _ (List.nil_sublist _))))))⟩
          intro rest_
          rw [List.append_assoc, hgo]
          simp only [List.cons_append, List.nil_append, readGo, hq]
      | some q =>
        obtain ⟨lab, ⟨k, D, A, B, N⟩, tgt⟩ := q
        rw [hq] at HC
        cases whole with
        | false =>
          gi_wp2_with (first | (refine ⟨trivial, fun h_ => (by cases h_), ?_⟩; gi_at_call 30; refine (CallsIn.inRound l_ (callsIn_wide.2 HC)).mono ?_; clear HC; rintro e W_ hp_; obtain ⟨rfl, hb_⟩ := hp_; replace HA := HA.call hb_; clear hb_) | (refine in_step l_ rfl (by intro c hc; cases hc) ?_; first | (((with_reducible refine gate_dst (N := 8) rfl ?_); refine aw_alloc rfl rfl parse_zero HA ?_; clear HA; intro gx W_ HA; simp only [Act.put, List.setIfInBounds_toArray, List.set_cons_succ, List.set_cons_zero]); refine reg_end ?_) | (((with_reducible refine gate_dst (N := 32) rfl ?_); refine aw_newv (fun g => .slice (some ⟨g, 0, none⟩) 1 1) 36 [.string lab, .int .i64 k, .int .i64 D, .int .i64 A, .int .i64 B, .int .i64 N, .string tgt] rfl (fun W => by kernel_rfl) HA ?_; clear HA; intro gr W_ HA; simp only [Act.put, List.setIfInBounds_toArray, List.set_cons_succ, List.set_cons_zero]); refine reg_end ?_) | (((with_reducible refine gate_dst (N := 33) rfl ?_); refine aw_append 6 0 rfl Tryd.underlying22 info36 rfl (by decide : (0 : Nat) < 7) rfl hown rfl rfl HA rfl rfl rfl rfl ?_ ?_ ?_; (unfold maxLen; omega); (omega); clear HA; intro v_ W_ Lv_ hown_ HA; obtain ⟨A_, c_, rfl⟩ := own_slice hown_; dsimp only [List.set, List.take, List.cons_append, List.nil_append] at HA; simp only [Act.put, List.setIfInBounds_toArray, List.set_cons_succ, List.set_cons_zero]); refine reg_end ?_) | (((with_reducible refine gate_ld rfl ?_); (first | refine aw_loadW 0 (t := 36) rfl rfl HA rfl rfl ?_ ?_ | refine aw_loadW 1 (t := 36) rfl rfl HA rfl rfl ?_ ?_ | refine aw_load 0 rfl rfl HA rfl rfl rfl ?_ ?_ | refine aw_load 1 rfl rfl HA rfl rfl rfl ?_ ?_ | refine aw_load 2 rfl rfl HA rfl rfl rfl ?_ ?_); kernel_rfl; simp only [Act.put, List.setIfInBounds_toArray, List.set_cons_succ, List.set_cons_zero]); refine reg_end ?_) | (((with_reducible refine gate_st rfl ?_); (first | refine aw_storeW 0 (t := 36) rfl rfl rfl rfl HA rfl rfl rfl ?_ rfl ?_ | refine aw_store 0 (v := .slice _ _ _) rfl rfl rfl rfl rfl HA rfl rfl rfl ?_ ?_ | refine aw_store 1 (v := .slice _ _ _) rfl rfl rfl rfl rfl HA rfl rfl rfl ?_ ?_ | refine aw_store 2 (v := .slice _ _ _) rfl rfl rfl rfl rfl HA rfl rfl rfl ?_ ?_ | refine aw_store 3 (v := .slice _ _ _) rfl rfl rfl rfl rfl HA rfl rfl rfl ?_ ?_ | refine aw_store 0 (v := .int _ _) rfl rfl rfl rfl rfl HA rfl rfl rfl ?_ ?_ | refine aw_store 1 (v := .int _ _) rfl rfl rfl rfl rfl HA rfl rfl rfl ?_ ?_ | refine aw_store 2 (v := .int _ _) rfl rfl rfl rfl rfl HA rfl rfl rfl ?_ ?_ | refine aw_store 3 (v := .int _ _) rfl rfl rfl rfl rfl HA rfl rfl rfl ?_ ?_); kernel_rfl; clear HA; intro W_ HA; dsimp only [List.set, List.take, List.cons_append, List.nil_append] at HA); refine reg_end ?_)))
          have c5 := HA.cell (i := 1) (j := 0) rfl rfl
          have f2 := HA.cell (i := 4) (j := 0) rfl rfl
          have f3 := HA.cell (i := 3) (j := 0) rfl rfl
          have f4 := HA.cell (i := 2) (j := 0) rfl rfl
          have z2 := HA.free (i := 4) (j := 0) rfl
          have z3 := HA.free (i := 3) (j := 0) rfl
          have z4 := HA.free (i := 2) (j := 0) rfl
          refine wpIn_region_any (by kernel_rfl) ?_
          change wpAnyIn _ _ _ _ _ _ 5 (Array.replicate 5 false) _ (World.drew _)
          replace HA := HA.drew
          generalize World.drew W_ = W2_ at HA ⊢
          refine any_step l_ (i := 0) (is := [2]) (by kernel_rfl) ?_
          intro j_ hj_
          rcases List.mem_cons.1 hj_ with rfl | hj_
          · refine op_in l_ rfl rfl (by intro c hc; cases hc) ?_
            refine aw_load 1 rfl rfl HA rfl rfl rfl ?_ ?_
            kernel_rfl
            simp only [Act.put, List.setIfInBounds_toArray, List.set_cons_succ, List.set_cons_zero]
            refine reg_end ?_
            refine any_step l_ (i := 1) (is := [2]) (by kernel_rfl) ?_
            intro j_ hj_
            rcases List.mem_cons.1 hj_ with rfl | hj_
            · refine op_in l_ rfl rfl (by intro c hc; cases hc) ?_
              refine in_pure (.int .i64 acc.length) rfl (fun W => by kernel_rfl) ?_
              simp only [Act.put, List.setIfInBounds_toArray, List.set_cons_succ, List.set_cons_zero]
              refine reg_end ?_
              refine any_step l_ (i := 2) (is := []) (by kernel_rfl) ?_
              intro j_ hj_
              obtain rfl := List.mem_singleton.1 hj_
              refine op_in l_ rfl rfl (by intro c hc; cases hc) ?_
              refine aw_store 4 (v := .slice _ _ _) rfl rfl rfl rfl rfl HA rfl rfl rfl ?_ ?_
              kernel_rfl
              clear HA
              intro W_ HA
              dsimp only [List.set, List.take, List.cons_append, List.nil_append] at HA
              refine reg_end ?_
              refine any_step l_ (i := 3) (is := []) (by kernel_rfl) ?_
              intro j_ hj_
              obtain rfl := List.mem_singleton.1 hj_
              refine op_in l_ rfl rfl (by intro c hc; cases hc) ?_
              refine aw_store 3 (v := .int _ _) rfl rfl rfl rfl rfl HA rfl rfl rfl ?_ ?_
              kernel_rfl
              clear HA
              intro W_ HA
              dsimp only [List.set, List.take, List.cons_append, List.nil_append] at HA
              refine reg_end ?_
              refine any_step l_ (i := 4) (is := []) (by kernel_rfl) ?_
              intro j_ hj_
              obtain rfl := List.mem_singleton.1 hj_
              refine op_in l_ rfl rfl (by intro c hc; cases hc) ?_
              refine aw_store 2 (v := .int _ _) rfl rfl rfl rfl rfl HA rfl rfl rfl ?_ ?_
              kernel_rfl
              clear HA
              intro W_ HA
              dsimp only [List.set, List.take, List.cons_append, List.nil_append] at HA
              refine reg_end ?_
              refine any_end l_ (by kernel_rfl) ?_
              gi_wp2
              refine ⟨HA.1.keepsOthers HA0.left hcl, (acc.length : Int), ?_, (HA0.frame HA).sub (.cons _ (.cons _ (.cons_cons _ (.cons_cons _ (.cons_cons _ (List.nil_sublist _))))))⟩
              intro rest_
              rw [List.append_assoc, hgo]
              simp only [List.cons_append, List.nil_append, readGo, hq]
            · obtain rfl := List.mem_singleton.1 hj_
              refine op_in l_ rfl rfl (by intro c hc; cases hc) ?_
              refine aw_store 4 (v := .slice _ _ _) rfl rfl rfl rfl rfl HA rfl rfl rfl ?_ ?_
              kernel_rfl
              clear HA
              intro W_ HA
              dsimp only [List.set, List.take, List.cons_append, List.nil_append] at HA
              refine reg_end ?_
              refine any_step l_ (i := 1) (is := []) (by kernel_rfl) ?_
              intro j_ hj_
              obtain rfl := List.mem_singleton.1 hj_
              refine op_in l_ rfl rfl (by intro c hc; cases hc) ?_
              refine in_pure (.int .i64 acc.length) rfl (fun W => by kernel_rfl) ?_
              simp only [Act.put, List.setIfInBounds_toArray, List.set_cons_succ, List.set_cons_zero]
              refine reg_end ?_
              refine any_step l_ (i := 3) (is := []) (by kernel_rfl) ?_
              intro j_ hj_
              obtain rfl := List.mem_singleton.1 hj_
              refine op_in l_ rfl rfl (by intro c hc; cases hc) ?_
              refine aw_store 3 (v := .int _ _) rfl rfl rfl rfl rfl HA rfl rfl rfl ?_ ?_
              kernel_rfl
              clear HA
              intro W_ HA
              dsimp only [List.set, List.take, List.cons_append, List.nil_append] at HA
              refine reg_end ?_
              refine any_step l_ (i := 4) (is := []) (by kernel_rfl) ?_
              intro j_ hj_
              obtain rfl := List.mem_singleton.1 hj_
              refine op_in l_ rfl rfl (by intro c hc; cases hc) ?_
              refine aw_store 2 (v := .int _ _) rfl rfl rfl rfl rfl HA rfl rfl rfl ?_ ?_
              kernel_rfl
              clear HA
              intro W_ HA
              dsimp only [List.set, List.take, List.cons_append, List.nil_append] at HA
              refine reg_end ?_
              refine any_end l_ (by kernel_rfl) ?_
              gi_wp2
              refine ⟨HA.1.keepsOthers HA0.left hcl, (acc.length : Int), ?_, (HA0.frame HA).sub (.cons _ (.cons _ (.cons_cons _ (.cons_cons _ (.cons_cons _ (List.nil_sublist _))))))⟩
              intro rest_
              rw [List.append_assoc, hgo]
              simp only [List.cons_append, List.nil_append, readGo, hq]
          · obtain rfl := List.mem_singleton.1 hj_
            refine op_in l_ rfl rfl (by intro c hc; cases hc) ?_
            refine aw_store 4 (v := .slice _ _ _) rfl rfl rfl rfl rfl HA rfl rfl rfl ?_ ?_
            kernel_rfl
            clear HA
            intro W_ HA
            dsimp only [List.set, List.take, List.cons_append, List.nil_append] at HA
            refine reg_end ?_
            refine any_step l_ (i := 0) (is := []) (by kernel_rfl) ?_
            intro j_ hj_
            obtain rfl := List.mem_singleton.1 hj_
            refine op_in l_ rfl rfl (by intro c hc; cases hc) ?_
            refine aw_load 1 rfl rfl HA rfl rfl rfl ?_ ?_
            kernel_rfl
            simp only [Act.put, List.setIfInBounds_toArray, List.set_cons_succ, List.set_cons_zero]
            refine reg_end ?_
            refine any_step l_ (i := 1) (is := []) (by kernel_rfl) ?_
            intro j_ hj_
            obtain rfl := List.mem_singleton.1 hj_
            refine op_in l_ rfl rfl (by intro c hc; cases hc) ?_
            refine in_pure (.int .i64 acc.length) rfl (fun W => by kernel_rfl) ?_
            simp only [Act.put, List.setIfInBounds_toArray, List.set_cons_succ, List.set_cons_zero]
            refine reg_end ?_
            refine any_step l_ (i := 3) (is := []) (by kernel_rfl) ?_
            intro j_ hj_
            obtain rfl := List.mem_singleton.1 hj_
            refine op_in l_ rfl rfl (by intro c hc; cases hc) ?_
            refine aw_store 3 (v := .int _ _) rfl rfl rfl rfl rfl HA rfl rfl rfl ?_ ?_
            kernel_rfl
            clear HA
            intro W_ HA
            dsimp only [List.set, List.take, List.cons_append, List.nil_append] at HA
            refine reg_end ?_
            refine any_step l_ (i := 4) (is := []) (by kernel_rfl) ?_
            intro j_ hj_
            obtain rfl := List.mem_singleton.1 hj_
            refine op_in l_ rfl rfl (by intro c hc; cases hc) ?_
            refine aw_store 2 (v := .int _ _) rfl rfl rfl rfl rfl HA rfl rfl rfl ?_ ?_
            kernel_rfl
            clear HA
            intro W_ HA
            dsimp only [List.set, List.take, List.cons_append, List.nil_append] at HA
            refine reg_end ?_
            refine any_end l_ (by kernel_rfl) ?_
            gi_wp2
            refine ⟨HA.1.keepsOthers HA0.left hcl, (acc.length : Int), ?_, (HA0.frame HA).sub (.cons _ (.cons _ (.cons_cons _ (.cons_cons _ (.cons_cons _ (List.nil_sublist _))))))⟩
            intro rest_
            rw [List.append_assoc, hgo]
            simp only [List.cons_append, List.nil_append, readGo, hq]
        | true =>
          gi_wp2_with (first | (refine ⟨trivial, fun h_ => (by cases h_), ?_⟩; gi_at_call 30; refine (CallsIn.inRound l_ (callsIn_wide.2 HC)).mono ?_; clear HC; rintro e W_ hp_; obtain ⟨rfl, hb_⟩ := hp_; replace HA := HA.call hb_; clear hb_) | (refine in_step l_ rfl (by intro c hc; cases hc) ?_; first | (((with_reducible refine gate_dst (N := 8) rfl ?_); refine aw_alloc rfl rfl parse_zero HA ?_; clear HA; intro gx W_ HA; simp only [Act.put, List.setIfInBounds_toArray, List.set_cons_succ, List.set_cons_zero]); refine reg_end ?_) | (((with_reducible refine gate_dst (N := 32) rfl ?_); refine aw_newv (fun g => .slice (some ⟨g, 0, none⟩) 1 1) 36 [.string lab, .int .i64 k, .int .i64 D, .int .i64 A, .int .i64 B, .int .i64 N, .string tgt] rfl (fun W => by kernel_rfl) HA ?_; clear HA; intro gr W_ HA; simp only [Act.put, List.setIfInBounds_toArray, List.set_cons_succ, List.set_cons_zero]); refine reg_end ?_) | (((with_reducible refine gate_dst (N := 33) rfl ?_); refine aw_append 6 0 rfl Tryd.underlying22 info36 rfl (by decide : (0 : Nat) < 7) rfl hown rfl rfl HA rfl rfl rfl rfl ?_ ?_ ?_; (unfold maxLen; omega); (omega); clear HA; intro v_ W_ Lv_ hown_ HA; obtain ⟨A_, c_, rfl⟩ := own_slice hown_; dsimp only [List.set, List.take, List.cons_append, List.nil_append] at HA; simp only [Act.put, List.setIfInBounds_toArray, List.set_cons_succ, List.set_cons_zero]); refine reg_end ?_) | (((with_reducible refine gate_ld rfl ?_); (first | refine aw_loadW 0 (t := 36) rfl rfl HA rfl rfl ?_ ?_ | refine aw_loadW 1 (t := 36) rfl rfl HA rfl rfl ?_ ?_ | refine aw_load 0 rfl rfl HA rfl rfl rfl ?_ ?_ | refine aw_load 1 rfl rfl HA rfl rfl rfl ?_ ?_ | refine aw_load 2 rfl rfl HA rfl rfl rfl ?_ ?_); kernel_rfl; simp only [Act.put, List.setIfInBounds_toArray, List.set_cons_succ, List.set_cons_zero]); refine reg_end ?_) | (((with_reducible refine gate_st rfl ?_); (first | refine aw_storeW 0 (t := 36) rfl rfl rfl rfl HA rfl rfl rfl ?_ rfl ?_ | refine aw_store 0 (v := .slice _ _ _) rfl rfl rfl rfl rfl HA rfl rfl rfl ?_ ?_ | refine aw_store 1 (v := .slice _ _ _) rfl rfl rfl rfl rfl HA rfl rfl rfl ?_ ?_ | refine aw_store 2 (v := .slice _ _ _) rfl rfl rfl rfl rfl HA rfl rfl rfl ?_ ?_ | refine aw_store 3 (v := .slice _ _ _) rfl rfl rfl rfl rfl HA rfl rfl rfl ?_ ?_ | refine aw_store 0 (v := .int _ _) rfl rfl rfl rfl rfl HA rfl rfl rfl ?_ ?_ | refine aw_store 1 (v := .int _ _) rfl rfl rfl rfl rfl HA rfl rfl rfl ?_ ?_ | refine aw_store 2 (v := .int _ _) rfl rfl rfl rfl rfl HA rfl rfl rfl ?_ ?_ | refine aw_store 3 (v := .int _ _) rfl rfl rfl rfl rfl HA rfl rfl rfl ?_ ?_); kernel_rfl; clear HA; intro W_ HA; dsimp only [List.set, List.take, List.cons_append, List.nil_append] at HA); refine reg_end ?_)))
          have hb_ : W_.heap[gs]? = W.heap[gs]? := by
            obtain ⟨⟨o_, ho_, _⟩, _⟩ := HA0.getL (g := gs) (b := Blk.one 9) (by simp)
            exact HA.1.block gs (blk_lt ho_) (HA0.inL_other (gs, Blk.one 9) (by simp))
          refine ⟨HA.1.keepsOthers HA0.left hcl, ⟨World.cell?_of_block hb_, World.frozen?_of_block hb_⟩, acc ++ [⟨lab, ⟨k, D, A, B, N⟩, tgt⟩], _, Lv_, ?_, by simp [hlen], ?_, HA0.frame (HA.sub (.cons _ (.cons _ (List.Sublist.refl _))))⟩
          · intro rest_
            rw [List.append_assoc, hgo]
            simp only [List.cons_append, List.nil_append, readGo, hq]
          · have e1_ : (acc ++ [(⟨lab, ⟨k, D, A, B, N⟩, tgt⟩ : S36)]).length = acc.length + 1 := by simp
            have e2_ : (acc ++ [(⟨lab, ⟨k, D, A, B, N⟩, tgt⟩ : S36)]).flatMap lnCells = acc.flatMap lnCells ++ lnCells ⟨lab, ⟨k, D, A, B, N⟩, tgt⟩ := by simp
            rw [e1_, e2_]
            exact hown_
    case done =>
      clear HA hgc hgz hgl
      rintro D W hD ⟨acc, v, Lv, hgo, hlen, hown, HA0⟩ hK
      have he := hgo []
      rw [List.append_nil, h] at he
      have he2 : readGo acc [] = (acc, 0, 0) := by cases acc <;> rfl
      rw [he2] at he
      simp only [Prod.mk.injEq] at he
      obtain ⟨rfl, rfl, rfl⟩ := he
      clear h hgo he2
      obtain ⟨A_, c_, rfl⟩ := own_slice hown
      have hcl : CellsL ((g5, .c 22 [.slice A_ r1.length c_]) :: (g4, .c 26 [.int .i64 0]) :: (g3, .c 3 [.int .i64 0]) :: (g2, .c 22 [.slice none 0 0]) :: Lv) := cellsL_c (cellsL_c (cellsL_c (cellsL_c hown.cellsL)))
      have HA := (HA0.left).givens
      gi_wp2_with (refine in_step0 rfl (by intro c hc; cases hc) ?_; first | (((with_reducible refine gate_ld rfl ?_); (refine aw_load 0 rfl rfl HA rfl rfl rfl ?_ ?_); kernel_rfl; simp only [Act.put, List.setIfInBounds_toArray, List.set_cons_succ, List.set_cons_zero]); refine reg_end ?_) | (((with_reducible refine gate_st rfl ?_); (first | refine aw_store 0 (v := .slice _ _ _) rfl rfl rfl rfl rfl HA rfl rfl rfl ?_ ?_ | refine aw_store 1 (v := .slice _ _ _) rfl rfl rfl rfl rfl HA rfl rfl rfl ?_ ?_ | refine aw_store 2 (v := .slice _ _ _) rfl rfl rfl rfl rfl HA rfl rfl rfl ?_ ?_ | refine aw_store 3 (v := .slice _ _ _) rfl rfl rfl rfl rfl HA rfl rfl rfl ?_ ?_ | refine aw_store 0 (v := .int _ _) rfl rfl rfl rfl rfl HA rfl rfl rfl ?_ ?_ | refine aw_store 1 (v := .int _ _) rfl rfl rfl rfl rfl HA rfl rfl rfl ?_ ?_ | refine aw_store 2 (v := .int _ _) rfl rfl rfl rfl rfl HA rfl rfl rfl ?_ ?_ | refine aw_store 3 (v := .int _ _) rfl rfl rfl rfl rfl HA rfl rfl rfl ?_ ?_); kernel_rfl; clear HA; intro W_ HA; dsimp only [List.set, List.take, List.cons_append, List.nil_append] at HA); refine reg_end ?_))
      have hK2 := (HA.1.keepsOthers HA0.left hcl).same D _ hK rfl
      refine ⟨by simp, .inl ⟨_, _, rfl, run_takeDeferred hK2, ?_⟩⟩
      have HB := (HA0.frame HA).grown (cellsL_app (cellsL_c (cellsL_c (cellsL_c (cellsL_c hown.cellsL)))) cellsL_one) (grownBy_putObj' W_ D (.deferred none)) (fun r e => by cases e; exact ⟨hD, _, hK2, rfl⟩) hsz
      have k2 := HB.cell (i := 3) (j := 0) rfl rfl
      have k3 := HB.cell (i := 2) (j := 0) rfl rfl
      have k4 := HB.cell (i := 1) (j := 0) rfl rfl
      refine ⟨.tuple #[.slice A_ r1.length c_, .int .i64 0, .int .i64 0], ?_, _, rfl, Own.kdLines hown HB (fun x hx => by simp [hx]), HB.below⟩
      simp [results, Tryd.f18, go_sem, k2, k3, k4]
    case stop =>
      clear HA hgc hgz hgl
      rintro D pre W hD ⟨rest, hrest⟩ ⟨k, hgo, HA⟩ hK
      have he := hgo rest
      rw [hrest, h] at he
      simp only [Prod.mk.injEq] at he
      obtain ⟨rfl, rfl, rfl⟩ := he
      clear h hgo
      gi_wp2
      refine ⟨by simp, .inl ⟨_, _, rfl, run_takeDeferred hK, ?_⟩⟩
      have HB := HA.grown (cellsL_c (cellsL_c (cellsL_c cellsL_nil))) (grownBy_putObj' W D (.deferred none)) (fun r e => by cases e; exact ⟨hD, _, hK, rfl⟩) hsz
      have k2 := HB.cell (i := 2) (j := 0) rfl rfl
      have k3 := HB.cell (i := 1) (j := 0) rfl rfl
      have k4 := HB.cell (i := 0) (j := 0) rfl rfl
      refine ⟨.tuple #[.slice none 0 0, .int .i64 r2, .int .i64 3], ?_, _, rfl, Own.kdLines (l := []) (Own.nil _ _) HB (by simp), HB.below⟩
      simp [results, Tryd.f18, go_sem, k2, k3, k4]
theorem asm_Read.calls (a0 : ByteArray) (r1 : List S36) (r2 : Int) (r3 : Int) (w : World) (hG : Laid w) (h : asm_Read.f a0 = some (r1, r2, r3)) :
    Calls Tryd.prog 18 #[.string a0] w fun e w' => ∃ v0_ : Value, e = .returned (.tuple #[v0_, .int .i64 r2, .int .i64 r3]) ∧ Kd.R k36 36 w' w.heap.size (fun _ => True) v0_ r1 ∧ Below w.heap.size w w' := by
  unfold asm_Read.f at h
  by_cases hz : a0.size ≤ 1000000
  · rw [if_pos hz] at h
    exact (callsIn_wide (n := 3)).1 (asm_Read.in_ 3 (Nat.le_refl _) a0 hz r1 r2 r3 (Option.some.inj h) w hG)
  · rw [if_neg hz] at h; cases h
end Go.Proofs.YtlhkojnocconfaaDoor.Q
