/- Words for a walk by hand: maps of whole numbers that the call has made, each told by a function. -/
import Derived.Test.YtaddjeegplfjiaaQx0
import Derived.Test.YtaddjeegplfjiaaAw
--@needs XAw
import Derived.Maps.OwnSet
import Derived.Carry
namespace Go.Proofs.Ytaddjeegplfjiaa.Q
open Go.RowKit Go.Proofs.YtaddjeegplfjiaaW.PrintWords Go.Proofs.YtaddjeegplfjiaaW.PrintLast Go.Proofs.YtaddjeegplfjiaaW.PrintMore
attribute [local go_sem] max2_int min2_int max_two min_two max_three min_three max_four min_four   -- for this text's walks alone
set_option linter.unusedVariables false
set_option linter.unusedSimpArgs false

open Go.Maps
/-- a map with keys of type K and elements of type E (of kind q), of n entries, that gives f -/
def MapO (P : Program) (K E : TypeId) (q : IntKind) (n : Nat) (f : Lit → Option Int) (o : Obj) : Prop :=
  ∃ (w : World) (b : Nat) (D : DataW Unit), w.heap[b]? = some o ∧ w.ownsMap P K (plainElem P E) b n D ∧ Maps.size D = n ∧
    ∀ kl, WideAt.IsKeyLit kl → Maps.has D kl = (f kl).isSome ∧ D.atKey kl (.lit (.int q 0)) = .lit (.int q ((f kl).getD 0))
abbrev Blk.m (P : Program) (K E : TypeId) (q : IntKind) (n : Nat) (f : Lit → Option Int) : Blk := .p (MapO P K E q n f)
section
variable {P : Program} {S : Nat → Prop} {w W : World} {L : List (Nat × Blk)} {K E : TypeId} {q : IntKind} {n g i : Nat} {f : Lit → Option Int}
theorem Aw.owns (h : Aw S w W L) (hi : L[i]? = some (g, Blk.m P K E q n f)) : ∃ D : DataW Unit, W.ownsMap P K (plainElem P E) g n D ∧ Maps.size D = n ∧
    ∀ kl, WideAt.IsKeyLit kl → Maps.has D kl = (f kl).isSome ∧ D.atKey kl (.lit (.int q 0)) = .lit (.int q ((f kl).getD 0)) := by
  obtain ⟨o, h1, w0, b, D, h2, ⟨es, ck, h3, h4⟩, hs, hk⟩ := h.atp hi
  rw [h2] at h3
  obtain rfl := Option.some.inj h3
  exact ⟨D, ⟨es, ck, h1, h4⟩, hs, hk⟩
theorem MapO.made (P : Program) (K E : TypeId) (q : IntKind) : MapO P K E q 0 (fun _ => none) (.map #[] 0) :=
  ⟨World.alloc default (.map #[] 0), _, _, heap_alloc_new _ _, World.ownsMap_made _ _ _ _, rfl, fun _ _ => ⟨rfl, rfl⟩⟩
theorem MapO.of_owns {W : World} {o : Obj} {m : Nat} {D : DataW Unit} (hg : W.heap[g]? = some o) (h : W.ownsMap P K (plainElem P E) g m D) (hk : ∀ kl, WideAt.IsKeyLit kl → Maps.has D kl = (f kl).isSome ∧ D.atKey kl (.lit (.int q 0)) = .lit (.int q ((f kl).getD 0))) :
    MapO P K E q (Maps.size D) f o := by
  obtain ⟨es, ck, h1, F, h3, rfl⟩ := h
  refine ⟨W, g, _, hg, ⟨es, ck, h1, F, ?_, rfl⟩, rfl, hk⟩
  show es.size ≤ ((es.toList.map (Go.WideElems.rg P K (plainElem P E))).foldr DataW.insert []).length
  rw [length_sorted]; simp
open Classical in
noncomputable def putf (f : Lit → Option Int) (kl : Lit) (v : Int) : Lit → Option Int := fun k => if k = kl then some v else f k
variable {ops : Array Oper} {rest : List Oper} {o : Oper} {a : Act} {Q : Exit → Act → World → Prop}
theorem aw_makemap (K E : TypeId) (q : IntKind) {t : TypeId} (ho : o.op = .makeMap t none) (hw : Region.wanted o (yielded ops a.tmps) = true) (HA : Aw S w W L)
    (h : ∀ g W', Aw S w W' ((g, Blk.m P K E q 0 (fun _ => none)) :: L) → wpList P ops Q rest (a.put o.dst (.map (some g))) W') : wpList P ops Q (o :: rest) a W := by
  obtain ⟨g, W2, rfl, rfl, H2⟩ := HA.new (b := Blk.m P K E q 0 (fun _ => none)) (MapO.made P K E q)
  refine aw_ev hw ?_ (h _ _ H2)
  unfold execOp
  rw [ho]
  rfl
theorem aw_lookup (i : Nat) {t : TypeId} {m x : Operand} {key : Value} {kl : Lit} (law : Keyed P K) (ht : P.underlying t = some (.map K E)) (he : P.underlying E = some (.int q)) (hz : ∀ W, (zeroValue E).run P W = .ok (.int q 0) W)
    (ho : o.op = .lookup t m x false) (hm : a.eval m = .map (some g)) (hx : a.eval x = key) (hw : Region.wanted o (yielded ops a.tmps) = true) (HA : Aw S w W L) (hi : L[i]? = some (g, Blk.m P K E q n f)) (hk : keyOf P K key = some kl) {v : Int} (hv : (f kl).getD 0 = v)
    (h : wpList P ops Q rest (a.put o.dst (.int q v)) W) : wpList P ops Q (o :: rest) a W := by
  obtain ⟨D, hown, hs, hf⟩ := HA.owns hi
  obtain ⟨c, hrun, hat, _⟩ := hown.lookup_int law ht he (hz W) hk
  rw [(hf kl (law.key hk)).2, hv] at hat
  injection hat with hat
  injection hat with _ hat
  subst hat
  refine aw_ev hw ?_ h
  unfold execOp
  rw [ho]
  simp only [hm, hx, Sem.run_bind, hrun]
  rfl
theorem aw_lookup_ok (i : Nat) {t : TypeId} {m x : Operand} {key : Value} {kl : Lit} (law : Keyed P K) (ht : P.underlying t = some (.map K E)) (he : P.underlying E = some (.int q)) (hz : ∀ W, (zeroValue E).run P W = .ok (.int q 0) W)
    (ho : o.op = .lookup t m x true) (hm : a.eval m = .map (some g)) (hx : a.eval x = key) (hw : Region.wanted o (yielded ops a.tmps) = true) (HA : Aw S w W L) (hi : L[i]? = some (g, Blk.m P K E q n f)) (hk : keyOf P K key = some kl) {v : Option Int} (hv : f kl = v)
    (h : wpList P ops Q rest (a.put o.dst (.tuple #[.int q (v.getD 0), .bool v.isSome])) W) : wpList P ops Q (o :: rest) a W := by
  obtain ⟨D, hown, hs, hf⟩ := HA.owns hi
  have hw0 : (Lit.int q 0).wf = true := by cases q <;> decide
  obtain ⟨c, ps, hrun, hR⟩ := hown.look_ok law ht (hz W) (plainElem_int he hw0) hk
  obtain ⟨d, rfl, hc, _⟩ := plainElem_int_inv he hR
  have hat := congrArg Prod.fst hc
  dsimp only at hat
  rw [(hf kl (law.key hk)).2, hv] at hat
  injection hat with hat
  injection hat with _ hat
  subst hat
  rw [(hf kl (law.key hk)).1, hv] at hrun
  refine aw_ev hw ?_ h
  unfold execOp
  rw [ho]
  simp only [hm, hx, Sem.run_bind, hrun]
  rfl
theorem aw_mapput (i : Nat) {t : TypeId} {m x y : Operand} {key : Value} {kl : Lit} {v : Int} (law : Keyed P K) (ht : P.underlying t = some (.map K E)) (he : P.underlying E = some (.int q))
    (ho : o.op = .mapUpdate t m x y) (hN : o.dst = none) (hm : a.eval m = .map (some g)) (hx : a.eval x = key) (hy : a.eval y = .int q v) (hw : Region.wanted o (yielded ops a.tmps) = true) (HA : Aw S w W L) (hi : L[i]? = some (g, Blk.m P K E q n f)) (hk : keyOf P K key = some kl)
    (hv : (Lit.int q v).wf = true) (hn : n < maxLen)
    (h : ∀ W', Aw S w W' (L.set i (g, Blk.m P K E q (if (f kl).isSome then n else n + 1) (putf f kl v))) → wpList P ops Q rest a W') : wpList P ops Q (o :: rest) a W := by
  obtain ⟨D, hown, hs, hf⟩ := HA.owns hi
  obtain ⟨W2, hrun, hown2, hg⟩ := hown.update law ht hn hk (plainElem_int (H := Unit) he hv)
  have hD := (hown.isMap)
  have hT := (hown.tidy law)
  have hlt := hown.lt
  have hlt2 := hown2.lt
  have e2 : W2.heap[g]? = some W2.heap[g] := Array.getElem?_eq_getElem hlt2
  have hsz := size_put (k := kl) hT (.lit (.int q v))
  rw [(hf kl (law.key hk)).1, hs] at hsz
  have hO : MapO P K E q (Maps.size (D.put kl (.lit (.int q v)))) (putf f kl v) W2.heap[g] := by
    refine MapO.of_owns e2 hown2 (fun k2 hk2 => ?_)
    unfold putf
    by_cases e : k2 = kl
    · subst e
      rw [if_pos rfl]
      exact ⟨has_put_same hD hk2 _, atKey_put_same hD hk2 _ _⟩
    · rw [if_neg e, has_put_other e, atKey_put_other e]
      exact hf k2 hk2
  rw [hsz] at hO
  refine aw_sk hw hN ?_ (h W2 (HA.put (b' := Blk.m P K E q (if (f kl).isSome then n else n + 1) (putf f kl v)) hi ⟨hg.os, hg.tape, hg.output⟩ hg.size e2 hO (fun k hl hk => hg.block k hl (fun e => hk (Option.some.inj e)))))
  unfold execOp
  rw [ho]
  simp only [hm, hx, hy, Sem.run_bind, hrun]
  rfl
theorem aw_maplen (i : Nat) {t : TypeId} {m : Operand} (ht : P.underlying t = some (.map K E)) (ho : o.op = .call { callee := .builtin .len, args := #[m], argTypes := #[t] }) (hm : a.eval m = .map (some g)) (hw : Region.wanted o (yielded ops a.tmps) = true) (HA : Aw S w W L) (hi : L[i]? = some (g, Blk.m P K E q n f))
    (h : wpList P ops Q rest (a.put o.dst (.int .i64 n)) W) : wpList P ops Q (o :: rest) a W := by
  obtain ⟨D, hown, hs, hf⟩ := HA.owns hi
  refine aw_ev hw ?_ h
  have := hown.len ht o.type
  rw [hs] at this
  simp [execOp, ho, resolve, invoke, builtin, hm, this, Result.andThen]
/-- a look-up as a run (for a region that is walked once) -/
theorem Aw.lookup_run (i : Nat) {t : TypeId} {key : Value} {kl : Lit} (HA : Aw S w W L) (law : Keyed P K) (ht : P.underlying t = some (.map K E)) (he : P.underlying E = some (.int q)) (hz : ∀ W, (zeroValue E).run P W = .ok (.int q 0) W)
    (hi : L[i]? = some (g, Blk.m P K E q n f)) (hk : keyOf P K key = some kl) {v : Int} (hv : (f kl).getD 0 = v) : (Instr.lookup t (.map (some g)) key false).run P W = .ok (.int q v) W := by
  obtain ⟨D, hown, hs, hf⟩ := HA.owns hi
  obtain ⟨c, hrun, hat, _⟩ := hown.lookup_int law ht he (hz W) hk
  rw [(hf kl (law.key hk)).2, hv] at hat
  injection hat with hat
  injection hat with _ hat
  subst hat
  exact hrun
end
end Go.Proofs.Ytaddjeegplfjiaa.Q
