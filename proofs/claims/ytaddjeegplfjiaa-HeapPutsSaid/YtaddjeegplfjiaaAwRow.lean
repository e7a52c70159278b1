/- Words for a walk by hand: rows of single cells that the call has made by make, copied into. -/
import Derived.Test.YtaddjeegplfjiaaQx0
import Derived.Test.YtaddjeegplfjiaaAw
import Derived.Test.YtaddjeegplfjiaaAwSl
--@needs XAw
--@needs XAwSl
import Derived.Laws.CopyOwn
import Derived.Deep.OwnRows
namespace Go.Proofs.Ytaddjeegplfjiaa.Q
open Go.RowKit Go.Proofs.YtaddjeegplfjiaaW.PrintWords Go.Proofs.YtaddjeegplfjiaaW.PrintLast Go.Proofs.YtaddjeegplfjiaaW.PrintMore
attribute [local go_sem] max2_int min2_int max_two min_two max_three min_three max_four min_four   -- for this text's walks alone
set_option linter.unusedVariables false
set_option linter.unusedSimpArgs false

theorem madeCells_rep (z : Value) (n : Nat) : madeCells #[z] n = (List.replicate n z).toArray := by
  apply Array.ext
  · simp [size_madeCells]
  · intro i h1 h2
    simp [madeCells, Nat.mod_one]
section
variable {P : Program} {ops : Array Oper} {rest : List Oper} {o : Oper} {a : Act} {Q : Exit → Act → World → Prop} {S : Nat → Prop} {w W : World} {L : List (Nat × Blk)}
theorem aw_make_row (n : Nat) {t e : TypeId} {z : Value} {bytes : Nat} {x y : Operand} {kl kc : IntKind} (ho : o.op = .makeSlice t x y) (ht : P.underlying t = some (.slice e)) (hi : (P.info? e).map (fun i => (i.zero, i.size, i.bytes)) = some (some z, 1, bytes)) (hz1 : z.cells = #[z])
    (hx : a.eval x = .int kl (n : Int)) (hy : a.eval y = .int kc (n : Int)) (hw : Region.wanted o (yielded ops a.tmps) = true) (HA : Aw S w W L) (hbytes : bytes * n ≤ 281474976710656) (h63 : n ≤ 9223372036854775807)
    (h : ∀ g W', Aw S w W' ((g, .c e (List.replicate n z)) :: L) → wpList P ops Q rest (a.put o.dst (.slice (some ⟨g, 0, none⟩) n n)) W') : wpList P ops Q (o :: rest) a W := by
  obtain ⟨g, W2, rfl, rfl, H2⟩ := HA.new (b := .c e (List.replicate n z)) (o := .cells (madeCells #[z] n) e (0, 0)) (by rw [madeCells_rep]; rfl)
  refine aw_ev hw ?_ (h _ _ H2)
  have hr := run_make_row' (P := P) t e z bytes ht hi hz1 kl kc n hbytes h63 W
  unfold execOp
  rw [ho]
  simp only [hx, hy, Sem.run_bind, hr]
  rfl
/-- copy(dst, src) with dst in the row at place i of L, from off on -/
theorem aw_copy (i : Nat) (N : Nat) {t s e T : TypeId} {x y : Operand} {g off dLen dCap sLen sCap : Nat} {dp sp : Option Addr} {cur : List Value} (ho : o.op = .call { callee := .builtin .copy, args := #[x, y], argTypes := #[t, s] }) (ht : P.underlying t = some (.slice e)) (hsz : (P.info? e).map (·.size) = some 1)
    (hx : a.eval x = .slice dp dLen dCap) (hy : a.eval y = .slice sp sLen sCap) (hw : Region.wanted o (yielded ops a.tmps) = true) (HA : Aw S w W L) (hi : L[i]? = some (g, .c T cur)) (cs : List Value) (hn : cs.length = Nat.min sLen dLen) (hN : cs.length = N)
    (hpos : 0 < cs.length → dp = some ⟨g, off, none⟩ ∧ ∃ ad, sp = some ad ∧ ∀ j v, cs[j]? = some v → W.cell? (ad.add j) = some v) (hfit : off + cs.length ≤ cur.length) (h1 : ∀ v ∈ cs, v.oneCell' = true)
    (h : ∀ W', Aw S w W' (L.set i (g, .c T (splice cur off cs))) → wpList P ops Q rest (a.put o.dst (.int .i64 N)) W') : wpList P ops Q (o :: rest) a W := by
  subst hN
  by_cases h0 : cs.length = 0
  · obtain rfl : cs = [] := List.eq_nil_of_length_eq_zero h0
    have hrun := run_copy_none (P := P) W t s o.type e dp sp dLen dCap sLen sCap ht hsz (by simpa using hn.symm)
    refine aw_ev hw (w1 := W) (v := .int .i64 0) ?_ ?_
    · simp [execOp, ho, resolve, invoke, builtin, hx, hy, hrun, Result.andThen]
      rfl
    · refine h W ?_
      have e : splice cur off [] = cur := by simp [splice]
      rw [e]
      have e2 : L.set i (g, .c T cur) = L := by
        have hil := (List.getElem?_eq_some_iff.1 hi).1
        have hgi := (List.getElem?_eq_some_iff.1 hi).2
        rw [← hgi]; exact List.set_getElem_self hil
      rw [e2]; exact HA
  · obtain ⟨rfl, ad, rfl, hsrc⟩ := hpos (by omega)
    have hg := HA.at hi
    have hrun := run_copy_row (P := P) W t s o.type e g off dLen dCap ad sLen sCap cur.toArray T cs ht hsz hg hn hsrc (by simpa using hfit) h1
    refine aw_ev hw (w1 := W.setRow g (cur.toArray.toList.take off ++ cs ++ cur.toArray.toList.drop (off + cs.length)).toArray) (v := .int .i64 cs.length) ?_ ?_
    · simp [execOp, ho, resolve, invoke, builtin, hx, hy, hrun, Result.andThen]
      rfl
    · refine h _ (HA.put (b' := .c T (splice cur off cs)) hi ⟨rfl, rfl, rfl⟩ (by simp [World.setRow]) (setRow_heap W g _ _ T _ hg) (by show _ = _; simp [splice]) (fun k _ hk => setRow_other W g k _ hk))
end
theorem Own.apart {S : Nat → Prop} {w W : World} {L Lv : List (Nat × Blk)} {e size n ob : Nat} {b : Blk} {v : Value} {xs : List Value} (h : Own e size v n xs Lv) (HA : Aw S w W ((ob, b) :: L)) (hs : ∀ x ∈ Lv, x ∈ L) : ∀ g, v.ownBlock = some g → g ≠ ob := by
  intro g hg e
  subst e
  obtain ⟨_, ⟨rfl, _, rfl⟩ | ⟨g', cap', rfl, _, rfl⟩⟩ := h
  · cases hg
  · have e2 : g' = g := by simpa [Value.ownBlock] using hg
    subst e2
    have hm := hs _ (List.mem_singleton.2 rfl)
    have := HA.2.2
    rw [List.map_cons, List.nodup_cons] at this
    exact this.1 (List.mem_map.2 ⟨_, hm, rfl⟩)
end Go.Proofs.Ytaddjeegplfjiaa.Q
