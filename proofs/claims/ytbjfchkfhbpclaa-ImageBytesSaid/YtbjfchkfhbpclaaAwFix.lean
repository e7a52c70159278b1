/- Words for a walk by hand: append onto a row that is full and only read (a literal that is marked). -/
import Derived.Test.YtbjfchkfhbpclaaQx0
import Derived.Test.YtbjfchkfhbpclaaAw
import Derived.Test.YtbjfchkfhbpclaaAwSl
--@needs XAw
--@needs XAwSl
import Derived.Maps.AppendAt
import Derived.ArgAppend
namespace Go.Proofs.Ytbjfchkfhbpclaa.Q
open Go.RowKit Go.Proofs.YtbjfchkfhbpclaaW.PrintWords Go.Proofs.YtbjfchkfhbpclaaW.PrintLast Go.Proofs.YtbjfchkfhbpclaaW.PrintMore
attribute [local go_sem] max2_int min2_int max_two min_two max_three min_three max_four min_four   -- for this text's walks alone
set_option linter.unusedVariables false
set_option linter.unusedSimpArgs false

/-- a full row that is only read -/
def FixO (e : TypeId) (xs : List Value) (o : Obj) : Prop := ∃ fr, o = .cells xs.toArray e fr
abbrev Blk.fix (e : TypeId) (xs : List Value) : Blk := .p (FixO e xs)
section
variable {P : Program} {ops : Array Oper} {rest : List Oper} {o : Oper} {a : Act} {Q : Exit → Act → World → Prop} {S : Nat → Prop} {w W : World} {L : List (Nat × Blk)}
theorem Aw.fcell {g e : Nat} {xs : List Value} (h : Aw S w W L) (hi : (g, Blk.fix e xs) ∈ L) {j : Nat} {u : Value} (hu : xs[j]? = some u) : W.cell? ⟨g, j, none⟩ = some u := by
  obtain ⟨⟨o, ho, fr, rfl⟩, _⟩ := h.getL hi
  rw [cell_of_row W g j xs.toArray e fr ho]
  simpa using hu
theorem aw_append_fix_core (j : Nat) {t e : TypeId} {z : Value} {size bytes : Nat} {s x : Operand} {n g2 : Nat} {xs news : List Value}
    (ht : P.underlying t = some (.slice e)) (hi : (P.info? e).map (fun i => (i.zero, i.size, i.bytes)) = some (some z, size, bytes)) (hz : z.cells.size = size) (h0 : 0 < size)
    (ho : o.op = .call { callee := .builtin .append, args := #[s, x], argTypes := #[t, t] }) (hs : a.eval s = .slice (some ⟨g2, 0, none⟩) n n) (hw : Region.wanted o (yielded ops a.tmps) = true) (HA : Aw S w W L)
    {ad : Addr} {m c : Nat} (hx : a.eval x = .slice (some ad) m c) (hl : news.length = m * size) (hnews : ∀ j u, news[j]? = some u → W.cell? (ad.add j) = some u) (hm : 0 < m)
    (hg2 : L[j]? = some (g2, Blk.fix e xs)) (hxs : xs.length = n * size)
    (h63 : n + m ≤ maxLen) (hbytes : (n + m) * bytes ≤ 140737488355328)
    (h : ∀ v' W' Lv', Own e size v' (n + m) (xs ++ news) Lv' → Aw S w W' (L ++ Lv') → wpList P ops Q rest (a.put o.dst v') W') : wpList P ops Q (o :: rest) a W := by
  obtain ⟨inf, hi, hinf⟩ := Option.map_eq_some_iff.1 hi
  simp only [Prod.mk.injEq] at hinf
  obtain ⟨e1, e2, e3⟩ := hinf
  obtain ⟨v', W', hr, h2, h3⟩ := run_append_arg_grows (P := P) W t o.type e inf z size bytes ht hi e1 e2 e3 hz h0 ⟨g2, 0, none⟩ n n xs hxs
    (fun j u hu => by rw [Addr.add_mid, Nat.zero_add]; exact HA.fcell (List.mem_of_getElem? hg2) hu) ad m c news hl hnews (by omega) h63 hbytes
  have hK : Kp S w W' := HA.1.trans (S2 := fun _ => False) ⟨h3.os, h3.tape, h3.output, h3.size, fun i hi' _ => h3.block i hi' (by simp)⟩ (fun _ hk => hk.elim)
  have hkeep : ∀ y ∈ L, (∃ o, W'.heap[y.1]? = some o ∧ y.2.sat o) ∧ (S y.1 ∨ w.heap.size ≤ y.1) := by
    intro y hy
    obtain ⟨⟨o2, ho2, hb2⟩, hm⟩ := HA.2.1 y hy
    exact ⟨⟨o2, (h3.block y.1 (blk_lt ho2) (by simp)).trans ho2, hb2⟩, hm⟩
  refine aw_ev hw (w1 := W') (v := v') ?_ ?_
  · unfold execOp
    simp only [ho, resolve, invoke, builtin, Sem.run_bind, Sem.run_pure, Result.andThen_ok, List.map_toArray, List.map_cons, List.map_nil, hs, hx, hr]
  · obtain ⟨hlen, ⟨rfl, hn0⟩ | ⟨g3, cap, cur, rfl, hge, hg3, hnc, hcm, hsz, htk⟩⟩ := h2
    · omega
    · refine h _ _ [(g3, Blk.r e size cap (xs ++ news))] ⟨hlen, .inr ⟨g3, cap, rfl, hnc, rfl⟩⟩ ⟨hK, ?_, ?_⟩
      · intro y hy
        rcases List.mem_append.1 hy with hy | hy
        · exact hkeep y hy
        · obtain rfl := List.mem_singleton.1 hy
          exact ⟨⟨_, hg3, cur, rfl, hsz, hcm, by rw [hlen]; exact htk⟩, .inr (Nat.le_trans HA.1.size hge)⟩
      · rw [List.map_append, List.nodup_append]
        refine ⟨HA.2.2, by simp, ?_⟩
        intro y hy y2 hy2 he
        obtain ⟨z1, hz1, rfl⟩ := List.mem_map.1 hy
        have e5 : y2 = g3 := by simpa using hy2
        subst e5
        obtain ⟨o2, ho2, _⟩ := (HA.2.1 z1 hz1).1
        have := blk_lt ho2
        omega
theorem aw_append_fix (i j : Nat) {t e T : TypeId} {z : Value} {size bytes : Nat} {s x : Operand} {n g g2 : Nat} {xs news : List Value}
    (ht : P.underlying t = some (.slice e)) (hi : (P.info? e).map (fun i => (i.zero, i.size, i.bytes)) = some (some z, size, bytes)) (hz : z.cells.size = size) (h0 : 0 < size)
    (ho : o.op = .call { callee := .builtin .append, args := #[s, x], argTypes := #[t, t] }) (hs : a.eval s = .slice (some ⟨g2, 0, none⟩) n n) (hw : Region.wanted o (yielded ops a.tmps) = true) (HA : Aw S w W L)
    {m c : Nat} (hx : a.eval x = .slice (some ⟨g, 0, none⟩) m c) (hg : L[i]? = some (g, .c T news)) (hl : news.length = m * size) (hm : 0 < m)
    (hg2 : L[j]? = some (g2, Blk.fix e xs)) (hxs : xs.length = n * size)
    (h63 : n + m ≤ maxLen) (hbytes : (n + m) * bytes ≤ 140737488355328)
    (h : ∀ v' W' Lv', Own e size v' (n + m) (xs ++ news) Lv' → Aw S w W' (L ++ Lv') → wpList P ops Q rest (a.put o.dst v') W') : wpList P ops Q (o :: rest) a W :=
  aw_append_fix_core j ht hi hz h0 ho hs hw HA hx hl (fun j u hu => by rw [Addr.add_mid, Nat.zero_add]; exact HA.cell hg hu) hm hg2 hxs h63 hbytes h
/-- a literal's conversion to its own type marks the row behind its last cell -/
theorem aw_mark (i : Nat) {t e : TypeId} {x : Operand} {g n c : Nat} {l : List Value} (ht : P.underlying t = some (.slice e)) (he : P.underlying e = some (.int .u8)) (ho : o.op = .convert t t x) (hx : a.eval x = .slice (some ⟨g, 0, none⟩) n c) (hw : Region.wanted o (yielded ops a.tmps) = true) (HA : Aw S w W L)
    (hi : L[i]? = some (g, .c e l)) (h : ∀ W', Aw S w W' (L.set i (g, Blk.fix e l)) → wpList P ops Q rest (a.put o.dst (.slice (some ⟨g, 0, none⟩) n c)) W') : wpList P ops Q (o :: rest) a W := by
  have hg := HA.at hi
  have hsh : W.shape? g = some (e, l.length) := by
    unfold World.shape?
    rw [hg]
    simp
  have hgl : g < W.heap.size := blk_lt hg
  have e1 : (W.freeze ⟨g, l.length, none⟩ 1).heap[g]? = some (.cells l.toArray e (l.length, l.length + 1)) := by
    unfold World.freeze
    rw [if_neg (by decide)]
    simp [Array.getElem?_modify, hg]
  have e2 : ∀ k, k < W.heap.size → k ≠ g → (W.freeze ⟨g, l.length, none⟩ 1).heap[k]? = W.heap[k]? := by
    intro k _ hk
    unfold World.freeze
    rw [if_neg (by decide)]
    simp [Array.getElem?_modify, Ne.symm hk]
  have e3 : (W.freeze ⟨g, l.length, none⟩ 1).os = W.os ∧ (W.freeze ⟨g, l.length, none⟩ 1).tape = W.tape ∧ (W.freeze ⟨g, l.length, none⟩ 1).output = W.output := by
    unfold World.freeze
    rw [if_neg (by decide)]
    exact ⟨rfl, rfl, rfl⟩
  have e4 : W.heap.size ≤ (W.freeze ⟨g, l.length, none⟩ 1).heap.size := by
    unfold World.freeze
    rw [if_neg (by decide)]
    simp
  refine aw_ev hw (w1 := W.freeze ⟨g, l.length, none⟩ 1) (v := .slice (some ⟨g, 0, none⟩) n c) ?_ (h _ (HA.put (b' := Blk.fix e l) hi e3 e4 e1 ⟨_, rfl⟩ e2))
  unfold execOp
  rw [ho]
  simp [hx, convert, run_underlying ht, run_underlying he, markStringish, hsh, Sem.run_bind]
end
end Go.Proofs.Ytbjfchkfhbpclaa.Q
