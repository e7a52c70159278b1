/- Several texts in one: Words for a walk by hand: slices that the call has made (by append), each told by its cells. Words for a walk by hand: maps of whole numbers that the call has made, each told by a function. Words for a walk by hand: rows of single cells that the call has made by make, copied into. Words for a walk by hand: stores into own slices; a string's next rune, whatever it is. Words for a walk by hand: a region that draws its order and writes: one operation of it by the rules of XAw. Words for a walk by hand: a callee that writes the blocks that it was given, and the caller's other blocks. Words for a walk by hand: what a callee has made stands in the list of known blocks. -/
import Derived.Test.YtlhkojnocconfaaDoorQx0
import Derived.Test.YtlhkojnocconfaaDoorAw
import Derived.Maps.AppendAt
import Derived.Maps.OwnSet
import Derived.Carry
import Derived.Laws.CopyOwn
import Derived.Deep.OwnRows
import Derived.Laws.RangeAny
import Derived.Laws.Runes
import Derived.Deep.RegionLaw
--@needs XAw
namespace Go.Proofs.YtlhkojnocconfaaDoor.Q
open Go.RowKit Go.Proofs.YtlhkojnocconfaaDoorW.PrintWords Go.Proofs.YtlhkojnocconfaaDoorW.PrintLast Go.Proofs.YtlhkojnocconfaaDoorW.PrintMore
attribute [local go_sem] max2_int min2_int max_two min_two max_three min_three max_four min_four   -- for this text's walks alone
set_option linter.unusedVariables false
set_option linter.unusedSimpArgs false

/-- a row with room for cap elements of size cells each, the first of them xs -/
def RowO (e size cap : Nat) (xs : List Value) (o : Obj) : Prop := ∃ cur, o = .cells cur e (0, 0) ∧ cur.size = cap * size ∧ cap ≤ maxLen ∧ cur.toList.take xs.length = xs
abbrev Blk.r (e size cap : Nat) (xs : List Value) : Blk := .p (RowO e size cap xs)
/-- the slice value v has n elements, the cells xs; Lv is its block, if it has one -/
def Own (e size : Nat) (v : Value) (n : Nat) (xs : List Value) (Lv : List (Nat × Blk)) : Prop :=
  xs.length = n * size ∧ ((v = .slice none 0 0 ∧ n = 0 ∧ Lv = []) ∨ ∃ g cap, v = .slice (some ⟨g, 0, none⟩) n cap ∧ n ≤ cap ∧ Lv = [(g, Blk.r e size cap xs)])
section
variable {e size n : Nat} {v : Value} {xs : List Value} {Lv L L0 : List (Nat × Blk)} {S : Nat → Prop} {w W : World}
theorem Own.nil (e size : Nat) : Own e size (.slice none 0 0) 0 [] [] := ⟨by simp, .inl ⟨rfl, rfl, rfl⟩⟩
theorem Aw.getL {g : Nat} {b : Blk} (h : Aw S w W L) (hm : (g, b) ∈ L) : (∃ o, W.heap[g]? = some o ∧ b.sat o) ∧ (S g ∨ w.heap.size ≤ g) := h.2.1 (g, b) hm
theorem Own.row (h : Own e size v n xs Lv) (HA : Aw S w W L) (hs : ∀ x ∈ Lv, x ∈ L) : W.ownsRow 0 e size v n xs := by
  obtain ⟨hl, ⟨rfl, rfl, rfl⟩ | ⟨g, cap, rfl, hc, rfl⟩⟩ := h
  · exact ⟨hl, .inl ⟨rfl, rfl⟩⟩
  · obtain ⟨⟨o, ho, cur, rfl, h1, h2, h3⟩, _⟩ := HA.getL (hs _ (List.mem_singleton.2 rfl))
    exact ⟨hl, .inr ⟨g, cap, cur, rfl, Nat.zero_le _, ho, hc, h2, h1, by rw [← hl]; exact h3⟩⟩
/-- each cell of an own slice -/
theorem Own.cell (h : Own e size v n xs Lv) (HA : Aw S w W L) (hs : ∀ x ∈ Lv, x ∈ L) {j : Nat} {u : Value} (hu : xs[j]? = some u) : ∃ g cap, v = .slice (some ⟨g, 0, none⟩) n cap ∧ W.cell? ⟨g, j, none⟩ = some u := by
  have hj : j < xs.length := (List.getElem?_eq_some_iff.1 hu).1
  obtain ⟨hl, ⟨rfl, rfl, rfl⟩ | ⟨g, cap, rfl, hc, rfl⟩⟩ := h
  · rw [Nat.zero_mul] at hl; omega
  · obtain ⟨⟨o, ho, cur, rfl, h1, h2, h3⟩, _⟩ := HA.getL (hs _ (List.mem_singleton.2 rfl))
    refine ⟨g, cap, rfl, ?_⟩
    rw [cell_of_row W g j cur e (0, 0) ho]
    rw [← h3, List.getElem?_take_of_lt hj] at hu
    simpa using hu
end
section
variable {S : Nat → Prop} {w W : World} {L : List (Nat × Blk)}
theorem Aw.rcell {i g e size cap j : Nat} {xs : List Value} {u : Value} (h : Aw S w W L) (hi : L[i]? = some (g, Blk.r e size cap xs)) (hu : xs[j]? = some u) : W.cell? ⟨g, j, none⟩ = some u := by
  obtain ⟨o, ho, cur, rfl, h1, h2, h3⟩ := h.atp hi
  have hj : j < xs.length := (List.getElem?_eq_some_iff.1 hu).1
  rw [cell_of_row W g j cur e (0, 0) ho]
  rw [← h3, List.getElem?_take_of_lt hj] at hu
  simpa using hu
theorem RowO.lit (e size n : Nat) (l : List Value) (hl : l.length = n * size) (hm : n ≤ maxLen) : RowO e size n l (.cells l.toArray e (0, 0)) := ⟨_, rfl, by simpa using hl, hm, by simp⟩
theorem Aw.perm {L' : List (Nat × Blk)} (h : Aw S w W L) (hp : L.Perm L') : Aw S w W L' := ⟨h.1, fun x hx => h.2.1 x (hp.mem_iff.2 hx), ((hp.map _).nodup_iff).1 h.2.2⟩
/-- the literal row ahead turns into an own slice's behind -/
theorem Aw.litLast {g e size n : Nat} {l : List Value} (h : Aw S w W ((g, .c e l) :: L)) (hl : l.length = n * size) (hm : n ≤ maxLen) : Aw S w W (L ++ [(g, Blk.r e size n l)]) := by
  have h2 : Aw S w W ((g, Blk.r e size n l) :: L) := by
    refine ⟨h.1, fun x hx => ?_, h.2.2⟩
    rcases List.mem_cons.1 hx with rfl | hx
    · obtain ⟨⟨o, ho, hb⟩, hm2⟩ := h.2.1 (g, .c e l) (List.mem_cons_self)
      exact ⟨⟨o, ho, by rw [show o = _ from hb]; exact RowO.lit e size n l hl hm⟩, hm2⟩
    · exact h.2.1 x (List.mem_cons_of_mem _ hx)
  exact h2.perm (List.perm_append_comm (l₁ := [(g, Blk.r e size n l)]) (l₂ := L))
end
section
variable {P : Program} {ops : Array Oper} {rest : List Oper} {o : Oper} {a : Act} {Q : Exit → Act → World → Prop} {S : Nat → Prop} {w W : World} {L Lv : List (Nat × Blk)}
theorem Aw.shrink {L L' : List (Nat × Blk)} (h : Aw S w W L) (hs : L'.Sublist L) : Aw S w W L' := h.sub hs
theorem aw_append_core (k : Nat) {t e : TypeId} {z : Value} {size bytes : Nat} {s x : Operand} {v : Value} {n : Nat} {xs : List Value} (hd : L.drop k = Lv)
    (ht : P.underlying t = some (.slice e)) (hi : (P.info? e).map (fun i => (i.zero, i.size, i.bytes)) = some (some z, size, bytes)) (hz : z.cells.size = size) (h0 : 0 < size)
    (ho : o.op = .call { callee := .builtin .append, args := #[s, x], argTypes := #[t, t] }) (hown : Own e size v n xs Lv) (hs : a.eval s = v) (hw : Region.wanted o (yielded ops a.tmps) = true) (HA : Aw S w W L)
    {ad : Addr} {m c : Nat} {news : List Value} (hx : a.eval x = .slice (some ad) m c) (hl : news.length = m * size) (hnews : ∀ j u, news[j]? = some u → W.cell? (ad.add j) = some u) (h1 : ∀ u ∈ news, u.oneCell' = true)
    (h63 : n + m ≤ maxLen) (hbytes : (n + m) * bytes ≤ 140737488355328)
    (h : ∀ v' W' Lv', Own e size v' (n + m) (xs ++ news) Lv' → Aw S w W' (L.take k ++ Lv') → wpList P ops Q rest (a.put o.dst v') W') : wpList P ops Q (o :: rest) a W := by
  obtain ⟨inf, hi, hinf⟩ := Option.map_eq_some_iff.1 hi
  simp only [Prod.mk.injEq] at hinf
  obtain ⟨e1, e2, e3⟩ := hinf
  have hLs : ∀ y ∈ Lv, y ∈ L := fun y hy => List.mem_of_mem_drop (hd ▸ hy)
  obtain ⟨v', W', hr, h2, h3, h4, h5⟩ := run_append_own_at (P := P) W 0 t o.type e inf z size bytes ht hi e1 e2 e3 hz h0 v n xs (hown.row HA hLs) ad m c news hl hnews h1 h63 hbytes (Nat.zero_le _)
  have hLe : L.take k ++ Lv = L := by rw [← hd, List.take_append_drop]
  have hnd := HA.2.2
  rw [← hLe, List.map_append, List.nodup_append] at hnd
  have hnotv : ∀ y ∈ L.take k, ∀ g, v.ownBlock = some g → y.1 ≠ g := by
    intro y hy g hg he
    obtain ⟨_, ⟨rfl, _, rfl⟩ | ⟨g', cap, rfl, _, rfl⟩⟩ := hown
    · simp [Value.ownBlock] at hg
    · have e4 : g' = g := by simpa [Value.ownBlock] using hg
      subst e4
      exact hnd.2.2 y.1 (List.mem_map_of_mem hy) g' (by simp) he
  have hvS : ∀ g, v.ownBlock = some g → S g ∨ w.heap.size ≤ g := by
    intro g hg
    obtain ⟨_, ⟨rfl, _, rfl⟩ | ⟨g', cap, rfl, _, rfl⟩⟩ := hown
    · simp [Value.ownBlock] at hg
    · have e4 : g' = g := by simpa [Value.ownBlock] using hg
      subst e4
      exact (HA.getL (hLs _ (List.mem_singleton.2 rfl))).2
  have hK : Kp S w W' := HA.1.trans (S2 := fun g => v.ownBlock = some g) ⟨h3.os, h3.tape, h3.output, h3.size, fun i hi' hn => h3.block i hi' (fun he => hn he.symm)⟩ hvS
  have hkeep : ∀ y ∈ L.take k, (∃ o, W'.heap[y.1]? = some o ∧ y.2.sat o) ∧ (S y.1 ∨ w.heap.size ≤ y.1) := by
    intro y hy
    obtain ⟨⟨o2, ho2, hb2⟩, hm⟩ := HA.2.1 y (List.mem_of_mem_take hy)
    exact ⟨⟨o2, (h3.block y.1 (blk_lt ho2) (fun he => hnotv y hy y.1 he.symm rfl)).trans ho2, hb2⟩, hm⟩
  refine aw_ev hw (w1 := W') (v := v') ?_ ?_
  · unfold execOp
    simp only [ho, resolve, invoke, builtin, Sem.run_bind, Sem.run_pure, Result.andThen_ok, List.map_toArray, List.map_cons, List.map_nil, hs, hx, hr]
  · obtain ⟨hlen, ⟨rfl, hn0⟩ | ⟨g, cap, cur, rfl, _, hg, hnc, hcm, hsz, htk⟩⟩ := h2
    · refine h _ _ [] ⟨hlen, .inl ⟨rfl, hn0, rfl⟩⟩ ?_
      rw [List.append_nil]
      exact ⟨hK, hkeep, hnd.1⟩
    · refine h _ _ [(g, Blk.r e size cap (xs ++ news))] ⟨hlen, .inr ⟨g, cap, rfl, hnc, rfl⟩⟩ ⟨hK, ?_, ?_⟩
      · intro y hy
        rcases List.mem_append.1 hy with hy | hy
        · exact hkeep y hy
        · obtain rfl := List.mem_singleton.1 hy
          refine ⟨⟨_, hg, cur, rfl, hsz, hcm, by rw [hlen]; exact htk⟩, ?_⟩
          rcases h5 with h5 | h5
          · exact hvS g (by rw [← h5]; rfl)
          · have e4 : g = W.heap.size := by simpa [Value.ownBlock] using h5
            exact .inr (by rw [show (g, Blk.r e size cap (xs ++ news)).1 = g from rfl, e4]; exact HA.1.size)
      · rw [List.map_append, List.nodup_append]
        refine ⟨hnd.1, by simp, ?_⟩
        intro y hy y2 hy2 he
        obtain ⟨z1, hz1, rfl⟩ := List.mem_map.1 hy
        have e5 : y2 = g := by simpa using hy2
        subst e5
        rcases h5 with h5 | h5
        · exact hnotv z1 hz1 y2 (by rw [← h5]; rfl) he
        · have e4 : y2 = W.heap.size := by simpa [Value.ownBlock] using h5
          obtain ⟨o2, ho2, _⟩ := (HA.2.1 z1 (List.mem_of_mem_take hz1)).1
          have := blk_lt ho2
          omega
/-- append(s, x): the row of x is the block at place i of L (a literal) -/
theorem aw_append (k i : Nat) {t e T : TypeId} {z : Value} {size bytes : Nat} {s x : Operand} {v : Value} {n g : Nat} {xs news : List Value} (hd : L.drop k = Lv)
    (ht : P.underlying t = some (.slice e)) (hi : (P.info? e).map (fun i => (i.zero, i.size, i.bytes)) = some (some z, size, bytes)) (hz : z.cells.size = size) (h0 : 0 < size)
    (ho : o.op = .call { callee := .builtin .append, args := #[s, x], argTypes := #[t, t] }) (hown : Own e size v n xs Lv) (hs : a.eval s = v) (hw : Region.wanted o (yielded ops a.tmps) = true) (HA : Aw S w W L)
    {m c : Nat} (hx : a.eval x = .slice (some ⟨g, 0, none⟩) m c) (hg : L[i]? = some (g, .c T news)) (hl : news.length = m * size) (h1 : news.all (·.oneCell') = true)
    (h63 : n + m ≤ maxLen) (hbytes : (n + m) * bytes ≤ 140737488355328)
    (h : ∀ v' W' Lv', Own e size v' (n + m) (xs ++ news) Lv' → Aw S w W' (L.take k ++ Lv') → wpList P ops Q rest (a.put o.dst v') W') : wpList P ops Q (o :: rest) a W :=
  aw_append_core k hd ht hi hz h0 ho hown hs hw HA hx hl (fun j u hu => by rw [Addr.add_mid, Nat.zero_add]; exact HA.cell hg hu) (by simpa using h1) h63 hbytes h
/-- append(lit, ys...): lit a literal row (the newest block), ys an own slice whose block is at place i behind it -/
theorem aw_append_lit (i : Nat) {t e : TypeId} {z : Value} {bytes : Nat} {s x : Operand} {n m c g g2 cap : Nat} {xs ys : List Value} {L1 : List (Nat × Blk)}
    (ht : P.underlying t = some (.slice e)) (hi : (P.info? e).map (fun i => (i.zero, i.size, i.bytes)) = some (some z, 1, bytes)) (hz : z.cells.size = 1)
    (ho : o.op = .call { callee := .builtin .append, args := #[s, x], argTypes := #[t, t] }) (hs : a.eval s = .slice (some ⟨g, 0, none⟩) n n) (hw : Region.wanted o (yielded ops a.tmps) = true) (HA : Aw S w W ((g, .c e xs) :: L1)) (hxs : xs.length = n)
    (hx : a.eval x = .slice (some ⟨g2, 0, none⟩) m c) (hg : L1[i]? = some (g2, Blk.r e 1 cap ys)) (hl : ys.length = m) (h1 : ∀ u ∈ ys, u.oneCell' = true)
    (h63 : n + m ≤ maxLen) (hbytes : (n + m) * bytes ≤ 140737488355328)
    (h : ∀ v' W' Lv', Own e 1 v' (n + m) (xs ++ ys) Lv' → Aw S w W' (L1 ++ Lv') → wpList P ops Q rest (a.put o.dst v') W') : wpList P ops Q (o :: rest) a W := by
  have hnm : n ≤ maxLen := by omega
  have HB := HA.litLast (size := 1) (n := n) (by omega) hnm
  have h2 : (L1 ++ [(g, Blk.r e 1 n xs)])[i]? = some (g2, Blk.r e 1 cap ys) := by
    rw [List.getElem?_append_left (List.getElem?_eq_some_iff.1 hg).1]; exact hg
  refine aw_append_core L1.length (Lv := [(g, Blk.r e 1 n xs)]) (by simp) ht hi hz (by decide) ho ⟨by omega, .inr ⟨g, n, rfl, Nat.le_refl _, rfl⟩⟩ hs hw HB hx (by omega) (fun j u hu => by rw [Addr.add_mid, Nat.zero_add]; exact HB.rcell h2 hu) h1 h63 hbytes (fun v' W' Lv' hO hA => h v' W' Lv' hO (by simpa using hA))
end
section
variable {e size n : Nat} {v : Value} {xs : List Value} {Lv L : List (Nat × Blk)} {w W : World}
theorem Own.rowB (h : Own e size v n xs Lv) (HA : Aw noS w W L) (hs : ∀ x ∈ Lv, x ∈ L) : W.ownsRow w.heap.size e size v n xs := by
  obtain ⟨hl, ⟨rfl, rfl, rfl⟩ | ⟨g, cap, rfl, hc, rfl⟩⟩ := h
  · exact ⟨hl, .inl ⟨rfl, rfl⟩⟩
  · obtain ⟨⟨o, ho, cur, rfl, h1, h2, h3⟩, hm⟩ := HA.getL (hs _ (List.mem_singleton.2 rfl))
    exact ⟨hl, .inr ⟨g, cap, cur, rfl, hm.elim (fun h => h.elim) id, ho, hc, h2, h1, by rw [← hl]; exact h3⟩⟩
theorem Own.kdR {q : IntKind} {l : List Int} {ok : Nat → Prop} (h : Own e 1 v l.length (l.map (Value.int q)) Lv) (HA : Aw noS w W L) (hs : ∀ x ∈ Lv, x ∈ L) (hok : ∀ k, v.ownBlock = some k → ok k) : Kd.R (Kd.int q) e W w.heap.size ok v l :=
  Kd.R_of_own (enc := Value.int q) (h.rowB HA hs) hok
/-- a literal row that is full -/
theorem Own.full {g : Nat} (hl : xs.length = n * size) : Own e size (.slice (some ⟨g, 0, none⟩) n n) n xs [(g, Blk.r e size n xs)] := ⟨hl, .inr ⟨g, n, rfl, Nat.le_refl _, rfl⟩⟩
end
end Go.Proofs.YtlhkojnocconfaaDoor.Q

--@needs XAw
namespace Go.Proofs.YtlhkojnocconfaaDoor.Q
open Go.RowKit Go.Proofs.YtlhkojnocconfaaDoorW.PrintWords Go.Proofs.YtlhkojnocconfaaDoorW.PrintLast Go.Proofs.YtlhkojnocconfaaDoorW.PrintMore
attribute [local go_sem] max2_int min2_int max_two min_two max_three min_three max_four min_four   -- for this text's walks alone
set_option linter.unusedVariables false
set_option linter.unusedSimpArgs false

open Go.Maps
/-- a map with keys of type K and elements of type E (of kind q), of n entries, that gives f -/
def MapO (P : Program) (K E : TypeId) (q : IntKind) (n : Nat) (f : Lit → Option Int) (o : Obj) : Prop :=
  ∃ (w : World) (b : Nat) (D : DataW Unit), w.heap[b]? = some o ∧ w.ownsMap P K (plainElem P E) b n D ∧ Maps.size D = n ∧
    ∀ kl, WideAt.IsKeyLit kl → Maps.has D kl = (f kl).isSome ∧ D.atKey kl (.lit (.int q 0)) = .lit (.int q ((f kl).getD 0))
abbrev Blk.m (P : Program) (K E : TypeId) (q : IntKind) (n : Nat) (f : Lit → Option Int) : Blk := .p (MapO P K E q n f)
section
variable {P : Program} {S : Nat → Prop} {w W : World} {L : List (Nat × Blk)} {K E : TypeId} {q : IntKind} {n g i : Nat} {f : Lit → Option Int}
theorem Aw.owns (h : Aw S w W L) (hi : L[i]? = some (g, Blk.m P K E q n f)) : ∃ D : DataW Unit, W.ownsMap P K (plainElem P E) g n D ∧ Maps.size D = n ∧
    ∀ kl, WideAt.IsKeyLit kl → Maps.has D kl = (f kl).isSome ∧ D.atKey kl (.lit (.int q 0)) = .lit (.int q ((f kl).getD 0)) := by
  obtain ⟨o, h1, w0, b, D, h2, ⟨es, ck, h3, h4⟩, hs, hk⟩ := h.atp hi
  rw [h2] at h3
  obtain rfl := Option.some.inj h3
  exact ⟨D, ⟨es, ck, h1, h4⟩, hs, hk⟩
theorem MapO.made (P : Program) (K E : TypeId) (q : IntKind) : MapO P K E q 0 (fun _ => none) (.map #[] 0) :=
  ⟨World.alloc default (.map #[] 0), _, _, heap_alloc_new _ _, World.ownsMap_made _ _ _ _, rfl, fun _ _ => ⟨rfl, rfl⟩⟩
theorem MapO.of_owns {W : World} {o : Obj} {m : Nat} {D : DataW Unit} (hg : W.heap[g]? = some o) (h : W.ownsMap P K (plainElem P E) g m D) (hk : ∀ kl, WideAt.IsKeyLit kl → Maps.has D kl = (f kl).isSome ∧ D.atKey kl (.lit (.int q 0)) = .lit (.int q ((f kl).getD 0))) :
    MapO P K E q (Maps.size D) f o := by
  obtain ⟨es, ck, h1, F, h3, rfl⟩ := h
  refine ⟨W, g, _, hg, ⟨es, ck, h1, F, ?_, rfl⟩, rfl, hk⟩
  show es.size ≤ ((es.toList.map (Go.WideElems.rg P K (plainElem P E))).foldr DataW.insert []).length
  rw [length_sorted]; simp
open Classical in
noncomputable def putf (f : Lit → Option Int) (kl : Lit) (v : Int) : Lit → Option Int := fun k => if k = kl then some v else f k
variable {ops : Array Oper} {rest : List Oper} {o : Oper} {a : Act} {Q : Exit → Act → World → Prop}
theorem aw_makemap (K E : TypeId) (q : IntKind) {t : TypeId} (ho : o.op = .makeMap t none) (hw : Region.wanted o (yielded ops a.tmps) = true) (HA : Aw S w W L)
    (h : ∀ g W', Aw S w W' ((g, Blk.m P K E q 0 (fun _ => none)) :: L) → wpList P ops Q rest (a.put o.dst (.map (some g))) W') : wpList P ops Q (o :: rest) a W := by
  obtain ⟨g, W2, rfl, rfl, H2⟩ := HA.new (b := Blk.m P K E q 0 (fun _ => none)) (MapO.made P K E q)
  refine aw_ev hw ?_ (h _ _ H2)
  unfold execOp
  rw [ho]
  rfl
theorem aw_lookup (i : Nat) {t : TypeId} {m x : Operand} {key : Value} {kl : Lit} (law : Keyed P K) (ht : P.underlying t = some (.map K E)) (he : P.underlying E = some (.int q)) (hz : ∀ W, (zeroValue E).run P W = .ok (.int q 0) W)
    (ho : o.op = .lookup t m x false) (hm : a.eval m = .map (some g)) (hx : a.eval x = key) (hw : Region.wanted o (yielded ops a.tmps) = true) (HA : Aw S w W L) (hi : L[i]? = some (g, Blk.m P K E q n f)) (hk : keyOf P K key = some kl) {v : Int} (hv : (f kl).getD 0 = v)
    (h : wpList P ops Q rest (a.put o.dst (.int q v)) W) : wpList P ops Q (o :: rest) a W := by
  obtain ⟨D, hown, hs, hf⟩ := HA.owns hi
  obtain ⟨c, hrun, hat, _⟩ := hown.lookup_int law ht he (hz W) hk
  rw [(hf kl (law.key hk)).2, hv] at hat
  injection hat with hat
  injection hat with _ hat
  subst hat
  refine aw_ev hw ?_ h
  unfold execOp
  rw [ho]
  simp only [hm, hx, Sem.run_bind, hrun]
  rfl
theorem aw_lookup_ok (i : Nat) {t : TypeId} {m x : Operand} {key : Value} {kl : Lit} (law : Keyed P K) (ht : P.underlying t = some (.map K E)) (he : P.underlying E = some (.int q)) (hz : ∀ W, (zeroValue E).run P W = .ok (.int q 0) W)
    (ho : o.op = .lookup t m x true) (hm : a.eval m = .map (some g)) (hx : a.eval x = key) (hw : Region.wanted o (yielded ops a.tmps) = true) (HA : Aw S w W L) (hi : L[i]? = some (g, Blk.m P K E q n f)) (hk : keyOf P K key = some kl) {v : Option Int} (hv : f kl = v)
    (h : wpList P ops Q rest (a.put o.dst (.tuple #[.int q (v.getD 0), .bool v.isSome])) W) : wpList P ops Q (o :: rest) a W := by
  obtain ⟨D, hown, hs, hf⟩ := HA.owns hi
  have hw0 : (Lit.int q 0).wf = true := by cases q <;> decide
  obtain ⟨c, ps, hrun, hR⟩ := hown.look_ok law ht (hz W) (plainElem_int he hw0) hk
  obtain ⟨d, rfl, hc, _⟩ := plainElem_int_inv he hR
  have hat := congrArg Prod.fst hc
  dsimp only at hat
  rw [(hf kl (law.key hk)).2, hv] at hat
  injection hat with hat
  injection hat with _ hat
  subst hat
  rw [(hf kl (law.key hk)).1, hv] at hrun
  refine aw_ev hw ?_ h
  unfold execOp
  rw [ho]
  simp only [hm, hx, Sem.run_bind, hrun]
  rfl
theorem aw_mapput (i : Nat) {t : TypeId} {m x y : Operand} {key : Value} {kl : Lit} {v : Int} (law : Keyed P K) (ht : P.underlying t = some (.map K E)) (he : P.underlying E = some (.int q))
    (ho : o.op = .mapUpdate t m x y) (hN : o.dst = none) (hm : a.eval m = .map (some g)) (hx : a.eval x = key) (hy : a.eval y = .int q v) (hw : Region.wanted o (yielded ops a.tmps) = true) (HA : Aw S w W L) (hi : L[i]? = some (g, Blk.m P K E q n f)) (hk : keyOf P K key = some kl)
    (hv : (Lit.int q v).wf = true) (hn : n < maxLen)
    (h : ∀ W', Aw S w W' (L.set i (g, Blk.m P K E q (if (f kl).isSome then n else n + 1) (putf f kl v))) → wpList P ops Q rest a W') : wpList P ops Q (o :: rest) a W := by
  obtain ⟨D, hown, hs, hf⟩ := HA.owns hi
  obtain ⟨W2, hrun, hown2, hg⟩ := hown.update law ht hn hk (plainElem_int (H := Unit) he hv)
  have hD := (hown.isMap)
  have hT := (hown.tidy law)
  have hlt := hown.lt
  have hlt2 := hown2.lt
  have e2 : W2.heap[g]? = some W2.heap[g] := Array.getElem?_eq_getElem hlt2
  have hsz := size_put (k := kl) hT (.lit (.int q v))
  rw [(hf kl (law.key hk)).1, hs] at hsz
  have hO : MapO P K E q (Maps.size (D.put kl (.lit (.int q v)))) (putf f kl v) W2.heap[g] := by
    refine MapO.of_owns e2 hown2 (fun k2 hk2 => ?_)
    unfold putf
    by_cases e : k2 = kl
    · subst e
      rw [if_pos rfl]
      exact ⟨has_put_same hD hk2 _, atKey_put_same hD hk2 _ _⟩
    · rw [if_neg e, has_put_other e, atKey_put_other e]
      exact hf k2 hk2
  rw [hsz] at hO
  refine aw_sk hw hN ?_ (h W2 (HA.put (b' := Blk.m P K E q (if (f kl).isSome then n else n + 1) (putf f kl v)) hi ⟨hg.os, hg.tape, hg.output⟩ hg.size e2 hO (fun k hl hk => hg.block k hl (fun e => hk (Option.some.inj e)))))
  unfold execOp
  rw [ho]
  simp only [hm, hx, hy, Sem.run_bind, hrun]
  rfl
end
end Go.Proofs.YtlhkojnocconfaaDoor.Q

--@needs XAw
--@needs XAwSl
namespace Go.Proofs.YtlhkojnocconfaaDoor.Q
open Go.RowKit Go.Proofs.YtlhkojnocconfaaDoorW.PrintWords Go.Proofs.YtlhkojnocconfaaDoorW.PrintLast Go.Proofs.YtlhkojnocconfaaDoorW.PrintMore
attribute [local go_sem] max2_int min2_int max_two min_two max_three min_three max_four min_four   -- for this text's walks alone
set_option linter.unusedVariables false
set_option linter.unusedSimpArgs false

section
variable {P : Program} {ops : Array Oper} {rest : List Oper} {o : Oper} {a : Act} {Q : Exit → Act → World → Prop} {S : Nat → Prop} {w W : World} {L : List (Nat × Blk)}
end
theorem Own.apart {S : Nat → Prop} {w W : World} {L Lv : List (Nat × Blk)} {e size n ob : Nat} {b : Blk} {v : Value} {xs : List Value} (h : Own e size v n xs Lv) (HA : Aw S w W ((ob, b) :: L)) (hs : ∀ x ∈ Lv, x ∈ L) : ∀ g, v.ownBlock = some g → g ≠ ob := by
  intro g hg e
  subst e
  obtain ⟨_, ⟨rfl, _, rfl⟩ | ⟨g', cap', rfl, _, rfl⟩⟩ := h
  · cases hg
  · have e2 : g' = g := by simpa [Value.ownBlock] using hg
    subst e2
    have hm := hs _ (List.mem_singleton.2 rfl)
    have := HA.2.2
    rw [List.map_cons, List.nodup_cons] at this
    exact this.1 (List.mem_map.2 ⟨_, hm, rfl⟩)
end Go.Proofs.YtlhkojnocconfaaDoor.Q

--@needs XAw
--@needs XAwSl
namespace Go.Proofs.YtlhkojnocconfaaDoor.Q
open Go.RowKit Go.Proofs.YtlhkojnocconfaaDoorW.PrintWords Go.Proofs.YtlhkojnocconfaaDoorW.PrintLast Go.Proofs.YtlhkojnocconfaaDoorW.PrintMore
attribute [local go_sem] max2_int min2_int max_two min_two max_three min_three max_four min_four   -- for this text's walks alone
set_option linter.unusedVariables false
set_option linter.unusedSimpArgs false

section
variable {P : Program} {ops : Array Oper} {rest : List Oper} {o : Oper} {a : Act} {Q : Exit → Act → World → Prop} {S : Nat → Prop} {w W : World} {L : List (Nat × Blk)}
theorem aw_storeR (i : Nat) {t e : TypeId} {p x : Operand} {g j size cap : Nat} {xs : List Value} {v : Value} (hN : o.dst = none) (ho : o.op = .store t p x) (hp : a.eval p = .pointer (some ⟨g, j, none⟩)) (hx : a.eval x = v) (h1 : v.oneCell' = true) (HA : Aw S w W L)
    (hi : L[i]? = some (g, Blk.r e size cap xs)) (hw : Region.wanted o (yielded ops a.tmps) = true) (hj : decide (j < xs.length) = true) (ht : sizeB P t 1 = true) (h : ∀ W', Aw S w W' (L.set i (g, Blk.r e size cap (xs.set j v))) → wpList P ops Q rest a W') : wpList P ops Q (o :: rest) a W := by
  have hj := of_decide_eq_true hj
  have hcell := HA.rcell hi (List.getElem?_eq_getElem hj)
  obtain ⟨ob, hg, cur, rfl, hs1, hs2, hs3⟩ := HA.atp hi
  have h2 := blk_set (g := g) hg j v
  have hr : RowO e size cap (xs.set j v) (.cells (cur.setIfInBounds j v) e (0, 0)) := by
    refine ⟨_, rfl, by simpa using hs1, hs2, ?_⟩
    rw [List.length_set, Array.toList_setIfInBounds, List.take_set, hs3]
  refine aw_sk hw hN ?_ (h (W.setCell ⟨g, j, none⟩ v) (HA.put (b' := Blk.r e size cap (xs.set j v)) hi ⟨rfl, rfl, rfl⟩ (by simp [World.setCell]) h2 hr (fun k _ hk => Below.heap_setCell W ⟨g, j, none⟩ v k hk)))
  have hs : ∃ inf, P.info? t = some inf ∧ inf.size = 1 := by
    unfold sizeB at ht
    cases hq : P.info? t with
    | none => simp [hq] at ht
    | some inf => exact ⟨inf, rfl, by simpa [hq] using ht⟩
  obtain ⟨inf, hq, hs⟩ := hs
  have hcs : (a.eval x).cells = #[v] := by rw [hx]; cases v <;> simp_all [Value.oneCell', Value.cells]
  have hadd : (⟨g, j, none⟩ : Addr).add 0 = ⟨g, j, none⟩ := by unfold Addr.add; split <;> simp_all
  have hfr : W.frozen? ⟨g, j, none⟩ = false := blk_frozen hg j
  unfold execOp
  rw [ho]
  simp [hp, Instr.storeAt, Instr.sureAddr, storeVar, sizeOf, typeInfo, hq, hs, hcs, storeCells, Sem.run_bind, hadd, run_store P W _ _ _ h1, hcell, hfr]
theorem aw_loadR (i : Nat) {t e : TypeId} {x : Operand} {g j size cap : Nat} {xs : List Value} {v : Value} (ho : o.op = .load t x) (hx : a.eval x = .pointer (some ⟨g, j, none⟩)) (HA : Aw S w W L)
    (hi : L[i]? = some (g, Blk.r e size cap xs)) (hv : xs[j]? = some v) (hw : Region.wanted o (yielded ops a.tmps) = true) (ht : oneB P t = true) (h : wpList P ops Q rest (a.put o.dst v) W) : wpList P ops Q (o :: rest) a W :=
  aw_loadc ho hx hw (HA.rcell hi hv) ht h
theorem aw_next_any (i : Nat) {x : Operand} {g : Nat} {s : ByteArray} {pos : Nat} {n q : Nat} (ho : o.op = .next x true) (hx : a.eval x = .pointer (some ⟨g, 0, none⟩)) (hw : Region.wanted o (yielded ops a.tmps) = true) (HA : Aw S w W L)
    (hi : L[i]? = some (g, .i s pos)) (hp : pos < s.size) (hn : Utf8.decode s pos = (n, q))
    (h : ∀ W', Aw S w W' (L.set i (g, .i s (pos + q))) → wpList P ops Q rest (a.put o.dst (.tuple #[.bool true, .int .i64 pos, .int .i32 (n : Int)])) W') : wpList P ops Q (o :: rest) a W := by
  have e1 := Lib.iterAt_heap W g s pos (pos + q) (HA.ati hi)
  refine aw_ev hw ?_ (h (W.iterAt g s (pos + q)) (HA.put (b' := .i s (pos + q)) hi ⟨rfl, rfl, rfl⟩ (Nat.le_of_eq (Lib.iterAt_size _ _ _ _).symm) e1 rfl (fun k _ hk => Lib.iterAt_other W g k s (pos + q) hk)))
  unfold execOp
  rw [ho]
  simp only [hx, Sem.run_bind, Lib.run_next_any_at W g s pos o.type (HA.ati hi) hp, hn]
  rfl
end
/-- a rune and its bytes -/
theorem rune_at (s : ByteArray) (pos : Nat) (h : pos < s.size) : ∃ n q : Nat, Utf8.decode s pos = (n, q) ∧ 1 ≤ q ∧ ((s[pos]'h).toNat < 128 → n = (s[pos]'h).toNat ∧ q = 1) ∧ (128 ≤ (s[pos]'h).toNat → 128 ≤ n) ∧ n ≤ 2147483647 := by
  have hle := decode_le s pos
  by_cases ha : (s[pos]'h).toNat < 128
  · have := decode_ascii s pos h ha
    rw [this] at hle ⊢
    exact ⟨_, _, rfl, Nat.le_refl _, fun _ => ⟨rfl, rfl⟩, fun h => by omega, by omega⟩
  · have h2 := decode_high s pos h (by omega)
    exact ⟨_, _, rfl, h2.2, fun h => absurd h ha, fun _ => h2.1, hle⟩
theorem encode_size (n : Int) : (Utf8.encode n).size ≤ 4 := by
  unfold Utf8.encode
  dsimp only
  repeat' split
  all_goals first | (show 1 ≤ 4; omega) | (show 2 ≤ 4; omega) | (show 3 ≤ 4; omega) | (show 4 ≤ 4; omega)
theorem encode_ascii (c : UInt8) (h : c.toNat < 128) : Utf8.encode ((c.toNat : Nat) : Int) = ⟨#[c]⟩ := by
  have hv : Utf8.valid ((c.toNat : Nat) : Int) = true := by unfold Utf8.valid; simp; omega
  unfold Utf8.encode
  simp only [hv, if_true, Int.toNat_natCast, h]
  simp
end Go.Proofs.YtlhkojnocconfaaDoor.Q

--@needs XAw
--@needs XAwSl
namespace Go.Proofs.YtlhkojnocconfaaDoor.Q
open Go.RowKit Go.Proofs.YtlhkojnocconfaaDoorW.PrintWords Go.Proofs.YtlhkojnocconfaaDoorW.PrintLast Go.Proofs.YtlhkojnocconfaaDoorW.PrintMore
attribute [local go_sem] max2_int min2_int max_two min_two max_three min_three max_four min_four   -- for this text's walks alone
set_option linter.unusedVariables false
set_option linter.unusedSimpArgs false

/-- what holds behind one operation of a region: the rest of it, no other way out -/
def regQ (K : Act → World → Prop) : Exit → Act → World → Prop
  | .normal, a, w => K a w
  | _, _, _ => False
section
variable {P : Program} {ops : Array Oper} {o : Oper} {a : Act} {K : Act → World → Prop} {Q : Exit → Act → World → Prop} {E : Prop} {S : Nat → Prop} {w W : World} {L : List (Nat × Blk)}
theorem reg_end (h : K a W) : wpList P ops (regQ K) [] a W := h
theorem Aw.setD (h : Aw S w W L) {i g j : Nat} {T : TypeId} {l : List Value} (v : Value) (hi : L[i]? = some (g, .c T l)) : Aw S w (W.setCell ⟨g, j, none⟩ v) (L.set i (g, .c T (l.set j v))) := by
  have h2 := blk_set (g := g) (h.at hi) j v
  rw [List.setIfInBounds_toArray] at h2
  exact h.put (b' := .c T (l.set j v)) hi ⟨rfl, rfl, rfl⟩ (by simp [World.setCell]) h2 rfl (fun k _ hk => Below.heap_setCell W ⟨g, j, none⟩ v k hk)
end
end Go.Proofs.YtlhkojnocconfaaDoor.Q

--@needs XAw
--@needs XAwSl
namespace Go.Proofs.YtlhkojnocconfaaDoor.Q
open Go.RowKit Go.Proofs.YtlhkojnocconfaaDoorW.PrintWords Go.Proofs.YtlhkojnocconfaaDoorW.PrintLast Go.Proofs.YtlhkojnocconfaaDoorW.PrintMore
attribute [local go_sem] max2_int min2_int max_two min_two max_three min_three max_four min_four   -- for this text's walks alone
set_option linter.unusedVariables false
set_option linter.unusedSimpArgs false

section
variable {S0 : Nat → Prop} {w0 W W' : World} {L L' R : List (Nat × Blk)}
/-- the blocks of a list are given to a callee to write -/
abbrev inL (L : List (Nat × Blk)) : Nat → Prop := fun g => g ∈ L.map (·.1)
theorem Aw.givens (h : Aw S0 w0 W L) : Aw (inL L) W W L := ⟨Kp.refl _ _, fun x hx => ⟨(h.2.1 x hx).1, .inl (List.mem_map_of_mem hx)⟩, h.2.2⟩
theorem Aw.left (h : Aw S0 w0 W (L ++ R)) : Aw S0 w0 W L := h.sub (List.sublist_append_left _ _)
theorem Aw.right (h : Aw S0 w0 W (L ++ R)) : Aw S0 w0 W R := h.sub (List.sublist_append_right _ _)
theorem Aw.inL_mine (h : Aw S0 w0 W (L ++ R)) (k : Nat) (hk : inL L k) : S0 k ∨ w0.heap.size ≤ k := by
  obtain ⟨x, hx, rfl⟩ := List.mem_map.1 hk
  exact (h.2.1 x (List.mem_append_left _ hx)).2
theorem Aw.inL_other (h : Aw S0 w0 W (L ++ R)) (x : Nat × Blk) (hx : x ∈ R) : ¬ inL L x.1 := by
  intro hk
  have hd := h.2.2
  rw [List.map_append, List.nodup_append] at hd
  exact hd.2.2 x.1 hk x.1 (List.mem_map_of_mem hx) rfl
theorem Kp.frame (h : Aw S0 w0 W (L ++ R)) (k : Kp (inL L) W W') : Aw S0 w0 W' R := h.right.step k (fun x hx => h.inL_other x hx) (fun k hk => h.inL_mine k hk)
theorem Aw.frame (h : Aw S0 w0 W (L ++ R)) (k : Aw (inL L) W W' L') : Aw S0 w0 W' (L' ++ R) := by
  have hR := Kp.frame h k.1
  refine ⟨hR.1, ?_, ?_⟩
  · intro x hx
    rcases List.mem_append.1 hx with hx | hx
    · refine ⟨(k.2.1 x hx).1, ?_⟩
      rcases (k.2.1 x hx).2 with h2 | h2
      · exact h.inL_mine x.1 h2
      · exact .inr (Nat.le_trans h.1.size h2)
    · exact hR.2.1 x hx
  · rw [List.map_append, List.nodup_append]
    refine ⟨k.2.2, hR.2.2, ?_⟩
    intro y hy z hz e
    subst e
    obtain ⟨x, hx, rfl⟩ := List.mem_map.1 hy
    obtain ⟨u, hu, e⟩ := List.mem_map.1 hz
    rcases (k.2.1 x hx).2 with h2 | h2
    · exact h.inL_other u hu (e ▸ h2)
    · obtain ⟨o, ho, _⟩ := (h.right.2.1 u hu).1
      have := blk_lt ho
      omega
theorem Aw.congr {L2 : List (Nat × Blk)} (h : Aw S0 w0 W L) (e : L = L2) : Aw S0 w0 W L2 := e ▸ h
/-- what came in reads on: nothing of the first world's is written -/
theorem Kp.reads {α : Type} {d : Kd α} {A : Option Addr} {n : Nat} {xs : List α} (h : Kp noS w0 W) (hr : Kd.C d w0 A n xs) : Kd.C d W A n xs := Kd.C_below hr (h.below (fun _ hk => hk.elim))
/-- what a callee has made stands beside what the caller knows -/
theorem Aw.fresh (h : Aw S0 w0 W R) (k : Aw noS W W' L') : Aw S0 w0 W' (L' ++ R) :=
  Aw.frame (L := []) h ⟨k.1.mono (fun _ hk => hk.elim), fun x hx => ⟨(k.2.1 x hx).1, (k.2.1 x hx).2.elim (fun h => h.elim) .inr⟩, k.2.2⟩
end
end Go.Proofs.YtlhkojnocconfaaDoor.Q

--@needs XAw
--@needs XAwSl
namespace Go.Proofs.YtlhkojnocconfaaDoor.Q
open Go.RowKit Go.Proofs.YtlhkojnocconfaaDoorW.PrintWords Go.Proofs.YtlhkojnocconfaaDoorW.PrintLast Go.Proofs.YtlhkojnocconfaaDoorW.PrintMore
attribute [local go_sem] max2_int min2_int max_two min_two max_three min_three max_four min_four   -- for this text's walks alone
set_option linter.unusedVariables false
set_option linter.unusedSimpArgs false

theorem Aw.fromR {w W W' : World} {L : List (Nat × Blk)} {q : IntKind} {e : TypeId} {ok : Nat → Prop} {v : Value} {l : List Int} (HA : Aw noS w W L) (hb : Below W.heap.size W W') (hR : Kd.R (Kd.int q) e W' W.heap.size ok v l) : ∃ Lv, Own e 1 v l.length (l.map (Value.int q)) Lv ∧ Aw noS w W' (L ++ Lv) := by
  have HB := HA.call hb
  obtain ⟨hl, ⟨rfl, hn⟩ | ⟨g, cap, cur, rfl, hg, hh, hc, hm, hs, ht⟩⟩ := Kd.own_of_R hR
  · exact ⟨[], ⟨by simp, .inl ⟨rfl, hn, rfl⟩⟩, by simpa using HB⟩
  · refine ⟨[(g, Blk.r e 1 cap (l.map (Value.int q)))], ⟨by simp, .inr ⟨g, cap, rfl, hc, rfl⟩⟩, HB.1, ?_, ?_⟩
    · intro x hx
      rcases List.mem_append.1 hx with hx | hx
      · exact HB.2.1 x hx
      · obtain rfl := List.mem_singleton.1 hx
        refine ⟨⟨_, hh, cur, rfl, hs, hm, ?_⟩, .inr (Nat.le_trans HA.1.size hg)⟩
        have e1 : (encs (Value.int q) l).length = l.length := by rw [hl]; omega
        have e2 : encs (Value.int q) l = l.map (Value.int q) := rfl
        rw [← e2, e1]
        rw [Nat.mul_one] at ht
        exact ht
    · rw [List.map_append, List.nodup_append]
      refine ⟨HB.2.2, by simp, ?_⟩
      intro y hy z hz he
      obtain ⟨x, hx, rfl⟩ := List.mem_map.1 hy
      have e3 : z = g := by simpa using hz
      subst e3
      obtain ⟨o, ho, _⟩ := (HA.2.1 x hx).1
      have := blk_lt ho
      omega
end Go.Proofs.YtlhkojnocconfaaDoor.Q
