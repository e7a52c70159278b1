/- Words for a walk by hand: slices that the call has made (by append), each told by its cells. -/
import Derived.Test.YtaddjeegplfjiaaQx0
import Derived.Test.YtaddjeegplfjiaaAw
--@needs XAw
import Derived.Maps.AppendAt
namespace Go.Proofs.Ytaddjeegplfjiaa.Q
open Go.RowKit Go.Proofs.YtaddjeegplfjiaaW.PrintWords Go.Proofs.YtaddjeegplfjiaaW.PrintLast Go.Proofs.YtaddjeegplfjiaaW.PrintMore
attribute [local go_sem] max2_int min2_int max_two min_two max_three min_three max_four min_four   -- for this text's walks alone
set_option linter.unusedVariables false
set_option linter.unusedSimpArgs false

/-- a row with room for cap elements of size cells each, the first of them xs -/
def RowO (e size cap : Nat) (xs : List Value) (o : Obj) : Prop := ∃ cur, o = .cells cur e (0, 0) ∧ cur.size = cap * size ∧ cap ≤ maxLen ∧ cur.toList.take xs.length = xs
abbrev Blk.r (e size cap : Nat) (xs : List Value) : Blk := .p (RowO e size cap xs)
/-- the slice value v has n elements, the cells xs; Lv is its block, if it has one -/
def Own (e size : Nat) (v : Value) (n : Nat) (xs : List Value) (Lv : List (Nat × Blk)) : Prop :=
  xs.length = n * size ∧ ((v = .slice none 0 0 ∧ n = 0 ∧ Lv = []) ∨ ∃ g cap, v = .slice (some ⟨g, 0, none⟩) n cap ∧ n ≤ cap ∧ Lv = [(g, Blk.r e size cap xs)])
section
variable {e size n : Nat} {v : Value} {xs : List Value} {Lv L L0 : List (Nat × Blk)} {S : Nat → Prop} {w W : World}
theorem Own.nil (e size : Nat) : Own e size (.slice none 0 0) 0 [] [] := ⟨by simp, .inl ⟨rfl, rfl, rfl⟩⟩
theorem Aw.getL {g : Nat} {b : Blk} (h : Aw S w W L) (hm : (g, b) ∈ L) : (∃ o, W.heap[g]? = some o ∧ b.sat o) ∧ (S g ∨ w.heap.size ≤ g) := h.2.1 (g, b) hm
theorem Own.row (h : Own e size v n xs Lv) (HA : Aw S w W L) (hs : ∀ x ∈ Lv, x ∈ L) : W.ownsRow 0 e size v n xs := by
  obtain ⟨hl, ⟨rfl, rfl, rfl⟩ | ⟨g, cap, rfl, hc, rfl⟩⟩ := h
  · exact ⟨hl, .inl ⟨rfl, rfl⟩⟩
  · obtain ⟨⟨o, ho, cur, rfl, h1, h2, h3⟩, _⟩ := HA.getL (hs _ (List.mem_singleton.2 rfl))
    exact ⟨hl, .inr ⟨g, cap, cur, rfl, Nat.zero_le _, ho, hc, h2, h1, by rw [← hl]; exact h3⟩⟩
/-- each cell of an own slice -/
theorem Own.cell (h : Own e size v n xs Lv) (HA : Aw S w W L) (hs : ∀ x ∈ Lv, x ∈ L) {j : Nat} {u : Value} (hu : xs[j]? = some u) : ∃ g cap, v = .slice (some ⟨g, 0, none⟩) n cap ∧ W.cell? ⟨g, j, none⟩ = some u := by
  have hj : j < xs.length := (List.getElem?_eq_some_iff.1 hu).1
  obtain ⟨hl, ⟨rfl, rfl, rfl⟩ | ⟨g, cap, rfl, hc, rfl⟩⟩ := h
  · rw [Nat.zero_mul] at hl; omega
  · obtain ⟨⟨o, ho, cur, rfl, h1, h2, h3⟩, _⟩ := HA.getL (hs _ (List.mem_singleton.2 rfl))
    refine ⟨g, cap, rfl, ?_⟩
    rw [cell_of_row W g j cur e (0, 0) ho]
    rw [← h3, List.getElem?_take_of_lt hj] at hu
    simpa using hu
end
section
variable {S : Nat → Prop} {w W : World} {L : List (Nat × Blk)}
theorem Aw.rcell {i g e size cap j : Nat} {xs : List Value} {u : Value} (h : Aw S w W L) (hi : L[i]? = some (g, Blk.r e size cap xs)) (hu : xs[j]? = some u) : W.cell? ⟨g, j, none⟩ = some u := by
  obtain ⟨o, ho, cur, rfl, h1, h2, h3⟩ := h.atp hi
  have hj : j < xs.length := (List.getElem?_eq_some_iff.1 hu).1
  rw [cell_of_row W g j cur e (0, 0) ho]
  rw [← h3, List.getElem?_take_of_lt hj] at hu
  simpa using hu
theorem RowO.lit (e size n : Nat) (l : List Value) (hl : l.length = n * size) (hm : n ≤ maxLen) : RowO e size n l (.cells l.toArray e (0, 0)) := ⟨_, rfl, by simpa using hl, hm, by simp⟩
theorem Aw.perm {L' : List (Nat × Blk)} (h : Aw S w W L) (hp : L.Perm L') : Aw S w W L' := ⟨h.1, fun x hx => h.2.1 x (hp.mem_iff.2 hx), ((hp.map _).nodup_iff).1 h.2.2⟩
/-- the literal row ahead turns into an own slice's behind -/
theorem Aw.litLast {g e size n : Nat} {l : List Value} (h : Aw S w W ((g, .c e l) :: L)) (hl : l.length = n * size) (hm : n ≤ maxLen) : Aw S w W (L ++ [(g, Blk.r e size n l)]) := by
  have h2 : Aw S w W ((g, Blk.r e size n l) :: L) := by
    refine ⟨h.1, fun x hx => ?_, h.2.2⟩
    rcases List.mem_cons.1 hx with rfl | hx
    · obtain ⟨⟨o, ho, hb⟩, hm2⟩ := h.2.1 (g, .c e l) (List.mem_cons_self)
      exact ⟨⟨o, ho, by rw [show o = _ from hb]; exact RowO.lit e size n l hl hm⟩, hm2⟩
    · exact h.2.1 x (List.mem_cons_of_mem _ hx)
  exact h2.perm (List.perm_append_comm (l₁ := [(g, Blk.r e size n l)]) (l₂ := L))
end
section
variable {P : Program} {ops : Array Oper} {rest : List Oper} {o : Oper} {a : Act} {Q : Exit → Act → World → Prop} {S : Nat → Prop} {w W : World} {L Lv : List (Nat × Blk)}
theorem Aw.shrink {L L' : List (Nat × Blk)} (h : Aw S w W L) (hs : L'.Sublist L) : Aw S w W L' := h.sub hs
theorem aw_append_core (k : Nat) {t e : TypeId} {z : Value} {size bytes : Nat} {s x : Operand} {v : Value} {n : Nat} {xs : List Value} (hd : L.drop k = Lv)
    (ht : P.underlying t = some (.slice e)) (hi : (P.info? e).map (fun i => (i.zero, i.size, i.bytes)) = some (some z, size, bytes)) (hz : z.cells.size = size) (h0 : 0 < size)
    (ho : o.op = .call { callee := .builtin .append, args := #[s, x], argTypes := #[t, t] }) (hown : Own e size v n xs Lv) (hs : a.eval s = v) (hw : Region.wanted o (yielded ops a.tmps) = true) (HA : Aw S w W L)
    {ad : Addr} {m c : Nat} {news : List Value} (hx : a.eval x = .slice (some ad) m c) (hl : news.length = m * size) (hnews : ∀ j u, news[j]? = some u → W.cell? (ad.add j) = some u) (h1 : ∀ u ∈ news, u.oneCell' = true)
    (h63 : n + m ≤ maxLen) (hbytes : (n + m) * bytes ≤ 140737488355328)
    (h : ∀ v' W' Lv', Own e size v' (n + m) (xs ++ news) Lv' → Aw S w W' (L.take k ++ Lv') → wpList P ops Q rest (a.put o.dst v') W') : wpList P ops Q (o :: rest) a W := by
  obtain ⟨inf, hi, hinf⟩ := Option.map_eq_some_iff.1 hi
  simp only [Prod.mk.injEq] at hinf
  obtain ⟨e1, e2, e3⟩ := hinf
  have hLs : ∀ y ∈ Lv, y ∈ L := fun y hy => List.mem_of_mem_drop (hd ▸ hy)
  obtain ⟨v', W', hr, h2, h3, h4, h5⟩ := run_append_own_at (P := P) W 0 t o.type e inf z size bytes ht hi e1 e2 e3 hz h0 v n xs (hown.row HA hLs) ad m c news hl hnews h1 h63 hbytes (Nat.zero_le _)
  have hLe : L.take k ++ Lv = L := by rw [← hd, List.take_append_drop]
  have hnd := HA.2.2
  rw [← hLe, List.map_append, List.nodup_append] at hnd
  have hnotv : ∀ y ∈ L.take k, ∀ g, v.ownBlock = some g → y.1 ≠ g := by
    intro y hy g hg he
    obtain ⟨_, ⟨rfl, _, rfl⟩ | ⟨g', cap, rfl, _, rfl⟩⟩ := hown
    · simp [Value.ownBlock] at hg
    · have e4 : g' = g := by simpa [Value.ownBlock] using hg
      subst e4
      exact hnd.2.2 y.1 (List.mem_map_of_mem hy) g' (by simp) he
  have hvS : ∀ g, v.ownBlock = some g → S g ∨ w.heap.size ≤ g := by
    intro g hg
    obtain ⟨_, ⟨rfl, _, rfl⟩ | ⟨g', cap, rfl, _, rfl⟩⟩ := hown
    · simp [Value.ownBlock] at hg
    · have e4 : g' = g := by simpa [Value.ownBlock] using hg
      subst e4
      exact (HA.getL (hLs _ (List.mem_singleton.2 rfl))).2
  have hK : Kp S w W' := HA.1.trans (S2 := fun g => v.ownBlock = some g) ⟨h3.os, h3.tape, h3.output, h3.size, fun i hi' hn => h3.block i hi' (fun he => hn he.symm)⟩ hvS
  have hkeep : ∀ y ∈ L.take k, (∃ o, W'.heap[y.1]? = some o ∧ y.2.sat o) ∧ (S y.1 ∨ w.heap.size ≤ y.1) := by
    intro y hy
    obtain ⟨⟨o2, ho2, hb2⟩, hm⟩ := HA.2.1 y (List.mem_of_mem_take hy)
    exact ⟨⟨o2, (h3.block y.1 (blk_lt ho2) (fun he => hnotv y hy y.1 he.symm rfl)).trans ho2, hb2⟩, hm⟩
  refine aw_ev hw (w1 := W') (v := v') ?_ ?_
  · unfold execOp
    simp only [ho, resolve, invoke, builtin, Sem.run_bind, Sem.run_pure, Result.andThen_ok, List.map_toArray, List.map_cons, List.map_nil, hs, hx, hr]
  · obtain ⟨hlen, ⟨rfl, hn0⟩ | ⟨g, cap, cur, rfl, _, hg, hnc, hcm, hsz, htk⟩⟩ := h2
    · refine h _ _ [] ⟨hlen, .inl ⟨rfl, hn0, rfl⟩⟩ ?_
      rw [List.append_nil]
      exact ⟨hK, hkeep, hnd.1⟩
    · refine h _ _ [(g, Blk.r e size cap (xs ++ news))] ⟨hlen, .inr ⟨g, cap, rfl, hnc, rfl⟩⟩ ⟨hK, ?_, ?_⟩
      · intro y hy
        rcases List.mem_append.1 hy with hy | hy
        · exact hkeep y hy
        · obtain rfl := List.mem_singleton.1 hy
          refine ⟨⟨_, hg, cur, rfl, hsz, hcm, by rw [hlen]; exact htk⟩, ?_⟩
          rcases h5 with h5 | h5
          · exact hvS g (by rw [← h5]; rfl)
          · have e4 : g = W.heap.size := by simpa [Value.ownBlock] using h5
            exact .inr (by rw [show (g, Blk.r e size cap (xs ++ news)).1 = g from rfl, e4]; exact HA.1.size)
      · rw [List.map_append, List.nodup_append]
        refine ⟨hnd.1, by simp, ?_⟩
        intro y hy y2 hy2 he
        obtain ⟨z1, hz1, rfl⟩ := List.mem_map.1 hy
        have e5 : y2 = g := by simpa using hy2
        subst e5
        rcases h5 with h5 | h5
        · exact hnotv z1 hz1 y2 (by rw [← h5]; rfl) he
        · have e4 : y2 = W.heap.size := by simpa [Value.ownBlock] using h5
          obtain ⟨o2, ho2, _⟩ := (HA.2.1 z1 (List.mem_of_mem_take hz1)).1
          have := blk_lt ho2
          omega
/-- append(s, x): the row of x is the block at place i of L (a literal) -/
theorem aw_append (k i : Nat) {t e T : TypeId} {z : Value} {size bytes : Nat} {s x : Operand} {v : Value} {n g : Nat} {xs news : List Value} (hd : L.drop k = Lv)
    (ht : P.underlying t = some (.slice e)) (hi : (P.info? e).map (fun i => (i.zero, i.size, i.bytes)) = some (some z, size, bytes)) (hz : z.cells.size = size) (h0 : 0 < size)
    (ho : o.op = .call { callee := .builtin .append, args := #[s, x], argTypes := #[t, t] }) (hown : Own e size v n xs Lv) (hs : a.eval s = v) (hw : Region.wanted o (yielded ops a.tmps) = true) (HA : Aw S w W L)
    {m c : Nat} (hx : a.eval x = .slice (some ⟨g, 0, none⟩) m c) (hg : L[i]? = some (g, .c T news)) (hl : news.length = m * size) (h1 : news.all (·.oneCell') = true)
    (h63 : n + m ≤ maxLen) (hbytes : (n + m) * bytes ≤ 140737488355328)
    (h : ∀ v' W' Lv', Own e size v' (n + m) (xs ++ news) Lv' → Aw S w W' (L.take k ++ Lv') → wpList P ops Q rest (a.put o.dst v') W') : wpList P ops Q (o :: rest) a W :=
  aw_append_core k hd ht hi hz h0 ho hown hs hw HA hx hl (fun j u hu => by rw [Addr.add_mid, Nat.zero_add]; exact HA.cell hg hu) (by simpa using h1) h63 hbytes h
/-- append(lit, ys...): lit a literal row (the newest block), ys an own slice whose block is at place i behind it -/
theorem aw_append_lit (i : Nat) {t e : TypeId} {z : Value} {bytes : Nat} {s x : Operand} {n m c g g2 cap : Nat} {xs ys : List Value} {L1 : List (Nat × Blk)}
    (ht : P.underlying t = some (.slice e)) (hi : (P.info? e).map (fun i => (i.zero, i.size, i.bytes)) = some (some z, 1, bytes)) (hz : z.cells.size = 1)
    (ho : o.op = .call { callee := .builtin .append, args := #[s, x], argTypes := #[t, t] }) (hs : a.eval s = .slice (some ⟨g, 0, none⟩) n n) (hw : Region.wanted o (yielded ops a.tmps) = true) (HA : Aw S w W ((g, .c e xs) :: L1)) (hxs : xs.length = n)
    (hx : a.eval x = .slice (some ⟨g2, 0, none⟩) m c) (hg : L1[i]? = some (g2, Blk.r e 1 cap ys)) (hl : ys.length = m) (h1 : ∀ u ∈ ys, u.oneCell' = true)
    (h63 : n + m ≤ maxLen) (hbytes : (n + m) * bytes ≤ 140737488355328)
    (h : ∀ v' W' Lv', Own e 1 v' (n + m) (xs ++ ys) Lv' → Aw S w W' (L1 ++ Lv') → wpList P ops Q rest (a.put o.dst v') W') : wpList P ops Q (o :: rest) a W := by
  have hnm : n ≤ maxLen := by omega
  have HB := HA.litLast (size := 1) (n := n) (by omega) hnm
  have h2 : (L1 ++ [(g, Blk.r e 1 n xs)])[i]? = some (g2, Blk.r e 1 cap ys) := by
    rw [List.getElem?_append_left (List.getElem?_eq_some_iff.1 hg).1]; exact hg
  refine aw_append_core L1.length (Lv := [(g, Blk.r e 1 n xs)]) (by simp) ht hi hz (by decide) ho ⟨by omega, .inr ⟨g, n, rfl, Nat.le_refl _, rfl⟩⟩ hs hw HB hx (by omega) (fun j u hu => by rw [Addr.add_mid, Nat.zero_add]; exact HB.rcell h2 hu) h1 h63 hbytes (fun v' W' Lv' hO hA => h v' W' Lv' hO (by simpa using hA))
end
section
variable {e size n : Nat} {v : Value} {xs : List Value} {Lv L : List (Nat × Blk)} {w W : World}
theorem Own.rowB (h : Own e size v n xs Lv) (HA : Aw noS w W L) (hs : ∀ x ∈ Lv, x ∈ L) : W.ownsRow w.heap.size e size v n xs := by
  obtain ⟨hl, ⟨rfl, rfl, rfl⟩ | ⟨g, cap, rfl, hc, rfl⟩⟩ := h
  · exact ⟨hl, .inl ⟨rfl, rfl⟩⟩
  · obtain ⟨⟨o, ho, cur, rfl, h1, h2, h3⟩, hm⟩ := HA.getL (hs _ (List.mem_singleton.2 rfl))
    exact ⟨hl, .inr ⟨g, cap, cur, rfl, hm.elim (fun h => h.elim) id, ho, hc, h2, h1, by rw [← hl]; exact h3⟩⟩
theorem Own.kdR {q : IntKind} {l : List Int} {ok : Nat → Prop} (h : Own e 1 v l.length (l.map (Value.int q)) Lv) (HA : Aw noS w W L) (hs : ∀ x ∈ Lv, x ∈ L) (hok : ∀ k, v.ownBlock = some k → ok k) : Kd.R (Kd.int q) e W w.heap.size ok v l :=
  Kd.R_of_own (enc := Value.int q) (h.rowB HA hs) hok
/-- a literal row that is full -/
theorem Own.full {g : Nat} (hl : xs.length = n * size) : Own e size (.slice (some ⟨g, 0, none⟩) n n) n xs [(g, Blk.r e size n xs)] := ⟨hl, .inr ⟨g, n, rfl, Nat.le_refl _, rfl⟩⟩
end
end Go.Proofs.Ytaddjeegplfjiaa.Q
