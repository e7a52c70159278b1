/- Words for a walk by hand: append of a slice that is read, nil let in. -/
import Derived.Test.YtaddjeegplfjiaaQx0
import Derived.Test.YtaddjeegplfjiaaAw
import Derived.Test.YtaddjeegplfjiaaAwSl
--@needs XAw
--@needs XAwSl
namespace Go.Proofs.Ytaddjeegplfjiaa.Q
open Go.RowKit Go.Proofs.YtaddjeegplfjiaaW.PrintWords Go.Proofs.YtaddjeegplfjiaaW.PrintLast Go.Proofs.YtaddjeegplfjiaaW.PrintMore
attribute [local go_sem] max2_int min2_int max_two min_two max_three min_three max_four min_four   -- for this text's walks alone
set_option linter.unusedVariables false
set_option linter.unusedSimpArgs false

theorem Kd.C_cells {q : IntKind} {W : World} {A : Option Addr} {l : List Int} (h : Kd.C (Kd.int q) W A l.length l) : (A = none → l.length = 0) ∧ ∀ ad, A = some ad → ∀ j u, (l.map (Value.int q))[j]? = some u → W.cell? (ad.add j) = some u := by
  refine ⟨fun hA => ?_, fun ad hA j u hu => ?_⟩
  · rcases Nat.eq_zero_or_pos l.length with h0 | h0
    · exact h0
    · obtain ⟨ad, h1, _⟩ := h.2.2 h0
      rw [hA] at h1; cases h1
  · rw [List.getElem?_map, Option.map_eq_some_iff] at hu
    obtain ⟨x, hx, rfl⟩ := hu
    have hj : j < l.length := (List.getElem?_eq_some_iff.1 hx).1
    obtain ⟨ad2, e2, hc⟩ := Kd.at_int h (j : Int) (by omega) (by omega)
    rw [hA] at e2
    injection e2 with e2
    subst e2
    rw [Int.toNat_natCast] at hc
    rw [hc]
    congr 2
    unfold rd
    rw [Int.toNat_natCast, List.getD_eq_getElem?_getD, hx]
    rfl
section
variable {P : Program} {ops : Array Oper} {rest : List Oper} {o : Oper} {a : Act} {Q : Exit → Act → World → Prop} {S : Nat → Prop} {w W : World} {L Lv : List (Nat × Blk)}
/-- append(s, x): s an own slice, x any slice that is read -/
theorem aw_append_any (k : Nat) {t e : TypeId} {z : Value} {size bytes : Nat} {s x : Operand} {v : Value} {n : Nat} {xs : List Value} (hd : L.drop k = Lv)
    (ht : P.underlying t = some (.slice e)) (hi : (P.info? e).map (fun i => (i.zero, i.size, i.bytes)) = some (some z, size, bytes)) (hz : z.cells.size = size) (h0 : 0 < size)
    (ho : o.op = .call { callee := .builtin .append, args := #[s, x], argTypes := #[t, t] }) (hown : Own e size v n xs Lv) (hs : a.eval s = v) (hw : Region.wanted o (yielded ops a.tmps) = true) (HA : Aw S w W L)
    {A : Option Addr} {m c : Nat} {news : List Value} (hx : a.eval x = .slice A m c) (hl : news.length = m * size) (hnews : (A = none → m = 0) ∧ ∀ ad, A = some ad → ∀ j u, news[j]? = some u → W.cell? (ad.add j) = some u) (h1 : ∀ u ∈ news, u.oneCell' = true)
    (h63 : n + m ≤ maxLen) (hbytes : (n + m) * bytes ≤ 140737488355328)
    (h : ∀ v' W' Lv', Own e size v' (n + m) (xs ++ news) Lv' → Aw S w W' (L.take k ++ Lv') → wpList P ops Q rest (a.put o.dst v') W') : wpList P ops Q (o :: rest) a W := by
  cases A with
  | some ad => exact aw_append_core k hd ht hi hz h0 ho hown hs hw HA hx hl (hnews.2 ad rfl) h1 h63 hbytes h
  | none =>
    have hm := hnews.1 rfl
    subst hm
    obtain rfl : news = [] := List.eq_nil_of_length_eq_zero (by omega)
    obtain ⟨inf, hi, hinf⟩ := Option.map_eq_some_iff.1 hi
    simp only [Prod.mk.injEq] at hinf
    obtain ⟨e1, e2, e3⟩ := hinf
    have hLe : L.take k ++ Lv = L := by rw [← hd, List.take_append_drop]
    have hr : (Builtin.append_ #[t, t] o.type #[v, .slice none 0 c]).run P W = .ok v W := by
      rcases hown.2 with ⟨rfl, rfl, _⟩ | ⟨g, cap, rfl, hnc, _⟩
      · simp [Builtin.append_, run_underlying ht, sizeOf, typeInfo, hi, Builtin.lenOf, Builtin.firstCells]
      · simp [Builtin.append_, run_underlying ht, sizeOf, typeInfo, hi, Builtin.lenOf, Builtin.firstCells, hnc, storeCells]
    refine aw_ev hw (w1 := W) (v := v) ?_ (h v W Lv (by simpa using hown) (by rw [hLe]; exact HA))
    unfold execOp
    simp only [ho, resolve, invoke, builtin, Sem.run_bind, Sem.run_pure, Result.andThen_ok, List.map_toArray, List.map_cons, List.map_nil, hs, hx, hr]
theorem ints_one {q : IntKind} (l : List Int) : ∀ u ∈ l.map (Value.int q), u.oneCell' = true := by
  intro u hu
  obtain ⟨x, _, rfl⟩ := List.mem_map.1 hu
  rfl
end
theorem own_form {e size n : Nat} {v : Value} {xs : List Value} {Lv : List (Nat × Blk)} (h : Own e size v n xs Lv) : ∃ A c, v = .slice A n c := by
  obtain ⟨_, ⟨rfl, hn, _⟩ | ⟨g, cap, rfl, _, _⟩⟩ := h
  · exact ⟨none, 0, by rw [hn]⟩
  · exact ⟨_, _, rfl⟩
theorem own_readsA {w W : World} {L : List (Nat × Blk)} {q : IntKind} {e : TypeId} {A : Option Addr} {c : Nat} {l : List Int} {Lv : List (Nat × Blk)} (h : Own e 1 (.slice A l.length c) l.length (l.map (Value.int q)) Lv) (HA : Aw noS w W L) (hs : ∀ x ∈ Lv, x ∈ L) : Kd.C (Kd.int q) W A l.length l ∧ l.length ≤ c := by
  have := Kd.R_reads' (h.kdR (ok := fun _ => True) HA hs (fun _ _ => trivial))
  exact ⟨this.2.2, this.2.1⟩
section
variable {P : Program} {ops : Array Oper} {rest : List Oper} {o : Oper} {a : Act} {Q : Exit → Act → World → Prop} {S : Nat → Prop} {w W : World} {L1 : List (Nat × Blk)}
/-- append([]T{}, x...): the literal is the newest block -/
theorem aw_append_lit0 {t e : TypeId} {z : Value} {bytes : Nat} {s x : Operand} {g : Nat}
    (ht : P.underlying t = some (.slice e)) (hi : (P.info? e).map (fun i => (i.zero, i.size, i.bytes)) = some (some z, 1, bytes)) (hz : z.cells.size = 1)
    (ho : o.op = .call { callee := .builtin .append, args := #[s, x], argTypes := #[t, t] }) (hs : a.eval s = .slice (some ⟨g, 0, none⟩) 0 0) (hw : Region.wanted o (yielded ops a.tmps) = true) (HA : Aw S w W ((g, .c e []) :: L1))
    {A : Option Addr} {m c : Nat} {news : List Value} (hx : a.eval x = .slice A m c) (hl : news.length = m) (hnews : (A = none → m = 0) ∧ ∀ ad, A = some ad → ∀ j u, news[j]? = some u → W.cell? (ad.add j) = some u) (h1 : ∀ u ∈ news, u.oneCell' = true)
    (h63 : m ≤ maxLen) (hbytes : m * bytes ≤ 140737488355328)
    (h : ∀ v' W' Lv', Own e 1 v' m news Lv' → Aw S w W' (L1 ++ Lv') → wpList P ops Q rest (a.put o.dst v') W') : wpList P ops Q (o :: rest) a W := by
  have HB := HA.litLast (size := 1) (n := 0) rfl (Nat.zero_le _)
  refine aw_append_any L1.length (Lv := [(g, Blk.r e 1 0 [])]) (by simp) ht hi hz (by decide) ho ⟨rfl, .inr ⟨g, 0, rfl, Nat.le_refl _, rfl⟩⟩ hs hw HB hx (by omega) hnews h1 (by omega) (by simpa using hbytes) (fun v' W' Lv' hO hA => h v' W' Lv' ?_ (by simpa using hA))
  rw [Nat.zero_add, List.nil_append] at hO
  exact hO
end
end Go.Proofs.Ytaddjeegplfjiaa.Q
