/- pos.Of: the place of a spot: a loop over the lines. -/
import Derived.Test.YtnpkokpkakhnaaaDoorQx0
import Derived.Test.YtnpkokpkakhnaaaDoorHposAt
import Derived.Test.YtnpkokpkakhnaaaDoorHposLines
--@needs XHposAt
namespace Go.Proofs.YtnpkokpkakhnaaaDoor.Q
open Go.RowKit Go.Proofs.YtnpkokpkakhnaaaDoorW.PrintWords Go.Proofs.YtnpkokpkakhnaaaDoorW.PrintLast Go.Proofs.YtnpkokpkakhnaaaDoorW.PrintMore
attribute [local go_sem] max2_int min2_int max_two min_two max_three min_three max_four min_four   -- for this text's walks alone
set_option linter.unusedVariables false
set_option linter.unusedSimpArgs false

open Go.Shelf
attribute [local go_sem] Oper.semAt_some
/-- the place of a spot, n lines having come -/
def ofL (l c : Int) : List (Nat × Nat) → Nat → Int × Bool
  | [], _ => (0, false)
  | x :: r, n => if ((n + 1 : Nat) : Int) = l then (if c < 1 ∨ c > wrap64 (wrap64 ((x.2 : Int) - x.1) + 1) then (0, false) else (wrap64 (wrap64 ((x.1 : Int) + c) - 1), true)) else ofL l c r (n + 1)
theorem ofL_miss (l c : Int) : ∀ (pre rest : List (Nat × Nat)) (n : Nat), (∀ k : Nat, k < pre.length → ((n + k + 1 : Nat) : Int) ≠ l) → ofL l c (pre ++ rest) n = ofL l c rest (n + pre.length)
  | [], rest, n, _ => rfl
  | x :: pre, rest, n, h => by
    have hx := h 0 (by simp)
    rw [List.cons_append, ofL, if_neg (by simpa using hx), ofL_miss l c pre rest (n + 1) (fun k hk => by have := h (k + 1) (by simpa using hk); rw [show n + 1 + k + 1 = n + (k + 1) + 1 by omega]; exact this)]
    congr 1
    simp only [List.length_cons]
    omega
def pos_Of.f (a0 : ByteArray) (a1_0 : Int) (a1_1 : Int) : Option (Int × Bool) := if a0.size ≤ 1000000 then some (ofL a1_0 a1_1 (linesOf a0) 0) else none
theorem of_hit (W : World) (b : Nat) (n : Int) (o : Bool) {u0 u2 : Value} (h0 : W.cell? ⟨b + 1, 0, none⟩ = some u0) (h2 : W.cell? ⟨b + 1 + 1, 0, none⟩ = some u2) :
    (((W.setCell ⟨b + 1, 0, none⟩ (.int .i64 n)).setCell ⟨b + 1 + 1, 0, none⟩ (.bool o)).cell? ⟨b + 1, 0, none⟩ = some (.int .i64 n)) ∧ (((W.setCell ⟨b + 1, 0, none⟩ (.int .i64 n)).setCell ⟨b + 1 + 1, 0, none⟩ (.bool o)).cell? ⟨b + 1 + 1, 0, none⟩ = some (.bool o)) := by
  refine ⟨?_, ?_⟩
  · rw [World.cell?_setCell_other _ _ _ _ (by simp), World.cell?_setCell_same' _ _ _ (by rw [h0]; rfl)]
  · rw [World.cell?_setCell_same' _ _ _ (by rw [World.cell?_setCell_other _ _ _ _ (by simp), h2]; rfl)]
def pOfI (w : World) (l c : Int) (pre : List (Nat × Nat)) (W : World) : Prop := ((∀ k : Nat, k < pre.length → ((0 + k + 1 : Nat) : Int) ≠ l) ∧ (W.cell? ⟨w.heap.size, 0, none⟩ = some (.int .i64 l) ∧ W.cell? ⟨w.heap.size, 1, none⟩ = some (.int .i64 c)) ∧ (W.cell? ⟨w.heap.size + 1, 0, none⟩ = some (.int .i64 0) ∧ W.frozen? ⟨w.heap.size + 1, 0, none⟩ = false) ∧ (W.cell? ⟨w.heap.size + 1 + 1, 0, none⟩ = some (.bool false) ∧ W.frozen? ⟨w.heap.size + 1 + 1, 0, none⟩ = false) ∧ (W.cell? ⟨w.heap.size + 1 + 1 + 1, 0, none⟩ = some (.int .i64 pre.length) ∧ W.frozen? ⟨w.heap.size + 1 + 1 + 1, 0, none⟩ = false)) ∧ Below w.heap.size w W
def pOfX (w : World) (l cl : Int) (c : Code) (pre : List (Nat × Nat)) (W : World) : Prop := (c = .ret ∧ (∃ pre' x, pre = pre' ++ [x] ∧ (∀ k : Nat, k < pre'.length → ((0 + k + 1 : Nat) : Int) ≠ l) ∧ ((pre'.length + 1 : Nat) : Int) = l ∧ W.cell? ⟨w.heap.size + 1, 0, none⟩ = some (.int .i64 (ofL l cl [x] pre'.length).1) ∧ W.cell? ⟨w.heap.size + 1 + 1, 0, none⟩ = some (.bool (ofL l cl [x] pre'.length).2))) ∧ Below w.heap.size w W
set_option maxRecDepth 100000 in
set_option maxHeartbeats 4000000 in
theorem pos_Of.in_ (F : Fence) (n : Nat) (h7 : F.fn 9) (h13 : F.fn 13) (h16 : F.fn 16) (hro : F.round = none) (hn : 3 ≤ n) (a0 : ByteArray) (l c : Int) (r1 : Int) (r2 : Bool) (hs : a0.size ≤ 1000000) (h : ofL l c (linesOf a0) 0 = (r1, r2)) (w : World) :
    CallsIn F n Tryd.prog 9 #[.string a0, .agg #[.int .i64 l, .int .i64 c]] w fun e w' => e = .returned (.tuple #[.int .i64 r1, .bool r2]) ∧ Below w.heap.size w w' := by
  have h1 : 1 ≤ n := by omega
  refine callsIn_of_wp_marks Tryd.func9 rfl h7 ?_ hro
  simp only [Tryd.ntmps9, List.size_toArray, List.length_cons, List.length_nil, Nat.reduceAdd, Nat.reduceSub, Array.replicate_succ, Array.replicate_zero, List.push_toArray, List.append_toArray, List.nil_append, List.cons_append]
  gi_wp2_with (gi_at_call 13; refine (plines_in F (n - 1) h13 hro _ _).mono ?_; rintro e w' ⟨rfl, rfl⟩)
  have q0 := pcell_two (World.alloc_heap_new w (.cells #[.int .i64 l, .int .i64 c] 23))
  have q1 := pcell_new (w.alloc (.cells #[.int .i64 l, .int .i64 c] 23)) (.int .i64 0) 3
  have q2 := pcell_new ((w.alloc (.cells #[.int .i64 l, .int .i64 c] 23)).alloc (.cells #[.int .i64 0] 3)) (.bool false) 4
  have q3 := pcell_new (((w.alloc (.cells #[.int .i64 l, .int .i64 c] 23)).alloc (.cells #[.int .i64 0] 3)).alloc (.cells #[.bool false] 4)) (.int .i64 0) 3
  have q4 := pcell_new ((((w.alloc (.cells #[.int .i64 l, .int .i64 c] 23)).alloc (.cells #[.int .i64 0] 3)).alloc (.cells #[.bool false] 4)).alloc (.cells #[.int .i64 0] 3)) (.string a0) 9
  simp only [World.size_alloc] at q1 q2 q3 q4
  obtain ⟨W0, hW0⟩ : ∃ W0, ((((w.alloc (.cells #[.int .i64 l, .int .i64 c] 23)).alloc (.cells #[.int .i64 0] 3)).alloc (.cells #[.bool false] 4)).alloc (.cells #[.int .i64 0] 3)).alloc (.cells #[.string a0] 9) = W0 := ⟨_, rfl⟩
  have hB0 : Below w.heap.size w W0 := by rw [← hW0]; exact (((((Below.refl _ w).alloc (Nat.le_refl _) _).alloc (by simp) _).alloc (by simp; omega) _).alloc (by simp; omega) _).alloc (by simp; omega) _
  have hsz : W0.heap.size = w.heap.size + 5 := by rw [← hW0]; simp [World.size_alloc]
  have hI0 : ((W0.cell? ⟨w.heap.size, 0, none⟩ = some (.int .i64 l) ∧ W0.cell? ⟨w.heap.size, 1, none⟩ = some (.int .i64 c)) ∧ (W0.cell? ⟨w.heap.size + 1, 0, none⟩ = some (.int .i64 0) ∧ W0.frozen? ⟨w.heap.size + 1, 0, none⟩ = false) ∧ (W0.cell? ⟨w.heap.size + 1 + 1, 0, none⟩ = some (.bool false) ∧ W0.frozen? ⟨w.heap.size + 1 + 1, 0, none⟩ = false) ∧ (W0.cell? ⟨w.heap.size + 1 + 1 + 1, 0, none⟩ = some (.int .i64 0) ∧ W0.frozen? ⟨w.heap.size + 1 + 1 + 1, 0, none⟩ = false)) ∧ W0.cell? ⟨w.heap.size + 1 + 1 + 1 + 1, 0, none⟩ = some (.string a0) := by
    rw [← hW0]
    refine ⟨⟨⟨pcell_alloc _ (pcell_alloc _ (pcell_alloc _ (pcell_alloc _ q0.1))), pcell_alloc _ (pcell_alloc _ (pcell_alloc _ (pcell_alloc _ q0.2.1)))⟩, ⟨pcell_alloc _ (pcell_alloc _ (pcell_alloc _ q1.1)), ?_⟩, ⟨pcell_alloc _ (pcell_alloc _ q2.1), ?_⟩, pcell_alloc _ q3.1, ?_⟩, q4.1⟩
    · exact pfrozen_alloc _ (pcell_alloc _ (pcell_alloc _ q1.1)) (pfrozen_alloc _ (pcell_alloc _ q1.1) (pfrozen_alloc _ q1.1 q1.2))
    · exact pfrozen_alloc _ (pcell_alloc _ q2.1) (pfrozen_alloc _ q2.1 q2.2)
    · exact pfrozen_alloc _ q3.1 q3.2
  rw [hW0]
  clear q0 q1 q2 q3 q4
  clear hW0
  obtain ⟨hI0, hS0⟩ := hI0
  refine wpIn_rangeFunc_ownF hro h1 (gf := 16) (lb := #[.pointer (some ⟨w.heap.size + 1 + 1 + 1 + 1, 0, none⟩)]) rfl h16 (enters_of Tryd.func16 (by kernel_rfl) rfl)
    (plines_stops F (n - 1) h16 hro (by omega) (w.heap.size + 1 + 1 + 1 + 1) a0 hs W0 (by omega) hS0) pKeep_t (pKeep_b (by omega)) (Below.refl _ _) (fun _ => rfl)
    (pOfI w l c)
    (pOfX w l c)
    (OwnFrom.and (Own.from (fun s A B row hs hg hr => ⟨hs.1, ⟨cell_kept hs.2.1.1 hg hr, cell_kept hs.2.1.2 hg hr⟩, ⟨cell_kept hs.2.2.1.1 hg hr, (frozen_kept hs.2.2.1.1 hg hr).trans hs.2.2.1.2⟩, ⟨cell_kept hs.2.2.2.1.1 hg hr, (frozen_kept hs.2.2.2.1.1 hg hr).trans hs.2.2.2.1.2⟩, cell_kept hs.2.2.2.2.1 hg hr, (frozen_kept hs.2.2.2.2.1 hg hr).trans hs.2.2.2.2.2⟩) _) (ownFrom_below (Nat.le_refl _) (by omega)))
    (fun c => OwnFrom.and (Own.from (fun s A B row hs hg hr => ⟨hs.1, (by obtain ⟨p, x, e, e1, e2, e3, e4⟩ := hs.2; exact ⟨p, x, e, e1, e2, cell_kept e3 hg hr, cell_kept e4 hg hr⟩)⟩) _) (ownFrom_below (Nat.le_refl _) (by omega)))
    ⟨⟨by simp, hI0⟩, hB0⟩
    (fun x => { tmps := #[.string a0, .agg #[.int .i64 l, .int .i64 c], undef, .pointer (some ⟨w.heap.size, 0, none⟩), .pointer (some ⟨w.heap.size + 1, 0, none⟩), .pointer (some ⟨w.heap.size + 1 + 1, 0, none⟩), .pointer (some ⟨w.heap.size + 1 + 1 + 1, 0, none⟩), .int .i64 x.1, .int .i64 x.2, .string a0, .func (.func 16) #[] #[.pointer (some ⟨w.heap.size + 1 + 1 + 1 + 1, 0, none⟩)], .int .i64 x.1, .int .i64 x.2, undef, undef, undef, undef, undef, undef, undef, undef, undef, undef, undef, undef, undef, undef, undef, undef, undef, undef, undef, undef, undef, undef, undef], defers := [] }) ?assign ?body ?done ?stop
  case assign =>
    intro l x W K hK
    gi_wp2
    exact hK
  case body =>
    rintro l_ pre x W ⟨⟨hp, ⟨hca, hcc⟩, ⟨hs0, hf0⟩, ⟨hok, hfo⟩, ⟨hli, hfl⟩⟩, hB⟩ hlt
    have hw : wrap64 ((pre.length : Int) + 1) = ((pre.length + 1 : Nat) : Int) := by unfold wrap64; omega
    have hKb : pKeep (w.heap.size + 1 + 1 + 1 + 1) W (W.setCell ⟨w.heap.size + 1 + 1 + 1, 0, none⟩ (.int .i64 ((pre.length : Int) + 1))) := World.cell?_setCell_other _ _ _ _ (by simp)
    have hmiss : ((pre.length + 1 : Nat) : Int) ≠ l → pOfI w l c (pre ++ [x]) (W.setCell ⟨w.heap.size + 1 + 1 + 1, 0, none⟩ (.int .i64 ((pre.length : Int) + 1))) := by
      intro hx
      have c1 := fun (q : Addr) (hq : q.block ≠ w.heap.size + 1 + 1 + 1) => World.cell?_setCell_other W ⟨w.heap.size + 1 + 1 + 1, 0, none⟩ q (.int .i64 ((pre.length : Int) + 1)) (fun e => hq (by rw [← e]))
      refine ⟨⟨?_, ⟨?_, ?_⟩, ⟨?_, ?_⟩, ⟨?_, ?_⟩, ?_, ?_⟩, hB.setCell (p := ⟨w.heap.size + 1 + 1 + 1, 0, none⟩) (by simp; omega) _⟩
      · intro k hk
        rw [List.length_append] at hk
        have hk2 : k < pre.length + 1 := hk
        by_cases e : k = pre.length
        · subst e; rw [Nat.zero_add]; exact hx
        · exact hp k (by omega)
      · rw [c1 _ (by simp <;> omega)]; exact hca
      · rw [c1 _ (by simp <;> omega)]; exact hcc
      · rw [c1 _ (by simp <;> omega)]; exact hs0
      · rw [World.frozen?_setCell]; exact hf0
      · rw [c1 _ (by simp <;> omega)]; exact hok
      · rw [World.frozen?_setCell]; exact hfo
      · rw [World.cell?_setCell_same' _ _ _ (by rw [hli]; rfl), List.length_append]; rfl
      · rw [World.frozen?_setCell]; exact hfl
    have hko := KeepsOthers.setCell W ⟨w.heap.size + 1 + 1 + 1, 0, none⟩ (.int .i64 ((pre.length : Int) + 1))
    have hit : ∀ (r : Int) (o : Bool), ((pre.length + 1 : Nat) : Int) = l → ofL l c [x] pre.length = (r, o) → pOfX w l c .ret (pre ++ [x]) (((W.setCell ⟨w.heap.size + 1 + 1 + 1, 0, none⟩ (.int .i64 ((pre.length : Int) + 1))).setCell ⟨w.heap.size + 1, 0, none⟩ (.int .i64 r)).setCell ⟨w.heap.size + 1 + 1, 0, none⟩ (.bool o)) := by
      intro r o hx he
      obtain ⟨g1, g2⟩ := of_hit (W.setCell ⟨w.heap.size + 1 + 1 + 1, 0, none⟩ (.int .i64 ((pre.length : Int) + 1))) w.heap.size r o ((World.cell?_setCell_other _ _ _ _ (by simp)).trans hs0) ((World.cell?_setCell_other _ _ _ _ (by simp)).trans hok)
      exact ⟨⟨rfl, ⟨pre, x, rfl, hp, hx, by rw [he]; exact g1, by rw [he]; exact g2⟩⟩, ((hB.setCell (p := ⟨w.heap.size + 1 + 1 + 1, 0, none⟩) (by simp <;> omega) _).setCell (p := ⟨w.heap.size + 1, 0, none⟩) (by simp) _).setCell (p := ⟨w.heap.size + 1 + 1, 0, none⟩) (by simp <;> omega) _⟩
    clear hsz hI0 hS0
    gi_wp2
    · have k1 : ((pre.length : Int) + 1 == l) = true := by assumption
      have hx : ((pre.length + 1 : Nat) : Int) = l := by have := eq_of_beq k1; omega
      exact ⟨(hko.trans (KeepsOthers.setCell _ _ _)).trans (KeepsOthers.setCell _ _ _), hit 0 false hx (by rw [ofL, if_pos hx, if_pos (by omega)])⟩
    · have k1 : ((pre.length : Int) + 1 == l) = true := by assumption
      have hx : ((pre.length + 1 : Nat) : Int) = l := by have := eq_of_beq k1; omega
      exact ⟨(hko.trans (KeepsOthers.setCell _ _ _)).trans (KeepsOthers.setCell _ _ _), hit _ true hx (by rw [ofL, if_pos hx, if_neg (by omega)])⟩
    · have k1 : ((pre.length : Int) + 1 == l) = true := by assumption
      have k2 : c < 1 := by assumption
      have hx : ((pre.length + 1 : Nat) : Int) = l := by have := eq_of_beq k1; omega
      exact ⟨(hko.trans (KeepsOthers.setCell _ _ _)).trans (KeepsOthers.setCell _ _ _), hit 0 false hx (by rw [ofL, if_pos hx, if_pos (Or.inl k2)])⟩
    · rename_i k1
      exact ⟨hko, hKb, hmiss (fun hx => by have := ne_of_beq_false k1; omega)⟩
  case done =>
    rintro D ys W hD rfl ⟨⟨hp, ⟨hca, hcc⟩, ⟨hs0, hf0⟩, ⟨hok, hfo⟩, ⟨hli, hfl⟩⟩, hB⟩ hK
    have e := ofL_miss l c (linesOf a0) [] 0 hp
    rw [List.append_nil, h] at e
    obtain ⟨rfl, rfl⟩ := Prod.mk.inj e
    clear h e
    gi_wp2
    have hK' := ((KeepsOthers.setCell W ⟨w.heap.size + 1, 0, none⟩ (.int .i64 0)).trans (KeepsOthers.setCell _ ⟨w.heap.size + 1 + 1, 0, none⟩ (.bool false))).same D _ hK rfl
    obtain ⟨g1, g2⟩ := of_hit W w.heap.size 0 false hs0 hok
    have hB2 := (hB.setCell (p := ⟨w.heap.size + 1, 0, none⟩) (by simp) (.int .i64 0)).setCell (p := ⟨w.heap.size + 1 + 1, 0, none⟩) (by simp <;> omega) (.bool false)
    refine ⟨by simp, .inl ⟨_, _, rfl, run_takeDeferred hK', ?_⟩⟩
    have hg := grownBy_putObj' ((W.setCell ⟨w.heap.size + 1, 0, none⟩ (.int .i64 0)).setCell ⟨w.heap.size + 1 + 1, 0, none⟩ (.bool false)) D (.deferred none)
    have k1 := cell_kept g1 hg (fun r e => by cases e; exact ⟨_, hK', rfl⟩)
    have k2 := cell_kept g2 hg (fun r e => by cases e; exact ⟨_, hK', rfl⟩)
    refine ⟨.tuple #[.int .i64 0, .bool false], ?_, rfl, hB2.trans (belowK_b (w := w) (Nat.le_refl _) _ D _ _ (by omega) hK' rfl rfl)⟩
    simp [results, Tryd.f9, go_sem, k1, k2]
  case stop =>
    rintro D c_ pre W hD hpre ⟨⟨rfl, ⟨pre', x, rfl, e1, e2, e3, e4⟩⟩, hB⟩ hK
    obtain ⟨rest, hrest⟩ := hpre
    have e := ofL_miss l c pre' (x :: rest) 0 e1
    have e6 : ofL l c (x :: rest) (0 + pre'.length) = ofL l c [x] pre'.length := by rw [Nat.zero_add, ofL, if_pos e2, ofL, if_pos e2]
    rw [show pre' ++ x :: rest = linesOf a0 from by rw [← hrest]; simp, h, e6] at e
    rw [← e] at e3 e4
    clear h e e6
    gi_wp2
    refine ⟨by simp, .inl ⟨_, _, rfl, run_takeDeferred hK, ?_⟩⟩
    have hg := grownBy_putObj' W D (.deferred none)
    have k1 := cell_kept e3 hg (fun r e => by cases e; exact ⟨_, hK, rfl⟩)
    have k2 := cell_kept e4 hg (fun r e => by cases e; exact ⟨_, hK, rfl⟩)
    refine ⟨.tuple #[.int .i64 r1, .bool r2], ?_, rfl, hB.trans (belowK_b (w := w) (Nat.le_refl _) W D _ _ (by omega) hK rfl rfl)⟩
    simp [results, Tryd.f9, go_sem, k1, k2]
theorem pos_Of.calls (a0 : ByteArray) (a1_0 : Int) (a1_1 : Int) (r1 : Int) (r2 : Bool) (w : World) (h : pos_Of.f a0 a1_0 a1_1 = some (r1, r2)) :
    Calls Tryd.prog 9 #[.string a0, .agg #[.int .i64 a1_0, .int .i64 a1_1]] w fun e w' => e = .returned (.tuple #[.int .i64 r1, .bool r2]) ∧ Below w.heap.size w w' := by
  unfold pos_Of.f at h
  by_cases hz : a0.size ≤ 1000000
  · rw [if_pos hz] at h
    exact (callsIn_wide (n := 3)).1 (pos_Of.in_ Fence.wide 3 trivial trivial trivial rfl (Nat.le_refl _) a0 a1_0 a1_1 r1 r2 hz (Option.some.inj h) w)
  · rw [if_neg hz] at h; cases h
end Go.Proofs.YtnpkokpkakhnaaaDoor.Q
