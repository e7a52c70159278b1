/- pos.At: the spot of a place: a loop over the lines. -/
import Derived.Test.YtnpkokpkakhnaaaDoorQx0
import Derived.Test.YtnpkokpkakhnaaaDoorHposLines
--@needs XHposLines
namespace Go.Proofs.YtnpkokpkakhnaaaDoor.Q
open Go.RowKit Go.Proofs.YtnpkokpkakhnaaaDoorW.PrintWords Go.Proofs.YtnpkokpkakhnaaaDoorW.PrintLast Go.Proofs.YtnpkokpkakhnaaaDoorW.PrintMore
attribute [local go_sem] max2_int min2_int max_two min_two max_three min_three max_four min_four   -- for this text's walks alone
set_option linter.unusedVariables false
set_option linter.unusedSimpArgs false

open Go.Shelf
attribute [local go_sem] Oper.semAt_some
theorem pcell_two {W : World} {B : Nat} {u v : Value} {t : TypeId} (h : W.heap[B]? = some (.cells #[u, v] t (0, 0))) : W.cell? ⟨B, 0, none⟩ = some u ∧ W.cell? ⟨B, 1, none⟩ = some v ∧ W.frozen? ⟨B, 0, none⟩ = false ∧ W.frozen? ⟨B, 1, none⟩ = false := by
  refine ⟨?_, ?_, ?_, ?_⟩ <;> simp [World.cell?, World.frozen?, h]
theorem pcell_alloc {W : World} {a : Addr} {v : Value} (o : Obj) (h : W.cell? a = some v) : (W.alloc o).cell? a = some v := cell_kept h (World.grownBy_alloc W o none) (fun r e => by cases e)
theorem pfrozen_alloc {W : World} {a : Addr} {v : Value} (o : Obj) (h : W.cell? a = some v) (hf : W.frozen? a = false) : (W.alloc o).frozen? a = false := (frozen_kept h (World.grownBy_alloc W o none) (fun r e => by cases e)).trans hf
/-- the spot of a place, n lines having come -/
def atL (at_ : Int) : List (Nat × Nat) → Nat → Int × Int × Bool
  | [], _ => (0, 0, false)
  | x :: r, n => if (x.1 : Int) ≤ at_ ∧ at_ ≤ x.2 then (((n + 1 : Nat) : Int), wrap64 (wrap64 (at_ - x.1) + 1), true) else atL at_ r (n + 1)
def inL (at_ : Int) (x : Nat × Nat) : Prop := (x.1 : Int) ≤ at_ ∧ at_ ≤ x.2
theorem atL_miss (at_ : Int) : ∀ (pre rest : List (Nat × Nat)) (n : Nat), (∀ y ∈ pre, ¬ inL at_ y) → atL at_ (pre ++ rest) n = atL at_ rest (n + pre.length)
  | [], rest, n, _ => rfl
  | x :: pre, rest, n, h => by
    have hx : ¬ ((x.1 : Int) ≤ at_ ∧ at_ ≤ x.2) := h x (by simp)
    rw [List.cons_append, atL, if_neg hx, atL_miss at_ pre rest (n + 1) (fun y hy => h y (by simp [hy]))]
    congr 1
    simp only [List.length_cons]
    omega
def pos_At.f (a0 : ByteArray) (a1 : Int) : Option (Int × Int × Bool) := if a0.size ≤ 1000000 then some (atL a1 (linesOf a0) 0) else none
theorem Below.pcell {n : Nat} {w w' : World} (h : Below n w w') {p : Addr} (hp : p.block < n) : w'.cell? p = w.cell? p := h.cell hp
theorem at_hit (W : World) (b : Nat) (k n c : Int) (o : Bool) {u0 u1 u2 : Value} (h0 : W.cell? ⟨b + 1, 0, none⟩ = some u0) (h1 : W.cell? ⟨b + 1, 1, none⟩ = some u1) (h2 : W.cell? ⟨b + 1 + 1, 0, none⟩ = some u2) :
    ((((W.setCell ⟨b + 1, 0, none⟩ (.int .i64 n)).setCell ⟨b + 1, 1, none⟩ (.int .i64 c)).setCell ⟨b + 1 + 1, 0, none⟩ (.bool o)).cell? ⟨b + 1, 0, none⟩ = some (.int .i64 n)) ∧ ((((W.setCell ⟨b + 1, 0, none⟩ (.int .i64 n)).setCell ⟨b + 1, 1, none⟩ (.int .i64 c)).setCell ⟨b + 1 + 1, 0, none⟩ (.bool o)).cell? ⟨b + 1, 1, none⟩ = some (.int .i64 c)) ∧ ((((W.setCell ⟨b + 1, 0, none⟩ (.int .i64 n)).setCell ⟨b + 1, 1, none⟩ (.int .i64 c)).setCell ⟨b + 1 + 1, 0, none⟩ (.bool o)).cell? ⟨b + 1 + 1, 0, none⟩ = some (.bool o)) := by
  refine ⟨?_, ?_, ?_⟩
  · rw [World.cell?_setCell_other _ _ _ _ (by simp), World.cell?_setCell_other _ _ _ _ (by simp), World.cell?_setCell_same' _ _ _ (by rw [h0]; rfl)]
  · rw [World.cell?_setCell_other _ _ _ _ (by simp), World.cell?_setCell_same' _ _ _ (by rw [World.cell?_setCell_other _ _ _ _ (by simp), h1]; rfl)]
  · rw [World.cell?_setCell_same' _ _ _ (by rw [World.cell?_setCell_other _ _ _ _ (by simp), World.cell?_setCell_other _ _ _ _ (by simp), h2]; rfl)]
def pAtI (w : World) (a1 : Int) (pre : List (Nat × Nat)) (W : World) : Prop := ((∀ y ∈ pre, ¬ inL a1 y) ∧ W.cell? ⟨w.heap.size, 0, none⟩ = some (.int .i64 a1) ∧ (W.cell? ⟨w.heap.size + 1, 0, none⟩ = some (.int .i64 0) ∧ W.cell? ⟨w.heap.size + 1, 1, none⟩ = some (.int .i64 0) ∧ W.frozen? ⟨w.heap.size + 1, 0, none⟩ = false ∧ W.frozen? ⟨w.heap.size + 1, 1, none⟩ = false) ∧ (W.cell? ⟨w.heap.size + 1 + 1, 0, none⟩ = some (.bool false) ∧ W.frozen? ⟨w.heap.size + 1 + 1, 0, none⟩ = false) ∧ (W.cell? ⟨w.heap.size + 1 + 1 + 1, 0, none⟩ = some (.int .i64 pre.length) ∧ W.frozen? ⟨w.heap.size + 1 + 1 + 1, 0, none⟩ = false)) ∧ Below w.heap.size w W
def pAtX (w : World) (a1 : Int) (c : Code) (pre : List (Nat × Nat)) (W : World) : Prop := (c = .ret ∧ (∃ pre' x, pre = pre' ++ [x] ∧ (∀ y ∈ pre', ¬ inL a1 y) ∧ inL a1 x ∧ W.cell? ⟨w.heap.size + 1, 0, none⟩ = some (.int .i64 ((pre'.length + 1 : Nat) : Int)) ∧ W.cell? ⟨w.heap.size + 1, 1, none⟩ = some (.int .i64 (wrap64 (wrap64 (a1 - x.1) + 1)))) ∧ W.cell? ⟨w.heap.size + 1 + 1, 0, none⟩ = some (.bool true)) ∧ Below w.heap.size w W
set_option maxRecDepth 100000 in
set_option maxHeartbeats 4000000 in
theorem pos_At.in_ (F : Fence) (n : Nat) (h7 : F.fn 7) (h13 : F.fn 13) (h16 : F.fn 16) (hro : F.round = none) (hn : 3 ≤ n) (a0 : ByteArray) (a1 : Int) (r1 : Int) (r2 : Int) (r3 : Bool) (hs : a0.size ≤ 1000000) (h : atL a1 (linesOf a0) 0 = (r1, r2, r3)) (w : World) :
    CallsIn F n Tryd.prog 7 #[.string a0, .int .i64 a1] w fun e w' => e = .returned (.tuple #[.agg #[.int .i64 r1, .int .i64 r2], .bool r3]) ∧ Below w.heap.size w w' := by
  have h1 : 1 ≤ n := by omega
  refine callsIn_of_wp_marks Tryd.func7 rfl h7 ?_ hro
  simp only [Tryd.ntmps7, List.size_toArray, List.length_cons, List.length_nil, Nat.reduceAdd, Nat.reduceSub, Array.replicate_succ, Array.replicate_zero, List.push_toArray, List.append_toArray, List.nil_append, List.cons_append]
  gi_wp2_with (gi_at_call 13; refine (plines_in F (n - 1) h13 hro _ _).mono ?_; rintro e w' ⟨rfl, rfl⟩)
  have q0 := pcell_new w (.int .i64 a1) 3
  have q1 : ((w.alloc (.cells #[.int .i64 a1] 3)).alloc (.cells #[.int .i64 0, .int .i64 0] 23)).cell? ⟨w.heap.size + 1, 0, none⟩ = some (.int .i64 0) ∧ ((w.alloc (.cells #[.int .i64 a1] 3)).alloc (.cells #[.int .i64 0, .int .i64 0] 23)).cell? ⟨w.heap.size + 1, 1, none⟩ = some (.int .i64 0) ∧ ((w.alloc (.cells #[.int .i64 a1] 3)).alloc (.cells #[.int .i64 0, .int .i64 0] 23)).frozen? ⟨w.heap.size + 1, 0, none⟩ = false ∧ ((w.alloc (.cells #[.int .i64 a1] 3)).alloc (.cells #[.int .i64 0, .int .i64 0] 23)).frozen? ⟨w.heap.size + 1, 1, none⟩ = false := by
    have := World.alloc_heap_new (w.alloc (.cells #[.int .i64 a1] 3)) (.cells #[.int .i64 0, .int .i64 0] 23)
    rw [World.size_alloc] at this
    exact pcell_two this
  have q2 := pcell_new ((w.alloc (.cells #[.int .i64 a1] 3)).alloc (.cells #[.int .i64 0, .int .i64 0] 23)) (.bool false) 4
  have q3 := pcell_new (((w.alloc (.cells #[.int .i64 a1] 3)).alloc (.cells #[.int .i64 0, .int .i64 0] 23)).alloc (.cells #[.bool false] 4)) (.int .i64 0) 3
  have q4 := pcell_new ((((w.alloc (.cells #[.int .i64 a1] 3)).alloc (.cells #[.int .i64 0, .int .i64 0] 23)).alloc (.cells #[.bool false] 4)).alloc (.cells #[.int .i64 0] 3)) (.string a0) 9
  simp only [World.size_alloc] at q2 q3 q4
  obtain ⟨W0, hW0⟩ : ∃ W0, ((((w.alloc (.cells #[.int .i64 a1] 3)).alloc (.cells #[.int .i64 0, .int .i64 0] 23)).alloc (.cells #[.bool false] 4)).alloc (.cells #[.int .i64 0] 3)).alloc (.cells #[.string a0] 9) = W0 := ⟨_, rfl⟩
  have hB0 : Below w.heap.size w W0 := by rw [← hW0]; exact (((((Below.refl _ w).alloc (Nat.le_refl _) _).alloc (by simp) _).alloc (by simp; omega) _).alloc (by simp; omega) _).alloc (by simp; omega) _
  have hsz : W0.heap.size = w.heap.size + 5 := by rw [← hW0]; simp [World.size_alloc]
  have hI0 : (W0.cell? ⟨w.heap.size, 0, none⟩ = some (.int .i64 a1) ∧ (W0.cell? ⟨w.heap.size + 1, 0, none⟩ = some (.int .i64 0) ∧ W0.cell? ⟨w.heap.size + 1, 1, none⟩ = some (.int .i64 0) ∧ W0.frozen? ⟨w.heap.size + 1, 0, none⟩ = false ∧ W0.frozen? ⟨w.heap.size + 1, 1, none⟩ = false) ∧ (W0.cell? ⟨w.heap.size + 1 + 1, 0, none⟩ = some (.bool false) ∧ W0.frozen? ⟨w.heap.size + 1 + 1, 0, none⟩ = false) ∧ (W0.cell? ⟨w.heap.size + 1 + 1 + 1, 0, none⟩ = some (.int .i64 0) ∧ W0.frozen? ⟨w.heap.size + 1 + 1 + 1, 0, none⟩ = false)) ∧ W0.cell? ⟨w.heap.size + 1 + 1 + 1 + 1, 0, none⟩ = some (.string a0) := by
    rw [← hW0]
    refine ⟨⟨pcell_alloc _ (pcell_alloc _ (pcell_alloc _ (pcell_alloc _ q0.1))), ⟨pcell_alloc _ (pcell_alloc _ (pcell_alloc _ q1.1)), pcell_alloc _ (pcell_alloc _ (pcell_alloc _ q1.2.1)), ?_, ?_⟩, ⟨pcell_alloc _ (pcell_alloc _ q2.1), ?_⟩, pcell_alloc _ q3.1, ?_⟩, q4.1⟩
    · exact pfrozen_alloc _ (pcell_alloc _ (pcell_alloc _ q1.1)) (pfrozen_alloc _ (pcell_alloc _ q1.1) (pfrozen_alloc _ q1.1 q1.2.2.1))
    · exact pfrozen_alloc _ (pcell_alloc _ (pcell_alloc _ q1.2.1)) (pfrozen_alloc _ (pcell_alloc _ q1.2.1) (pfrozen_alloc _ q1.2.1 q1.2.2.2))
    · exact pfrozen_alloc _ (pcell_alloc _ q2.1) (pfrozen_alloc _ q2.1 q2.2)
    · exact pfrozen_alloc _ q3.1 q3.2
  rw [hW0]
  clear q0 q1 q2 q3 q4
  clear hW0
  obtain ⟨hI0, hS0⟩ := hI0
  refine wpIn_rangeFunc_ownF hro h1 (gf := 16) (lb := #[.pointer (some ⟨w.heap.size + 1 + 1 + 1 + 1, 0, none⟩)]) rfl h16 (enters_of Tryd.func16 (by kernel_rfl) rfl)
    (plines_stops F (n - 1) h16 hro (by omega) (w.heap.size + 1 + 1 + 1 + 1) a0 hs W0 (by omega) hS0) pKeep_t (pKeep_b (by omega)) (Below.refl _ _) (fun _ => rfl)
    (pAtI w a1)
    (pAtX w a1)
    (OwnFrom.and (Own.from (fun s A B row hs hg hr => ⟨hs.1, cell_kept hs.2.1 hg hr, ⟨cell_kept hs.2.2.1.1 hg hr, cell_kept hs.2.2.1.2.1 hg hr, (frozen_kept hs.2.2.1.1 hg hr).trans hs.2.2.1.2.2.1, (frozen_kept hs.2.2.1.2.1 hg hr).trans hs.2.2.1.2.2.2⟩, ⟨cell_kept hs.2.2.2.1.1 hg hr, (frozen_kept hs.2.2.2.1.1 hg hr).trans hs.2.2.2.1.2⟩, cell_kept hs.2.2.2.2.1 hg hr, (frozen_kept hs.2.2.2.2.1 hg hr).trans hs.2.2.2.2.2⟩) _) (ownFrom_below (Nat.le_refl _) (by omega)))
    (fun c => OwnFrom.and (Own.from (fun s A B row hs hg hr => ⟨hs.1, (by obtain ⟨p, x, e, e1, e2, e3, e4⟩ := hs.2.1; exact ⟨p, x, e, e1, e2, cell_kept e3 hg hr, cell_kept e4 hg hr⟩), cell_kept hs.2.2 hg hr⟩) _) (ownFrom_below (Nat.le_refl _) (by omega)))
    ⟨⟨by simp, hI0⟩, hB0⟩
    (fun x => { tmps := #[.string a0, .int .i64 a1, undef, .pointer (some ⟨w.heap.size, 0, none⟩), .pointer (some ⟨w.heap.size + 1, 0, none⟩), .pointer (some ⟨w.heap.size + 1 + 1, 0, none⟩), .pointer (some ⟨w.heap.size + 1 + 1 + 1, 0, none⟩), .int .i64 x.1, .int .i64 x.2, .string a0, .func (.func 16) #[] #[.pointer (some ⟨w.heap.size + 1 + 1 + 1 + 1, 0, none⟩)], .int .i64 x.1, .int .i64 x.2, undef, undef, undef, undef, undef, undef, undef, undef, undef, undef, undef, undef, undef, undef, undef, undef, undef], defers := [] }) ?assign ?body ?done ?stop
  case assign =>
    intro l x W K hK
    gi_wp2
    exact hK
  case body =>
    rintro l pre x W ⟨⟨hp, hca, ⟨hs0, hs1, hf0, hf1⟩, ⟨hok, hfo⟩, ⟨hli, hfl⟩⟩, hB⟩ hlt
    have hw : wrap64 ((pre.length : Int) + 1) = ((pre.length + 1 : Nat) : Int) := by unfold wrap64; omega
    have hKb : pKeep (w.heap.size + 1 + 1 + 1 + 1) W (W.setCell ⟨w.heap.size + 1 + 1 + 1, 0, none⟩ (.int .i64 ((pre.length : Int) + 1))) := World.cell?_setCell_other _ _ _ _ (by simp)
    have hmiss : ¬ inL a1 x → pAtI w a1 (pre ++ [x]) (W.setCell ⟨w.heap.size + 1 + 1 + 1, 0, none⟩ (.int .i64 ((pre.length : Int) + 1))) := by
      intro hx
      have c1 := fun (q : Addr) (hq : q.block ≠ w.heap.size + 1 + 1 + 1) => World.cell?_setCell_other W ⟨w.heap.size + 1 + 1 + 1, 0, none⟩ q (.int .i64 ((pre.length : Int) + 1)) (fun e => hq (by rw [← e]))
      refine ⟨⟨?_, ?_, ⟨?_, ?_, ?_, ?_⟩, ⟨?_, ?_⟩, ?_, ?_⟩, hB.setCell (p := ⟨w.heap.size + 1 + 1 + 1, 0, none⟩) (by simp; omega) _⟩
      · intro y hy
        rcases List.mem_append.mp hy with hy | hy
        · exact hp y hy
        · rw [List.mem_singleton.mp hy]; exact hx
      · rw [c1 _ (by simp <;> omega)]; exact hca
      · rw [c1 _ (by simp <;> omega)]; exact hs0
      · rw [c1 _ (by simp <;> omega)]; exact hs1
      · rw [World.frozen?_setCell]; exact hf0
      · rw [World.frozen?_setCell]; exact hf1
      · rw [c1 _ (by simp <;> omega)]; exact hok
      · rw [World.frozen?_setCell]; exact hfo
      · rw [World.cell?_setCell_same' _ _ _ (by rw [hli]; rfl), List.length_append]; rfl
      · rw [World.frozen?_setCell]; exact hfl
    have hko := KeepsOthers.setCell W ⟨w.heap.size + 1 + 1 + 1, 0, none⟩ (.int .i64 ((pre.length : Int) + 1))
    clear hsz hI0 hS0
    gi_wp2
    · obtain ⟨g1, g2, g3⟩ := at_hit (W.setCell ⟨w.heap.size + 1 + 1 + 1, 0, none⟩ (.int .i64 ((pre.length : Int) + 1))) w.heap.size 0 ((pre.length : Int) + 1) (wrap64 (wrap64 (a1 - x.1) + 1)) true (u0 := .int .i64 0) (u1 := .int .i64 0) (u2 := .bool false) ((World.cell?_setCell_other _ _ _ _ (by simp)).trans hs0) ((World.cell?_setCell_other _ _ _ _ (by simp)).trans hs1) ((World.cell?_setCell_other _ _ _ _ (by simp)).trans hok)
      exact ⟨((hko.trans (KeepsOthers.setCell _ _ _)).trans (KeepsOthers.setCell _ _ _)).trans (KeepsOthers.setCell _ _ _), ⟨rfl, ⟨pre, x, rfl, hp, ⟨by assumption, by assumption⟩, g1, g2⟩, g3⟩, (((hB.setCell (p := ⟨w.heap.size + 1 + 1 + 1, 0, none⟩) (by simp <;> omega) _).setCell (p := ⟨w.heap.size + 1, 0, none⟩) (by simp) _).setCell (p := ⟨w.heap.size + 1, 1, none⟩) (by simp) _).setCell (p := ⟨w.heap.size + 1 + 1, 0, none⟩) (by simp <;> omega) _⟩
    · rename_i k1 k2
      exact ⟨hko, hKb, hmiss (fun hx => by have := hx.2; omega)⟩
    · rename_i k1
      exact ⟨hko, hKb, hmiss (fun hx => by have := hx.1; omega)⟩
  case done =>
    rintro D ys W hD rfl ⟨⟨hp, hca, ⟨hs0, hs1, hf0, hf1⟩, ⟨hok, hfo⟩, ⟨hli, hfl⟩⟩, hB⟩ hK
    have e := atL_miss a1 (linesOf a0) [] 0 hp
    rw [List.append_nil, h] at e
    obtain ⟨rfl, e2⟩ := Prod.mk.inj e
    obtain ⟨rfl, rfl⟩ := Prod.mk.inj e2
    clear h e e2
    gi_wp2
    have hK' := (((KeepsOthers.setCell W ⟨w.heap.size + 1, 0, none⟩ (.int .i64 0)).trans (KeepsOthers.setCell _ ⟨w.heap.size + 1, 1, none⟩ (.int .i64 0))).trans (KeepsOthers.setCell _ ⟨w.heap.size + 1 + 1, 0, none⟩ (.bool false))).same D _ hK rfl
    obtain ⟨g1, g2, g3⟩ := at_hit W w.heap.size 0 0 0 false hs0 hs1 hok
    have hB2 := ((hB.setCell (p := ⟨w.heap.size + 1, 0, none⟩) (by simp) (.int .i64 0)).setCell (p := ⟨w.heap.size + 1, 1, none⟩) (by simp) (.int .i64 0)).setCell (p := ⟨w.heap.size + 1 + 1, 0, none⟩) (by simp <;> omega) (.bool false)
    refine ⟨by simp, .inl ⟨_, _, rfl, run_takeDeferred hK', ?_⟩⟩
    have hg := grownBy_putObj' ((((W.setCell ⟨w.heap.size + 1, 0, none⟩ (.int .i64 0)).setCell ⟨w.heap.size + 1, 1, none⟩ (.int .i64 0)).setCell ⟨w.heap.size + 1 + 1, 0, none⟩ (.bool false))) D (.deferred none)
    have k1 := cell_kept g1 hg (fun r e => by cases e; exact ⟨_, hK', rfl⟩)
    have k2 := cell_kept g2 hg (fun r e => by cases e; exact ⟨_, hK', rfl⟩)
    have k3 := cell_kept g3 hg (fun r e => by cases e; exact ⟨_, hK', rfl⟩)
    refine ⟨.tuple #[.agg #[.int .i64 0, .int .i64 0], .bool false], ?_, rfl, hB2.trans (belowK_b (w := w) (Nat.le_refl _) _ D _ _ (by omega) hK' rfl rfl)⟩
    simp [results, Tryd.f7, go_sem, k1, k2, k3]
  case stop =>
    rintro D c pre W hD hpre ⟨⟨rfl, ⟨pre', x, rfl, e1, e2, e3, e4⟩, hok⟩, hB⟩ hK
    obtain ⟨rest, hrest⟩ := hpre
    have e := atL_miss a1 pre' (x :: rest) 0 e1
    rw [show pre' ++ x :: rest = linesOf a0 from by rw [← hrest]; simp, h, atL, if_pos (show ((x.1 : Int) ≤ a1 ∧ a1 ≤ x.2) from e2)] at e
    obtain ⟨rfl, e5⟩ := Prod.mk.inj e
    obtain ⟨rfl, rfl⟩ := Prod.mk.inj e5
    clear h e e5
    gi_wp2
    refine ⟨by simp, .inl ⟨_, _, rfl, run_takeDeferred hK, ?_⟩⟩
    have hg := grownBy_putObj' W D (.deferred none)
    have k1 := cell_kept e3 hg (fun r e => by cases e; exact ⟨_, hK, rfl⟩)
    have k2 := cell_kept e4 hg (fun r e => by cases e; exact ⟨_, hK, rfl⟩)
    have k3 := cell_kept hok hg (fun r e => by cases e; exact ⟨_, hK, rfl⟩)
    rw [show ((0 + pre'.length + 1 : Nat) : Int) = ((pre'.length + 1 : Nat) : Int) from by omega]
    refine ⟨.tuple #[.agg #[.int .i64 ((pre'.length + 1 : Nat) : Int), .int .i64 (wrap64 (wrap64 (a1 - x.1) + 1))], .bool true], ?_, rfl, hB.trans (belowK_b (w := w) (Nat.le_refl _) W D _ _ (by omega) hK rfl rfl)⟩
    simp [results, Tryd.f7, go_sem, k1, k2, k3]
theorem pos_At.calls (a0 : ByteArray) (a1 : Int) (r1 : Int) (r2 : Int) (r3 : Bool) (w : World) (h : pos_At.f a0 a1 = some (r1, r2, r3)) :
    Calls Tryd.prog 7 #[.string a0, .int .i64 a1] w fun e w' => e = .returned (.tuple #[.agg #[.int .i64 r1, .int .i64 r2], .bool r3]) ∧ Below w.heap.size w w' := by
  unfold pos_At.f at h
  by_cases hz : a0.size ≤ 1000000
  · rw [if_pos hz] at h
    exact (callsIn_wide (n := 3)).1 (pos_At.in_ Fence.wide 3 trivial trivial trivial rfl (Nat.le_refl _) a0 a1 r1 r2 r3 hz (Option.some.inj h) w)
  · rw [if_neg hz] at h; cases h
end Go.Proofs.YtnpkokpkakhnaaaDoor.Q
