/- isa.forms: the kinds' forms: a table. -/
import Derived.Test.YtlhkojnocconfaaDoorQx0
import Derived.Deep.WholeRow
namespace Go.Proofs.YtlhkojnocconfaaDoor.Q
open Go.RowKit Go.Proofs.YtlhkojnocconfaaDoorW.PrintWords Go.Proofs.YtlhkojnocconfaaDoorW.PrintLast Go.Proofs.YtlhkojnocconfaaDoorW.PrintMore
attribute [local go_sem] max2_int min2_int max_two min_two max_three min_three max_four min_four   -- for this text's walks alone
set_option linter.unusedVariables false
set_option linter.unusedSimpArgs false

def isaForms : List (ByteArray × ByteArray × Int × Int) := [(⟨#[104, 97, 108, 116]⟩, ⟨#[]⟩, 0, 0), (⟨#[108, 105]⟩, ⟨#[68]⟩, (-32768), 32767), (⟨#[108, 117, 105]⟩, ⟨#[68]⟩, 0, 65535), (⟨#[111, 114, 105]⟩, ⟨#[68, 65]⟩, 0, 65535), (⟨#[97, 100, 100]⟩, ⟨#[68, 65, 66]⟩, 0, 0), (⟨#[115, 117, 98]⟩, ⟨#[68, 65, 66]⟩, 0, 0), (⟨#[109, 117, 108]⟩, ⟨#[68, 65, 66]⟩, 0, 0), (⟨#[100, 105, 118]⟩, ⟨#[68, 65, 66]⟩, 0, 0), (⟨#[114, 101, 109]⟩, ⟨#[68, 65, 66]⟩, 0, 0), (⟨#[115, 108, 116]⟩, ⟨#[68, 65, 66]⟩, 0, 0), (⟨#[97, 110, 100]⟩, ⟨#[68, 65, 66]⟩, 0, 0), (⟨#[111, 114]⟩, ⟨#[68, 65, 66]⟩, 0, 0), (⟨#[120, 111, 114]⟩, ⟨#[68, 65, 66]⟩, 0, 0), (⟨#[115, 108, 108]⟩, ⟨#[68, 65]⟩, 0, 31), (⟨#[115, 114, 108]⟩, ⟨#[68, 65]⟩, 0, 31), (⟨#[115, 114, 97]⟩, ⟨#[68, 65]⟩, 0, 31), (⟨#[97, 100, 100, 105]⟩, ⟨#[68, 65]⟩, (-32768), 32767), (⟨#[108, 119]⟩, ⟨#[68, 65]⟩, (-32768), 32767), (⟨#[115, 119]⟩, ⟨#[66, 65]⟩, (-32768), 32767), (⟨#[98, 101, 113]⟩, ⟨#[65, 66]⟩, (-32768), 32767), (⟨#[98, 110, 101]⟩, ⟨#[65, 66]⟩, (-32768), 32767), (⟨#[98, 108, 116]⟩, ⟨#[65, 66]⟩, (-32768), 32767), (⟨#[106, 97, 108]⟩, ⟨#[68]⟩, (-1048576), 1048575), (⟨#[106, 97, 108, 114]⟩, ⟨#[68, 65]⟩, 0, 0), (⟨#[115, 121, 115]⟩, ⟨#[]⟩, 1, 4)]
def isaForm (k : Int) : ByteArray × ByteArray × Int × Int := if 0 ≤ k ∧ k < 25 then isaForms.getD k.toNat (⟨#[]⟩, ⟨#[]⟩, 0, 0) else (⟨#[]⟩, ⟨#[]⟩, 0, 0)
def isaCells : Array Value := (isaForms.flatMap fun x => [.string x.1, .string x.2.1, .int .i64 x.2.2.1, .int .i64 x.2.2.2]).toArray
def isaZeros : Array Value := ((List.replicate 25 ([.string ⟨#[]⟩, .string ⟨#[]⟩, .int .i64 0, .int .i64 0] : List Value)).flatten).toArray
theorem isa_zero (w : World) : (zeroValue 79).run Tryd.prog w = .ok (.agg isaZeros) w := (zero_of_info (t := 79) (v := .agg isaZeros) (n := 100) (by kernel_rfl)).1 w
theorem isa_info : (Tryd.prog.info? 79).map (·.size) = some isaCells.size := by kernel_rfl
theorem event_skip {P : Program} {ops : Array Oper} {rest : List Oper} {o : Oper} {a : Act} {Q : Exit → Act → World → Prop} {W w1 : World} (hgd : o.guard = none) (hrun : (execOp a.eval o).run P W = .ok .skip w1) (h : wpList P ops Q rest (a.put o.dst undef) w1) : wpList P ops Q (o :: rest) a W := by
  refine wpList_plain hgd fun K hK => ?_
  unfold Oper.wp
  rw [hrun]
  exact hK _ _ h
theorem isa_b4op (a : Act) (W : World) (n r : ByteArray) (l m : Int) (d : Option Tmp) (t : TypeId) (p : String) (af : Array Edge) : (execOp a.eval { dst := d, op := .build 54 #[(0, .const (.string n)), (1, .const (.string r)), (2, .const (.int .i64 l)), (3, .const (.int .i64 m))], type := t, pos := p, after := af, guard := none }).run Tryd.prog W = .ok (.value (.agg #[.string n, .string r, .int .i64 l, .int .i64 m])) W := by kernel_rfl
theorem isa_allocop (a : Act) (W : World) (d : Option Tmp) (t : TypeId) (p : String) (af : Array Edge) : (execOp a.eval { dst := d, op := .alloc 79, type := t, pos := p, after := af, guard := none }).run Tryd.prog W = .ok (.value (.pointer (some ⟨W.heap.size, 0, none⟩))) (W.alloc (.cells isaZeros 79)) := by kernel_rfl
theorem event_pure {P : Program} {ops : Array Oper} {rest : List Oper} {o : Oper} {a : Act} {Q : Exit → Act → World → Prop} {W : World} (v : Value) (hgd : o.guard = none) (hrun : (execOp a.eval o).run P W = .ok (.value v) W) (h : wpList P ops Q rest (a.put o.dst v) W) : wpList P ops Q (o :: rest) a W := Kd.event_run hgd hrun h
theorem results_c1 {P : Program} {fn : Func} {p : Tmp} {ty : TypeId} (h : fn.results = #[.cell p ty]) (tmps : Array Value) (w : World) (g : Nat) (t : TypeId) (cs : Array Value) (fr : Nat × Nat) (d : TypeDesc)
    (hp : tmps.getD p undef = .pointer (some ⟨g, 0, none⟩)) (hg : w.heap[g]? = some (.cells cs t fr))
    (hu : P.underlying ty = some d) (hd : (match d with | .struct _ | .array _ _ => true | _ => false) = true) (hi : (P.info? ty).map (·.size) = some cs.size) :
    (results fn tmps).run P w = .ok (.agg cs) w := by
  have hp' : tmps[p]?.getD undef = .pointer (some ⟨g, 0, none⟩) := by simpa using hp
  simp [results, h, hp', asAddr, run_loadVar_row w g t ty cs fr d hg hu hd hi]
theorem isa_store (W : World) (p : Value) (hp : p = .pointer (some ⟨W.heap.size, 0, none⟩)) : ((do Instr.storeAt 79 p (.agg isaCells); pure Next.skip : Sem Next)).run Tryd.prog (W.alloc (.cells isaZeros 79)) = .ok .skip (W.alloc (.cells isaCells 79)) := by
  subst hp
  rw [Sem.run_bind, run_storeAt_new W 79 isaZeros isaCells isa_info (by kernel_rfl) (by kernel_rfl)]
  rfl
theorem isa_tab (k : Nat) (hk : k < 25) : isaCells[k * 4]? = some (.string (isaForm (k : Int)).1) ∧ isaCells[k * 4 + 1]? = some (.string (isaForm (k : Int)).2.1) ∧ isaCells[k * 4 + 2]? = some (.int .i64 (isaForm (k : Int)).2.2.1) ∧ isaCells[k * 4 + 3]? = some (.int .i64 (isaForm (k : Int)).2.2.2) := by
  match k, hk with
  | 0, _ => exact ⟨by kernel_rfl, by kernel_rfl, by kernel_rfl, by kernel_rfl⟩
  | 1, _ => exact ⟨by kernel_rfl, by kernel_rfl, by kernel_rfl, by kernel_rfl⟩
  | 2, _ => exact ⟨by kernel_rfl, by kernel_rfl, by kernel_rfl, by kernel_rfl⟩
  | 3, _ => exact ⟨by kernel_rfl, by kernel_rfl, by kernel_rfl, by kernel_rfl⟩
  | 4, _ => exact ⟨by kernel_rfl, by kernel_rfl, by kernel_rfl, by kernel_rfl⟩
  | 5, _ => exact ⟨by kernel_rfl, by kernel_rfl, by kernel_rfl, by kernel_rfl⟩
  | 6, _ => exact ⟨by kernel_rfl, by kernel_rfl, by kernel_rfl, by kernel_rfl⟩
  | 7, _ => exact ⟨by kernel_rfl, by kernel_rfl, by kernel_rfl, by kernel_rfl⟩
  | 8, _ => exact ⟨by kernel_rfl, by kernel_rfl, by kernel_rfl, by kernel_rfl⟩
  | 9, _ => exact ⟨by kernel_rfl, by kernel_rfl, by kernel_rfl, by kernel_rfl⟩
  | 10, _ => exact ⟨by kernel_rfl, by kernel_rfl, by kernel_rfl, by kernel_rfl⟩
  | 11, _ => exact ⟨by kernel_rfl, by kernel_rfl, by kernel_rfl, by kernel_rfl⟩
  | 12, _ => exact ⟨by kernel_rfl, by kernel_rfl, by kernel_rfl, by kernel_rfl⟩
  | 13, _ => exact ⟨by kernel_rfl, by kernel_rfl, by kernel_rfl, by kernel_rfl⟩
  | 14, _ => exact ⟨by kernel_rfl, by kernel_rfl, by kernel_rfl, by kernel_rfl⟩
  | 15, _ => exact ⟨by kernel_rfl, by kernel_rfl, by kernel_rfl, by kernel_rfl⟩
  | 16, _ => exact ⟨by kernel_rfl, by kernel_rfl, by kernel_rfl, by kernel_rfl⟩
  | 17, _ => exact ⟨by kernel_rfl, by kernel_rfl, by kernel_rfl, by kernel_rfl⟩
  | 18, _ => exact ⟨by kernel_rfl, by kernel_rfl, by kernel_rfl, by kernel_rfl⟩
  | 19, _ => exact ⟨by kernel_rfl, by kernel_rfl, by kernel_rfl, by kernel_rfl⟩
  | 20, _ => exact ⟨by kernel_rfl, by kernel_rfl, by kernel_rfl, by kernel_rfl⟩
  | 21, _ => exact ⟨by kernel_rfl, by kernel_rfl, by kernel_rfl, by kernel_rfl⟩
  | 22, _ => exact ⟨by kernel_rfl, by kernel_rfl, by kernel_rfl, by kernel_rfl⟩
  | 23, _ => exact ⟨by kernel_rfl, by kernel_rfl, by kernel_rfl, by kernel_rfl⟩
  | 24, _ => exact ⟨by kernel_rfl, by kernel_rfl, by kernel_rfl, by kernel_rfl⟩
  | n + 25, h => exact absurd h (by omega)
theorem isa_cell (W : World) (i : Nat) (v : Value) (h : isaCells[i]? = some v) : (W.alloc (.cells isaCells 79)).cell? ⟨W.heap.size, i, none⟩ = some v := by
  rw [cell_of_row _ _ i isaCells 79 (0, 0) (heap_alloc_last W _)]; exact h
set_option maxHeartbeats 4000000 in
set_option maxRecDepth 100000 in
theorem isa_forms.calls (a0 : Int) (w : World) :
    Calls Tryd.prog 23 #[.int .i64 a0] w fun e w' => e = .returned (.agg #[.string (isaForm a0).1, .string (isaForm a0).2.1, .int .i64 (isaForm a0).2.2.1, .int .i64 (isaForm a0).2.2.2]) ∧ Below w.heap.size w w' := by
  have hz := isa_zero
  by_cases h0 : a0 < 0
  · have e : isaForm a0 = (⟨#[]⟩, ⟨#[]⟩, 0, 0) := if_neg (by omega)
    rw [e]
    have c0 := decide_eq_true h0
    go_enter Tryd.func23, Tryd.ntmps23
    go_wp2_with ((with_reducible refine gate_dst (N := 4) rfl ?_); (iterate 25 (refine Kd.event_run rfl (isa_b4op _ _ _ _ _ _ _ _ _ _) ?_)); refine event_pure (.agg isaCells) rfl ?_ ?_; (kernel_rfl); (refine Kd.event_run rfl (isa_allocop _ _ _ _ _ _) ?_); refine event_skip (w1 := (w.alloc (.cells #[.string ⟨#[]⟩, .string ⟨#[]⟩, .int .i64 0, .int .i64 0] 54)).alloc (.cells isaCells 79)) rfl ?_ ?_; (refine Eq.trans (b := ((do Instr.storeAt 79 (.pointer (some ⟨(w.alloc (.cells #[.string ⟨#[]⟩, .string ⟨#[]⟩, .int .i64 0, .int .i64 0] 54)).heap.size, 0, none⟩)) (.agg isaCells); pure Next.skip : Sem Next)).run Tryd.prog ((w.alloc (.cells #[.string ⟨#[]⟩, .string ⟨#[]⟩, .int .i64 0, .int .i64 0] 54)).alloc (.cells isaZeros 79))) ?_ (isa_store _ _ rfl)); (kernel_rfl))
    refine bodyPost_ret (results_c1 rfl _ _ w.heap.size 54 #[.string ⟨#[]⟩, .string ⟨#[]⟩, .int .i64 0, .int .i64 0] (0, 0) _ rfl ((Below.heap_alloc _ _ _ (by simp)).trans (heap_alloc_last w _)) Tryd.underlying54 rfl (by kernel_rfl)) rfl ?_
    exact ⟨rfl, ((Below.refl _ w).alloc (Nat.le_refl _) _).alloc (by simp) _⟩
  by_cases h1 : 25 ≤ a0
  · have e : isaForm a0 = (⟨#[]⟩, ⟨#[]⟩, 0, 0) := if_neg (by omega)
    rw [e]
    have c0 := decide_eq_false h0
    have c1 := decide_eq_true h1
    go_enter Tryd.func23, Tryd.ntmps23
    go_wp2_with ((with_reducible refine gate_dst (N := 4) rfl ?_); (iterate 25 (refine Kd.event_run rfl (isa_b4op _ _ _ _ _ _ _ _ _ _) ?_)); refine event_pure (.agg isaCells) rfl ?_ ?_; (kernel_rfl); (refine Kd.event_run rfl (isa_allocop _ _ _ _ _ _) ?_); refine event_skip (w1 := (w.alloc (.cells #[.string ⟨#[]⟩, .string ⟨#[]⟩, .int .i64 0, .int .i64 0] 54)).alloc (.cells isaCells 79)) rfl ?_ ?_; (refine Eq.trans (b := ((do Instr.storeAt 79 (.pointer (some ⟨(w.alloc (.cells #[.string ⟨#[]⟩, .string ⟨#[]⟩, .int .i64 0, .int .i64 0] 54)).heap.size, 0, none⟩)) (.agg isaCells); pure Next.skip : Sem Next)).run Tryd.prog ((w.alloc (.cells #[.string ⟨#[]⟩, .string ⟨#[]⟩, .int .i64 0, .int .i64 0] 54)).alloc (.cells isaZeros 79))) ?_ (isa_store _ _ rfl)); (kernel_rfl))
    refine bodyPost_ret (results_c1 rfl _ _ w.heap.size 54 #[.string ⟨#[]⟩, .string ⟨#[]⟩, .int .i64 0, .int .i64 0] (0, 0) _ rfl ((Below.heap_alloc _ _ _ (by simp)).trans (heap_alloc_last w _)) Tryd.underlying54 rfl (by kernel_rfl)) rfl ?_
    exact ⟨rfl, ((Below.refl _ w).alloc (Nat.le_refl _) _).alloc (by simp) _⟩
  · obtain ⟨k, rfl⟩ : ∃ k : Nat, a0 = (k : Int) := ⟨a0.toNat, by omega⟩
    obtain ⟨t0, t1, t2, t3⟩ := isa_tab k (by omega)
    have d0 := isa_cell (w.alloc (.cells #[.string ⟨#[]⟩, .string ⟨#[]⟩, .int .i64 0, .int .i64 0] 54)) _ _ t0
    have d1 := isa_cell (w.alloc (.cells #[.string ⟨#[]⟩, .string ⟨#[]⟩, .int .i64 0, .int .i64 0] 54)) _ _ t1
    have d2 := isa_cell (w.alloc (.cells #[.string ⟨#[]⟩, .string ⟨#[]⟩, .int .i64 0, .int .i64 0] 54)) _ _ t2
    have d3 := isa_cell (w.alloc (.cells #[.string ⟨#[]⟩, .string ⟨#[]⟩, .int .i64 0, .int .i64 0] 54)) _ _ t3
    rw [World.size_alloc] at d0 d1 d2 d3
    clear t0 t1 t2 t3
    generalize isaForm (k : Int) = fm at *
    have c0 := decide_eq_false h0
    have c1 := decide_eq_false h1
    go_enter Tryd.func23, Tryd.ntmps23
    go_wp2_with ((with_reducible refine gate_dst (N := 4) rfl ?_); (iterate 25 (refine Kd.event_run rfl (isa_b4op _ _ _ _ _ _ _ _ _ _) ?_)); refine event_pure (.agg isaCells) rfl ?_ ?_; (kernel_rfl); (refine Kd.event_run rfl (isa_allocop _ _ _ _ _ _) ?_); refine event_skip (w1 := (w.alloc (.cells #[.string ⟨#[]⟩, .string ⟨#[]⟩, .int .i64 0, .int .i64 0] 54)).alloc (.cells isaCells 79)) rfl ?_ ?_; (refine Eq.trans (b := ((do Instr.storeAt 79 (.pointer (some ⟨(w.alloc (.cells #[.string ⟨#[]⟩, .string ⟨#[]⟩, .int .i64 0, .int .i64 0] 54)).heap.size, 0, none⟩)) (.agg isaCells); pure Next.skip : Sem Next)).run Tryd.prog ((w.alloc (.cells #[.string ⟨#[]⟩, .string ⟨#[]⟩, .int .i64 0, .int .i64 0] 54)).alloc (.cells isaZeros 79))) ?_ (isa_store _ _ rfl)); (kernel_rfl))
    refine bodyPost_ret (results_c1 rfl _ _ w.heap.size 54 #[.string fm.1, .string fm.2.1, .int .i64 fm.2.2.1, .int .i64 fm.2.2.2] (0, 0) _ rfl ((Below.heap_alloc _ _ _ (by simp)).trans (heap_alloc_last w _)) Tryd.underlying54 rfl (by kernel_rfl)) rfl ?_
    exact ⟨rfl, ((Below.refl _ w).alloc (Nat.le_refl _) _).alloc (by simp) _⟩
end Go.Proofs.YtlhkojnocconfaaDoor.Q
