/- num.Do walked by hand: nine closures in an array of structs; what it computes is num_Do.f. -/
import Derived.Test.YtgnfobnlipjedaaDoorQx0
import Derived.Laws.EntriesVeiled
namespace Go.Proofs.YtgnfobnlipjedaaDoor.Q
open Go.RowKit Go.Proofs.YtgnfobnlipjedaaDoorW.PrintWords Go.Proofs.YtgnfobnlipjedaaDoorW.PrintLast Go.Proofs.YtgnfobnlipjedaaDoorW.PrintMore
attribute [local go_sem] max2_int min2_int max_two min_two max_three min_three max_four min_four   -- for this text's walks alone
set_option linter.unusedVariables false
set_option linter.unusedSimpArgs false

set_option maxHeartbeats 1000000 in
set_option maxRecDepth 100000 in
theorem hdo.asks (g : FuncId) (w : World) : Calls Tryd.prog 27 #[.func (.func g) #[] #[]] w fun e w' => e = .returned (.agg #[.func (.func 28) #[] #[.pointer (some ⟨w.heap.size, 0, none⟩)]]) ∧ w' = (w.alloc (.cells #[.func (.func g) #[] #[]] 56)).alloc (.cells #[.func (.func 28) #[] #[.pointer (some ⟨w.heap.size, 0, none⟩)]] 46) := by
  have hmf : ∀ (fn : Fn) (first cap : Array Value) (w : World), (Instr.makeFunc fn first cap).run Tryd.prog w = .ok (.func fn first cap) w := fun _ _ _ _ => rfl
  go_enter Tryd.func27, Tryd.ntmps27
  go_wp2
  exact bodyPost_ret (v := .agg #[.func (.func 28) #[] #[.pointer (some ⟨w.heap.size, 0, none⟩)]]) (by simp [results, Tryd.results27, go_sem]) rfl ⟨rfl, rfl⟩
/-- the nine doers: what they hold -/
def hdo.DoersAt (w' : World) (v : Value) : Prop := ∃ a b c d : Addr, v = .agg #[.func (.func 30) #[] #[], .func (.func 31) #[] #[], .func (.func 32) #[] #[], .func (.func 33) #[] #[], .func (.func 34) #[] #[], .func (.func 28) #[] #[.pointer (some a)], .func (.func 28) #[] #[.pointer (some b)], .func (.func 28) #[] #[.pointer (some c)], .func (.func 28) #[] #[.pointer (some d)]] ∧
  (w'.cell? a = some (.func (.func 35) #[] #[]) ∧ w'.cell? b = some (.func (.func 36) #[] #[]) ∧ w'.cell? c = some (.func (.func 37) #[] #[]) ∧ w'.cell? d = some (.func (.func 38) #[] #[]))
set_option maxHeartbeats 4000000 in
set_option maxRecDepth 100000 in
theorem hdo.doers (w : World) : Calls Tryd.prog 20 #[] w fun e w' => (∃ v, e = .returned v ∧ hdo.DoersAt w' v) ∧ Below w.heap.size w w' := by
  have hmf : ∀ (fn : Fn) (first cap : Array Value) (w : World), (Instr.makeFunc fn first cap).run Tryd.prog w = .ok (.func fn first cap) w := fun _ _ _ _ => rfl
  go_enter Tryd.func20, Tryd.ntmps20
  go_wp2_with (go_at_call 27; refine (hdo.asks _ _).mono ?_; rintro e w' ⟨rfl, rfl⟩)
  refine bodyPost_ret (v := .agg #[.func (.func 30) #[] #[], .func (.func 31) #[] #[], .func (.func 32) #[] #[], .func (.func 33) #[] #[], .func (.func 34) #[] #[], .func (.func 28) #[] #[.pointer (some ⟨w.heap.size + 1, 0, none⟩)], .func (.func 28) #[] #[.pointer (some ⟨w.heap.size + 1 + 1 + 1, 0, none⟩)], .func (.func 28) #[] #[.pointer (some ⟨w.heap.size + 1 + 1 + 1 + 1 + 1, 0, none⟩)], .func (.func 28) #[] #[.pointer (some ⟨w.heap.size + 1 + 1 + 1 + 1 + 1 + 1 + 1, 0, none⟩)]]) (by simp [results, Tryd.results20, go_sem]) rfl ⟨⟨_, rfl, _, _, _, _, rfl, ?_, ?_, ?_, ?_⟩, ?_⟩
  · simp [go_sem]
  · simp [go_sem]
  · simp [go_sem]
  · simp [go_sem]
  · exact (((((((((Below.refl _ _).alloc (Nat.le_refl _) _).alloc (by simp) _).alloc (by simp; omega) _).alloc (by simp; omega) _).alloc (by simp; omega) _).alloc (by simp; omega) _).alloc (by simp; omega) _).alloc (by simp; omega) _).alloc (by simp; omega) _
theorem hdo.idx0 (w : World) (a b c d : Addr) : (Instr.index 47 (.agg #[.func (.func 30) #[] #[], .func (.func 31) #[] #[], .func (.func 32) #[] #[], .func (.func 33) #[] #[], .func (.func 34) #[] #[], .func (.func 28) #[] #[.pointer (some a)], .func (.func 28) #[] #[.pointer (some b)], .func (.func 28) #[] #[.pointer (some c)], .func (.func 28) #[] #[.pointer (some d)]]) (.int .i64 0)).run Tryd.prog w = .ok (.agg #[.func (.func 30) #[] #[]]) w := by kernel_rfl
theorem hdo.idx1 (w : World) (a b c d : Addr) : (Instr.index 47 (.agg #[.func (.func 30) #[] #[], .func (.func 31) #[] #[], .func (.func 32) #[] #[], .func (.func 33) #[] #[], .func (.func 34) #[] #[], .func (.func 28) #[] #[.pointer (some a)], .func (.func 28) #[] #[.pointer (some b)], .func (.func 28) #[] #[.pointer (some c)], .func (.func 28) #[] #[.pointer (some d)]]) (.int .i64 1)).run Tryd.prog w = .ok (.agg #[.func (.func 31) #[] #[]]) w := by kernel_rfl
theorem hdo.idx2 (w : World) (a b c d : Addr) : (Instr.index 47 (.agg #[.func (.func 30) #[] #[], .func (.func 31) #[] #[], .func (.func 32) #[] #[], .func (.func 33) #[] #[], .func (.func 34) #[] #[], .func (.func 28) #[] #[.pointer (some a)], .func (.func 28) #[] #[.pointer (some b)], .func (.func 28) #[] #[.pointer (some c)], .func (.func 28) #[] #[.pointer (some d)]]) (.int .i64 2)).run Tryd.prog w = .ok (.agg #[.func (.func 32) #[] #[]]) w := by kernel_rfl
theorem hdo.idx3 (w : World) (a b c d : Addr) : (Instr.index 47 (.agg #[.func (.func 30) #[] #[], .func (.func 31) #[] #[], .func (.func 32) #[] #[], .func (.func 33) #[] #[], .func (.func 34) #[] #[], .func (.func 28) #[] #[.pointer (some a)], .func (.func 28) #[] #[.pointer (some b)], .func (.func 28) #[] #[.pointer (some c)], .func (.func 28) #[] #[.pointer (some d)]]) (.int .i64 3)).run Tryd.prog w = .ok (.agg #[.func (.func 33) #[] #[]]) w := by kernel_rfl
theorem hdo.idx4 (w : World) (a b c d : Addr) : (Instr.index 47 (.agg #[.func (.func 30) #[] #[], .func (.func 31) #[] #[], .func (.func 32) #[] #[], .func (.func 33) #[] #[], .func (.func 34) #[] #[], .func (.func 28) #[] #[.pointer (some a)], .func (.func 28) #[] #[.pointer (some b)], .func (.func 28) #[] #[.pointer (some c)], .func (.func 28) #[] #[.pointer (some d)]]) (.int .i64 4)).run Tryd.prog w = .ok (.agg #[.func (.func 34) #[] #[]]) w := by kernel_rfl
theorem hdo.idx5 (w : World) (a b c d : Addr) : (Instr.index 47 (.agg #[.func (.func 30) #[] #[], .func (.func 31) #[] #[], .func (.func 32) #[] #[], .func (.func 33) #[] #[], .func (.func 34) #[] #[], .func (.func 28) #[] #[.pointer (some a)], .func (.func 28) #[] #[.pointer (some b)], .func (.func 28) #[] #[.pointer (some c)], .func (.func 28) #[] #[.pointer (some d)]]) (.int .i64 5)).run Tryd.prog w = .ok (.agg #[.func (.func 28) #[] #[.pointer (some a)]]) w := by kernel_rfl
theorem hdo.idx6 (w : World) (a b c d : Addr) : (Instr.index 47 (.agg #[.func (.func 30) #[] #[], .func (.func 31) #[] #[], .func (.func 32) #[] #[], .func (.func 33) #[] #[], .func (.func 34) #[] #[], .func (.func 28) #[] #[.pointer (some a)], .func (.func 28) #[] #[.pointer (some b)], .func (.func 28) #[] #[.pointer (some c)], .func (.func 28) #[] #[.pointer (some d)]]) (.int .i64 6)).run Tryd.prog w = .ok (.agg #[.func (.func 28) #[] #[.pointer (some b)]]) w := by kernel_rfl
theorem hdo.idx7 (w : World) (a b c d : Addr) : (Instr.index 47 (.agg #[.func (.func 30) #[] #[], .func (.func 31) #[] #[], .func (.func 32) #[] #[], .func (.func 33) #[] #[], .func (.func 34) #[] #[], .func (.func 28) #[] #[.pointer (some a)], .func (.func 28) #[] #[.pointer (some b)], .func (.func 28) #[] #[.pointer (some c)], .func (.func 28) #[] #[.pointer (some d)]]) (.int .i64 7)).run Tryd.prog w = .ok (.agg #[.func (.func 28) #[] #[.pointer (some c)]]) w := by kernel_rfl
theorem hdo.idx8 (w : World) (a b c d : Addr) : (Instr.index 47 (.agg #[.func (.func 30) #[] #[], .func (.func 31) #[] #[], .func (.func 32) #[] #[], .func (.func 33) #[] #[], .func (.func 34) #[] #[], .func (.func 28) #[] #[.pointer (some a)], .func (.func 28) #[] #[.pointer (some b)], .func (.func 28) #[] #[.pointer (some c)], .func (.func 28) #[] #[.pointer (some d)]]) (.int .i64 8)).run Tryd.prog w = .ok (.agg #[.func (.func 28) #[] #[.pointer (some d)]]) w := by kernel_rfl
theorem hdo.fld (w : World) (f : Fn) (c : Array Value) : (Instr.field 46 (.agg #[.func f #[] c]) 0).run Tryd.prog w = .ok (.func f #[] c) w := by kernel_rfl
def nw (a : Int) : Int := wrap64 (wrap32 (((a % 4294967296) * 2) % 4294967296) / 2)
theorem hdo.wrap_any (a : Int) (w : World) : Calls Tryd.prog 12 #[.int .i64 a] w fun e w' => e = .returned (.int .i64 (nw a)) ∧ w = w' := by
  go_enter Tryd.func12, Tryd.ntmps12
  go_wp2
  go_ret
  exact ⟨rfl, rfl⟩
def one (b : Bool) : Int := if b = true then 1 else 0
theorem hdo.one_any (b : Bool) (w : World) : Calls Tryd.prog 29 #[.bool b] w fun e w' => e = .returned (.int .i64 (one b)) ∧ w = w' := by
  cases b
  all_goals
    go_enter Tryd.func29, Tryd.ntmps29
    go_wp2
    go_ret
    exact ⟨rfl, rfl⟩
set_option maxHeartbeats 4000000 in
set_option maxRecDepth 100000 in
theorem hdo.do_add (a b : Int) (w : World) : Calls Tryd.prog 16 #[.int .i64 1, .int .i64 a, .int .i64 b] w fun e w' => e = .returned (.tuple #[.int .i64 (nw (wrap64 (nw a + nw b))), .int .i64 0]) ∧ Below w.heap.size w w' := by
  have hix := hdo.idx0
  have hfl := hdo.fld
  go_enter Tryd.func16, Tryd.ntmps16
  go_wp2_with (first | (go_at_call 12; refine (hdo.wrap_any _ _).mono ?_; rintro e w' ⟨rfl, rfl⟩) | (go_at_call 29; refine (hdo.one_any _ _).mono ?_; rintro e w' ⟨rfl, rfl⟩) | (go_at_call 20; refine (hdo.doers _).mono ?_; rintro e w' ⟨⟨v, rfl, pa, pb, pc, pd, rfl, ca, cb, cc, cd⟩, hbel⟩) | go_in)
  go_ret2
  exact ⟨rfl, ‹_›⟩
set_option maxHeartbeats 4000000 in
set_option maxRecDepth 100000 in
theorem hdo.do_sub (a b : Int) (w : World) : Calls Tryd.prog 16 #[.int .i64 2, .int .i64 a, .int .i64 b] w fun e w' => e = .returned (.tuple #[.int .i64 (nw (wrap64 (nw a - nw b))), .int .i64 0]) ∧ Below w.heap.size w w' := by
  have hix := hdo.idx1
  have hfl := hdo.fld
  go_enter Tryd.func16, Tryd.ntmps16
  go_wp2_with (first | (go_at_call 12; refine (hdo.wrap_any _ _).mono ?_; rintro e w' ⟨rfl, rfl⟩) | (go_at_call 29; refine (hdo.one_any _ _).mono ?_; rintro e w' ⟨rfl, rfl⟩) | (go_at_call 20; refine (hdo.doers _).mono ?_; rintro e w' ⟨⟨v, rfl, pa, pb, pc, pd, rfl, ca, cb, cc, cd⟩, hbel⟩) | go_in)
  go_ret2
  exact ⟨rfl, ‹_›⟩
set_option maxHeartbeats 4000000 in
set_option maxRecDepth 100000 in
theorem hdo.do_mul (a b : Int) (w : World) : Calls Tryd.prog 16 #[.int .i64 3, .int .i64 a, .int .i64 b] w fun e w' => e = .returned (.tuple #[.int .i64 (nw (wrap64 (nw a * nw b))), .int .i64 0]) ∧ Below w.heap.size w w' := by
  have hix := hdo.idx2
  have hfl := hdo.fld
  go_enter Tryd.func16, Tryd.ntmps16
  go_wp2_with (first | (go_at_call 12; refine (hdo.wrap_any _ _).mono ?_; rintro e w' ⟨rfl, rfl⟩) | (go_at_call 29; refine (hdo.one_any _ _).mono ?_; rintro e w' ⟨rfl, rfl⟩) | (go_at_call 20; refine (hdo.doers _).mono ?_; rintro e w' ⟨⟨v, rfl, pa, pb, pc, pd, rfl, ca, cb, cc, cd⟩, hbel⟩) | go_in)
  go_ret2
  exact ⟨rfl, ‹_›⟩
set_option maxHeartbeats 4000000 in
set_option maxRecDepth 100000 in
theorem hdo.do_div (a b : Int) (w : World) (hy : (nw b == 0) = false) (hy2 : nw b ≠ 0) : Calls Tryd.prog 16 #[.int .i64 4, .int .i64 a, .int .i64 b] w fun e w' => e = .returned (.tuple #[.int .i64 (nw (wrap64 (Int.tdiv (nw a) (nw b)))), .int .i64 0]) ∧ Below w.heap.size w w' := by
  have hix := hdo.idx3
  have hfl := hdo.fld
  go_enter Tryd.func16, Tryd.ntmps16
  go_wp2_with (first | (go_at_call 12; refine (hdo.wrap_any _ _).mono ?_; rintro e w' ⟨rfl, rfl⟩) | (go_at_call 29; refine (hdo.one_any _ _).mono ?_; rintro e w' ⟨rfl, rfl⟩) | (go_at_call 20; refine (hdo.doers _).mono ?_; rintro e w' ⟨⟨v, rfl, pa, pb, pc, pd, rfl, ca, cb, cc, cd⟩, hbel⟩) | go_in)
  go_ret2
  exact ⟨rfl, ‹_›⟩
set_option maxHeartbeats 4000000 in
set_option maxRecDepth 100000 in
theorem hdo.do_mod (a b : Int) (w : World) (hy : (nw b == 0) = false) (hy2 : nw b ≠ 0) : Calls Tryd.prog 16 #[.int .i64 5, .int .i64 a, .int .i64 b] w fun e w' => e = .returned (.tuple #[.int .i64 (nw (Int.tmod (nw a) (nw b))), .int .i64 0]) ∧ Below w.heap.size w w' := by
  have hix := hdo.idx4
  have hfl := hdo.fld
  go_enter Tryd.func16, Tryd.ntmps16
  go_wp2_with (first | (go_at_call 12; refine (hdo.wrap_any _ _).mono ?_; rintro e w' ⟨rfl, rfl⟩) | (go_at_call 29; refine (hdo.one_any _ _).mono ?_; rintro e w' ⟨rfl, rfl⟩) | (go_at_call 20; refine (hdo.doers _).mono ?_; rintro e w' ⟨⟨v, rfl, pa, pb, pc, pd, rfl, ca, cb, cc, cd⟩, hbel⟩) | go_in)
  go_ret2
  exact ⟨rfl, ‹_›⟩
set_option maxHeartbeats 4000000 in
set_option maxRecDepth 100000 in
theorem hdo.do_eq (a b : Int) (w : World) : Calls Tryd.prog 16 #[.int .i64 6, .int .i64 a, .int .i64 b] w fun e w' => e = .returned (.tuple #[.int .i64 (nw (one (nw a == nw b))), .int .i64 0]) ∧ Below w.heap.size w w' := by
  have hix := hdo.idx5
  have hfl := hdo.fld
  go_enter Tryd.func16, Tryd.ntmps16
  go_wp2_with (first | (go_at_call 12; refine (hdo.wrap_any _ _).mono ?_; rintro e w' ⟨rfl, rfl⟩) | (go_at_call 29; refine (hdo.one_any _ _).mono ?_; rintro e w' ⟨rfl, rfl⟩) | (go_at_call 20; refine (hdo.doers _).mono ?_; rintro e w' ⟨⟨v, rfl, pa, pb, pc, pd, rfl, ca, cb, cc, cd⟩, hbel⟩) | go_in)
  go_ret2
  exact ⟨rfl, ‹_›⟩
set_option maxHeartbeats 4000000 in
set_option maxRecDepth 100000 in
theorem hdo.do_ne (a b : Int) (w : World) : Calls Tryd.prog 16 #[.int .i64 7, .int .i64 a, .int .i64 b] w fun e w' => e = .returned (.tuple #[.int .i64 (nw (one (nw a != nw b))), .int .i64 0]) ∧ Below w.heap.size w w' := by
  have hix := hdo.idx6
  have hfl := hdo.fld
  go_enter Tryd.func16, Tryd.ntmps16
  go_wp2_with (first | (go_at_call 12; refine (hdo.wrap_any _ _).mono ?_; rintro e w' ⟨rfl, rfl⟩) | (go_at_call 29; refine (hdo.one_any _ _).mono ?_; rintro e w' ⟨rfl, rfl⟩) | (go_at_call 20; refine (hdo.doers _).mono ?_; rintro e w' ⟨⟨v, rfl, pa, pb, pc, pd, rfl, ca, cb, cc, cd⟩, hbel⟩) | go_in)
  go_ret2
  exact ⟨rfl, ‹_›⟩
set_option maxHeartbeats 4000000 in
set_option maxRecDepth 100000 in
theorem hdo.do_lt (a b : Int) (w : World) : Calls Tryd.prog 16 #[.int .i64 8, .int .i64 a, .int .i64 b] w fun e w' => e = .returned (.tuple #[.int .i64 (nw (one (decide (nw a < nw b)))), .int .i64 0]) ∧ Below w.heap.size w w' := by
  have hix := hdo.idx7
  have hfl := hdo.fld
  go_enter Tryd.func16, Tryd.ntmps16
  go_wp2_with (first | (go_at_call 12; refine (hdo.wrap_any _ _).mono ?_; rintro e w' ⟨rfl, rfl⟩) | (go_at_call 29; refine (hdo.one_any _ _).mono ?_; rintro e w' ⟨rfl, rfl⟩) | (go_at_call 20; refine (hdo.doers _).mono ?_; rintro e w' ⟨⟨v, rfl, pa, pb, pc, pd, rfl, ca, cb, cc, cd⟩, hbel⟩) | go_in)
  go_ret2
  exact ⟨rfl, ‹_›⟩
set_option maxHeartbeats 4000000 in
set_option maxRecDepth 100000 in
theorem hdo.do_le (a b : Int) (w : World) : Calls Tryd.prog 16 #[.int .i64 9, .int .i64 a, .int .i64 b] w fun e w' => e = .returned (.tuple #[.int .i64 (nw (one (decide (nw a ≤ nw b)))), .int .i64 0]) ∧ Below w.heap.size w w' := by
  have hix := hdo.idx8
  have hfl := hdo.fld
  go_enter Tryd.func16, Tryd.ntmps16
  go_wp2_with (first | (go_at_call 12; refine (hdo.wrap_any _ _).mono ?_; rintro e w' ⟨rfl, rfl⟩) | (go_at_call 29; refine (hdo.one_any _ _).mono ?_; rintro e w' ⟨rfl, rfl⟩) | (go_at_call 20; refine (hdo.doers _).mono ?_; rintro e w' ⟨⟨v, rfl, pa, pb, pc, pd, rfl, ca, cb, cc, cd⟩, hbel⟩) | go_in)
  go_ret2
  exact ⟨rfl, ‹_›⟩
set_option maxHeartbeats 4000000 in
set_option maxRecDepth 100000 in
theorem hdo.do_low (a b : Int) (w : World) (p : Int) (h : p < 1) : Calls Tryd.prog 16 #[.int .i64 p, .int .i64 a, .int .i64 b] w fun e w' => e = .returned (.tuple #[.int .i64 0, .int .i64 28]) ∧ Below w.heap.size w w' := by
  go_enter Tryd.func16, Tryd.ntmps16
  go_wp2_with (first | (go_at_call 12; refine (hdo.wrap_any _ _).mono ?_; rintro e w' ⟨rfl, rfl⟩))
  go_ret2
  exact ⟨rfl, Below.refl _ _⟩
set_option maxHeartbeats 4000000 in
set_option maxRecDepth 100000 in
theorem hdo.do_high (a b : Int) (w : World) (p : Int) (h : 9 < p) : Calls Tryd.prog 16 #[.int .i64 p, .int .i64 a, .int .i64 b] w fun e w' => e = .returned (.tuple #[.int .i64 0, .int .i64 28]) ∧ Below w.heap.size w w' := by
  go_enter Tryd.func16, Tryd.ntmps16
  go_wp2_with (first | (go_at_call 12; refine (hdo.wrap_any _ _).mono ?_; rintro e w' ⟨rfl, rfl⟩))
  go_ret2
  exact ⟨rfl, Below.refl _ _⟩
set_option maxHeartbeats 4000000 in
set_option maxRecDepth 100000 in
theorem hdo.do_zero4 (a b : Int) (w : World) (hy : (nw b == 0) = true) : Calls Tryd.prog 16 #[.int .i64 4, .int .i64 a, .int .i64 b] w fun e w' => e = .returned (.tuple #[.int .i64 0, .int .i64 2]) ∧ Below w.heap.size w w' := by
  go_enter Tryd.func16, Tryd.ntmps16
  go_wp2_with (first | (go_at_call 12; refine (hdo.wrap_any _ _).mono ?_; rintro e w' ⟨rfl, rfl⟩))
  go_ret2
  exact ⟨rfl, Below.refl _ _⟩
set_option maxHeartbeats 4000000 in
set_option maxRecDepth 100000 in
theorem hdo.do_zero5 (a b : Int) (w : World) (hy : (nw b == 0) = true) : Calls Tryd.prog 16 #[.int .i64 5, .int .i64 a, .int .i64 b] w fun e w' => e = .returned (.tuple #[.int .i64 0, .int .i64 2]) ∧ Below w.heap.size w w' := by
  go_enter Tryd.func16, Tryd.ntmps16
  go_wp2_with (first | (go_at_call 12; refine (hdo.wrap_any _ _).mono ?_; rintro e w' ⟨rfl, rfl⟩))
  go_ret2
  exact ⟨rfl, Below.refl _ _⟩
def opOf (k x y : Int) : Int := if k = 1 then wrap64 (x + y) else if k = 2 then wrap64 (x - y) else if k = 3 then wrap64 (x * y) else if k = 4 then wrap64 (Int.tdiv (x) (y)) else if k = 5 then Int.tmod (x) (y) else if k = 6 then one (x == y) else if k = 7 then one (x != y) else if k = 8 then one (decide (x < y)) else one (decide (x ≤ y))
def num_Do.f (a0 : Int) (a1 : Int) (a2 : Int) : Option (Int × Int) :=
  if a0 < 1 then some (0, 28) else if 9 < a0 then some (0, 28) else if (a0 = 4 ∨ a0 = 5) ∧ nw a2 = 0 then some (0, 2) else some (nw (opOf a0 (nw a1) (nw a2)), 0)
theorem num_Do.calls (a0 : Int) (a1 : Int) (a2 : Int) (r1 : Int) (r2 : Int) (w : World) (h : num_Do.f a0 a1 a2 = some (r1, r2)) :
    Calls Tryd.prog 16 #[.int .i64 a0, .int .i64 a1, .int .i64 a2] w fun e w' => e = .returned (.tuple #[.int .i64 r1, .int .i64 r2]) ∧ Below w.heap.size w w' := by
  unfold num_Do.f at h
  by_cases h1 : a0 < 1
  · rw [if_pos h1] at h; obtain ⟨rfl, rfl⟩ := Prod.mk.inj (Option.some.inj h); exact hdo.do_low a1 a2 w a0 h1
  rw [if_neg h1] at h
  by_cases h2 : 9 < a0
  · rw [if_pos h2] at h; obtain ⟨rfl, rfl⟩ := Prod.mk.inj (Option.some.inj h); exact hdo.do_high a1 a2 w a0 h2
  rw [if_neg h2] at h
  by_cases h3 : (a0 = 4 ∨ a0 = 5) ∧ nw a2 = 0
  · rw [if_pos h3] at h; obtain ⟨rfl, rfl⟩ := Prod.mk.inj (Option.some.inj h)
    obtain ⟨h4 | h4, h5⟩ := h3
    · subst h4; exact hdo.do_zero4 a1 a2 w (by rw [h5]; rfl)
    · subst h4; exact hdo.do_zero5 a1 a2 w (by rw [h5]; rfl)
  rw [if_neg h3] at h
  obtain ⟨rfl, rfl⟩ := Prod.mk.inj (Option.some.inj h)
  have hc : a0 = 1 ∨ a0 = 2 ∨ a0 = 3 ∨ a0 = 4 ∨ a0 = 5 ∨ a0 = 6 ∨ a0 = 7 ∨ a0 = 8 ∨ a0 = 9 := by omega
  rcases hc with rfl | rfl | rfl | rfl | rfl | rfl | rfl | rfl | rfl
  · exact hdo.do_add a1 a2 w
  · exact hdo.do_sub a1 a2 w
  · exact hdo.do_mul a1 a2 w
  · exact hdo.do_div a1 a2 w (beq_eq_false_iff_ne.mpr fun h => h3 ⟨.inl rfl, h⟩) (fun h => h3 ⟨.inl rfl, h⟩)
  · exact hdo.do_mod a1 a2 w (beq_eq_false_iff_ne.mpr fun h => h3 ⟨.inr rfl, h⟩) (fun h => h3 ⟨.inr rfl, h⟩)
  · exact hdo.do_eq a1 a2 w
  · exact hdo.do_ne a1 a2 w
  · exact hdo.do_lt a1 a2 w
  · exact hdo.do_le a1 a2 w
end Go.Proofs.YtgnfobnlipjedaaDoor.Q
