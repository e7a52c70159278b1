/- What the rows list of package-level variables, as one fact on a world; it stays where nothing that was there is written. -/
import Derived.Test.YtlhkojnocconfaaDoorQx0
import Derived.Lib.LaidTab
import Derived.Lib.ItoaNum
import Derived.WalkSmall
import Derived.OpenShut
import Derived.LaidLaws
import Derived.Stop.LaidErr
import Derived.Shelf.Vars
import Derived.Test.YtlhkojnocconfaaDoorRows
namespace Go.Proofs.YtlhkojnocconfaaDoor.Q
open Go.RowKit Go.Proofs.YtlhkojnocconfaaDoorW.PrintWords Go.Proofs.YtlhkojnocconfaaDoorW.PrintLast Go.Proofs.YtlhkojnocconfaaDoorW.PrintMore
attribute [local go_sem] max2_int min2_int max_two min_two max_three min_three max_four min_four   -- for this text's walks alone
set_option linter.unusedVariables false
set_option linter.unusedSimpArgs false

theorem gPow : Tryd.prog.globalNamed "internal/strconv.uint64pow10" = some 3 := by kernel_rfl
theorem gSyn : Tryd.prog.globalNamed "strconv.ErrSyntax" = some 1 := by kernel_rfl
theorem gRan : Tryd.prog.globalNamed "strconv.ErrRange" = some 2 := by kernel_rfl
def LaidWords (_ : World) : Prop := True
def LaidErr (w : World) : Prop := (∃ tp p, w.var? Tryd.prog "strconv.ErrSyntax" = some #[.iface tp p]) ∧ (∃ tp p, w.var? Tryd.prog "strconv.ErrRange" = some #[.iface tp p])
def LaidMax (w : World) : Prop := ∃ m, w.cell? ⟨0, 0, none⟩ = some (.int .i64 m)
theorem LaidMax.mono {w w' : World} (h : LaidMax w) (hb : Below w.heap.size w w') : LaidMax w' := h.elim fun m hm => ⟨m, (hb.cell (World.block_lt_of_cell? _ _ hm)).trans hm⟩
theorem LaidMax.of {w : World} (h : w.ShapedOpen Tryd.prog) : LaidMax w := Go.Proofs.cell_of_shapedOpen_int (zero := #[.int .i64 0]) (t := 3) h (of_decide_eq_true (by kernel_rfl)) (by kernel_rfl) rfl (by kernel_rfl) (by kernel_rfl) Tryd.underlying3
def Laid (w : World) : Prop := Lib.TabIs Tryd.prog w "internal/strconv.uint64pow10" .u64 Lib.pow10Tab ∧ LaidWords w ∧ LaidErr w ∧ LaidMax w
theorem var_lt {w : World} {n : String} {g : Nat} {cs : Array Value} (hg : Tryd.prog.globalNamed n = some g) (h : w.var? Tryd.prog n = some cs) : g < w.heap.size := by
  unfold World.var? at h
  rw [hg] at h
  simp only [Option.bind_some] at h
  rcases Nat.lt_or_ge g w.heap.size with h' | h'
  · exact h'
  · simp [Array.getElem?_eq_none h'] at h
theorem var_stays {w w' : World} {n : String} {g : Nat} {cs : Array Value} (hg : Tryd.prog.globalNamed n = some g) (hb : Below w.heap.size w w') (h : w.var? Tryd.prog n = some cs) : w'.var? Tryd.prog n = some cs :=
  var?_below hb hg (var_lt hg h) h
theorem Laid.tab {w : World} (h : Laid w) : Lib.TabIs Tryd.prog w "internal/strconv.uint64pow10" .u64 Lib.pow10Tab := h.1
theorem LaidWords.mono {w w' : World} (_ : LaidWords w) (_ : Below w.heap.size w w') : LaidWords w' := trivial
theorem LaidErr.mono {w w' : World} (h : LaidErr w) (hb : Below w.heap.size w w') : LaidErr w' := ⟨h.1.elim fun tp h1 => h1.elim fun p h2 => ⟨tp, p, var_stays gSyn hb h2⟩, h.2.elim fun tp h1 => h1.elim fun p h2 => ⟨tp, p, var_stays gRan hb h2⟩⟩
theorem Laid.mono {w w' : World} (h : Laid w) (hb : Below w.heap.size w w') : Laid w' := ⟨var_stays gPow hb h.1, h.2.1.mono hb, h.2.2.1.mono hb, h.2.2.2.mono hb⟩
theorem sent_met {n nm : String} {d : DataW Unit} {rest : List (String × DataW Unit)} {W : World} {g ti : Nat} {ms : Array (String × TypeId)} (hg : Tryd.prog.globalNamed n = some g) (ht : (Tryd.prog.globals[g]?).map (·.type) = some ti) (hi : Tryd.prog.underlying ti = some (.interface ms)) (h : laidMet Tryd.prog ((n, .iface nm d) :: rest) W) : ∃ tp p, W.var? Tryd.prog n = some #[.iface tp p] := by
  obtain ⟨ps, ⟨g0, t0, cs0, f0, p0, q0, hg0, ht0, hv0, hd0, _, _⟩, _⟩ := h
  obtain rfl := Option.some.inj (hg.symm.trans hg0)
  obtain rfl := Option.some.inj (ht.symm.trans ht0)
  cases f0 with
  | zero => simp [DataW.trod] at hd0
  | succ n0 =>
    unfold DataW.trod at hd0
    rw [hi] at hd0
    obtain ⟨l⟩ := cs0
    split at hd0 <;> simp_all
theorem laid_of_met {W : World} (hs_ : W.ShapedOpen Tryd.prog) (h0 : laidMetH Tryd.prog [("math/bits.deBruijn32tab", Rows.laid_math_bits_deBruijn32tab), ("math/bits.deBruijn64tab", Rows.laid_math_bits_deBruijn64tab), ("internal/strconv.uint64pow10", Rows.laid_internal_strconv_uint64pow10), ("strconv.ErrRange", Rows.laid_strconv_ErrRange), ("strconv.ErrSyntax", Rows.laid_strconv_ErrSyntax)] W) : Laid W := by
  replace h0 : laidMet Tryd.prog [("math/bits.deBruijn32tab", Rows.laid_math_bits_deBruijn32tab), ("math/bits.deBruijn64tab", Rows.laid_math_bits_deBruijn64tab), ("internal/strconv.uint64pow10", Rows.laid_internal_strconv_uint64pow10), ("strconv.ErrRange", Rows.laid_strconv_ErrRange), ("strconv.ErrSyntax", Rows.laid_strconv_ErrSyntax)] W := h0
  refine ⟨Lib.tabIs_of_head (n := 20) gPow (by kernel_rfl) Tryd.underlying128 (by kernel_rfl) (by kernel_rfl) (by kernel_rfl) (show laidMet Tryd.prog (("internal/strconv.uint64pow10", Lib.tabData .u64 Lib.pow10Tab) :: _) W from h0.tail.tail), ?_⟩
  exact ⟨trivial, ⟨sent_met gSyn (by kernel_rfl) Tryd.underlying72 h0.tail.tail.tail.tail, sent_met gRan (by kernel_rfl) Tryd.underlying72 h0.tail.tail.tail⟩, LaidMax.of hs_⟩
end Go.Proofs.YtlhkojnocconfaaDoor.Q
