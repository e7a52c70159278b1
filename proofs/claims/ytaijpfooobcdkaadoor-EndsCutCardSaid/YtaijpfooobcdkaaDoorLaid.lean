/- What the rows list of package-level variables, as one fact on a world; it stays where nothing that was there is written. -/
import Derived.Test.YtaijpfooobcdkaaDoorQx0
import Derived.Lib.LaidTab
import Derived.Lib.ItoaNum
import Derived.WalkSmall
import Derived.OpenShut
import Derived.LaidLaws
import Derived.Stop.LaidErr
import Derived.Shelf.Vars
import Derived.Test.YtaijpfooobcdkaaDoorRows
namespace Go.Proofs.YtaijpfooobcdkaaDoor.Q
open Go.RowKit Go.Proofs.YtaijpfooobcdkaaDoorW.PrintWords Go.Proofs.YtaijpfooobcdkaaDoorW.PrintLast Go.Proofs.YtaijpfooobcdkaaDoorW.PrintMore
attribute [local go_sem] max2_int min2_int max_two min_two max_three min_three max_four min_four   -- for this text's walks alone
set_option linter.unusedVariables false
set_option linter.unusedSimpArgs false

theorem gPow : Tryd.prog.globalNamed "internal/strconv.uint64pow10" = some 1 := by kernel_rfl
theorem gWords : Tryd.prog.globalNamed "camlet/ends.words" = some 0 := by kernel_rfl
def wordsCells : Array Value := #[.string ⟨#[100, 111, 110, 101]⟩, .string ⟨#[114, 97, 105, 115, 101]⟩, .string ⟨#[102, 117, 101, 108]⟩, .string ⟨#[115, 116, 117, 99, 107]⟩, .string ⟨#[104, 101, 97, 112]⟩, .string ⟨#[115, 116, 97, 99, 107]⟩]
def LaidWords (w : World) : Prop := w.var? Tryd.prog "camlet/ends.words" = some wordsCells
def LaidErr (_ : World) : Prop := True
def LaidMax (_ : World) : Prop := True
theorem LaidMax.mono {w w' : World} (_ : LaidMax w) (_ : Below w.heap.size w w') : LaidMax w' := trivial
theorem LaidMax.of {w : World} (_ : w.ShapedOpen Tryd.prog) : LaidMax w := trivial
def Laid (w : World) : Prop := Lib.TabIs Tryd.prog w "internal/strconv.uint64pow10" .u64 Lib.pow10Tab ∧ LaidWords w ∧ LaidErr w ∧ LaidMax w
theorem var_lt {w : World} {n : String} {g : Nat} {cs : Array Value} (hg : Tryd.prog.globalNamed n = some g) (h : w.var? Tryd.prog n = some cs) : g < w.heap.size := by
  unfold World.var? at h
  rw [hg] at h
  simp only [Option.bind_some] at h
  rcases Nat.lt_or_ge g w.heap.size with h' | h'
  · exact h'
  · simp [Array.getElem?_eq_none h'] at h
theorem var_stays {w w' : World} {n : String} {g : Nat} {cs : Array Value} (hg : Tryd.prog.globalNamed n = some g) (hb : Below w.heap.size w w') (h : w.var? Tryd.prog n = some cs) : w'.var? Tryd.prog n = some cs :=
  var?_below hb hg (var_lt hg h) h
theorem Laid.tab {w : World} (h : Laid w) : Lib.TabIs Tryd.prog w "internal/strconv.uint64pow10" .u64 Lib.pow10Tab := h.1
theorem LaidWords.mono {w w' : World} (h : LaidWords w) (hb : Below w.heap.size w w') : LaidWords w' := var_stays gWords hb h
theorem LaidErr.mono {w w' : World} (_ : LaidErr w) (_ : Below w.heap.size w w') : LaidErr w' := trivial
theorem Laid.mono {w w' : World} (h : Laid w) (hb : Below w.heap.size w w') : Laid w' := ⟨var_stays gPow hb h.1, h.2.1.mono hb, h.2.2.1.mono hb, h.2.2.2.mono hb⟩
theorem str_of {s : ByteArray} {l : List UInt8} (h : s.data.toList = l) : s = ⟨l.toArray⟩ := by subst h; rfl
theorem words_cells {H : Type} {enc : TypeId × Value → H} {W : World} {sp : Nat → Bool} {held : Bool} {fuel : Nat} {cs : Array Value} {p : List MemPlace} (hd : DataW.trod enc Tryd.prog W 0 sp held fuel 35 cs.toList = some (Rows.laid_camlet_ends_words, p)) : cs = wordsCells := by
  obtain ⟨xs, m, rfl, hx, hlen, hxl, hf⟩ := DataW.trod_array Tryd.underlying35 hd
  have hl : cs.toList.length = 6 := by rw [hlen]; kernel_rfl
  have e9 : Tryd.prog.cellsOf 9 = 1 := by kernel_rfl
  obtain ⟨c⟩ := cs
  obtain ⟨c0, c1, c2, c3, c4, c5, rfl⟩ : ∃ c0 c1 c2 c3 c4 c5, c = [c0, c1, c2, c3, c4, c5] := by match c, hl with | [c0, c1, c2, c3, c4, c5], _ => exact ⟨_, _, _, _, _, _, rfl⟩
  obtain ⟨z0, z1, z2, z3, z4, z5, rfl⟩ : ∃ z0 z1 z2 z3 z4 z5, xs = [z0, z1, z2, z3, z4, z5] := by match xs, hxl with | [z0, z1, z2, z3, z4, z5], _ => exact ⟨_, _, _, _, _, _, rfl⟩
  have q : ∀ (i : Nat) (ci : Value) (zi : DataW H × List MemPlace), i < 6 → ([c0, c1, c2, c3, c4, c5].drop i).take 1 = [ci] → [z0, z1, z2, z3, z4, z5][i]? = some zi → ∃ s : ByteArray, ci = .string s ∧ zi.1 = .lit (.string s.data.toList) := by
    intro i ci zi hi h1 h2
    have q0 := hf i hi
    rw [e9, Nat.mul_one] at q0
    simp only [List.toList_toArray] at q0
    rw [h1, h2] at q0
    obtain ⟨s, hs, rfl, _⟩ := DataW.trod_string Tryd.underlying9 q0
    exact ⟨s, by injection hs, rfl⟩
  obtain ⟨s0, rfl, d0⟩ := q 0 c0 z0 (by decide) rfl rfl
  obtain ⟨s1, rfl, d1⟩ := q 1 c1 z1 (by decide) rfl rfl
  obtain ⟨s2, rfl, d2⟩ := q 2 c2 z2 (by decide) rfl rfl
  obtain ⟨s3, rfl, d3⟩ := q 3 c3 z3 (by decide) rfl rfl
  obtain ⟨s4, rfl, d4⟩ := q 4 c4 z4 (by decide) rfl rfl
  obtain ⟨s5, rfl, d5⟩ := q 5 c5 z5 (by decide) rfl rfl
  have hx2 := congrArg Prod.fst hx
  simp only [Rows.laid_camlet_ends_words, List.map_cons, List.map_nil, d0, d1, d2, d3, d4, d5, DataW.agg.injEq, List.cons.injEq, DataW.lit.injEq, Lit.string.injEq, and_true] at hx2
  obtain ⟨e0, e1, e2, e3, e4, e5⟩ := hx2
  rw [str_of e0.symm, str_of e1.symm, str_of e2.symm, str_of e3.symm, str_of e4.symm, str_of e5.symm]
  rfl
theorem words_met {W : World} {rest : List (String × DataW Unit)} (h : laidMet Tryd.prog (("camlet/ends.words", Rows.laid_camlet_ends_words) :: rest) W) : W.var? Tryd.prog "camlet/ends.words" = some wordsCells := by
  obtain ⟨ps, ⟨g', t', cs, fuel, p, q, hg', ht', hvar, hd, _, _⟩, _⟩ := h
  obtain rfl := Option.some.inj (gWords.symm.trans hg')
  obtain rfl : 35 = t' := Option.some.inj ((show (Tryd.prog.globals[0]?).map (·.type) = some 35 by kernel_rfl).symm.trans ht')
  rw [hvar]
  exact congrArg some (words_cells hd)
theorem laid_of_met {W : World} (hs_ : W.ShapedOpen Tryd.prog) (h0 : laidMetH Tryd.prog [("math/bits.deBruijn32tab", Rows.laid_math_bits_deBruijn32tab), ("math/bits.deBruijn64tab", Rows.laid_math_bits_deBruijn64tab), ("internal/strconv.uint64pow10", Rows.laid_internal_strconv_uint64pow10), ("camlet/ends.words", Rows.laid_camlet_ends_words)] W) : Laid W := by
  replace h0 : laidMet Tryd.prog [("math/bits.deBruijn32tab", Rows.laid_math_bits_deBruijn32tab), ("math/bits.deBruijn64tab", Rows.laid_math_bits_deBruijn64tab), ("internal/strconv.uint64pow10", Rows.laid_internal_strconv_uint64pow10), ("camlet/ends.words", Rows.laid_camlet_ends_words)] W := h0
  refine ⟨Lib.tabIs_of_head (n := 20) gPow (by kernel_rfl) Tryd.underlying48 (by kernel_rfl) (by kernel_rfl) (by kernel_rfl) (show laidMet Tryd.prog (("internal/strconv.uint64pow10", Lib.tabData .u64 Lib.pow10Tab) :: _) W from h0.tail.tail), ?_⟩
  exact ⟨words_met h0.tail.tail.tail, trivial, LaidMax.of hs_⟩
end Go.Proofs.YtaijpfooobcdkaaDoor.Q
