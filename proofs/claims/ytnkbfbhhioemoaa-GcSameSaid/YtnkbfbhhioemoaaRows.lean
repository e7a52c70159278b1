/-
  No cell of these rows narrows 'for every input' (looked for: loops, veiled, ifaces, maps, wideKeys, modest, calm, conditions, laid).
  DERIVED. THE GIVEN ROWS OF THIS SEAT. 5 by the template 'for every input the law returns true; each argument reads behind the call as it read before'; 0 by the template 'total and deterministic' (their statements: YtnkbfbhhioemoaaTotals.lean).
  GIVEN WITH THE SEED: the statements are not yours to turn. If you find one false, say at which input.
  Laid BY PROGRAM, IN A SANDBOX (cutbox-rows.mjs): the forced cells as the released guide's own fill.sh prints them over the translation c390fbd077d37a68… (all of the seat's roots in one cut). By AI agents, Wed Nov 11 2026. No macro, syntax, notation, axiom, sorry.
-/
import Derived.Test.YtnkbfbhhioemoaaChecked
import GoSem.Claim
import GoSem.ClaimJoined
import GoSem.ClaimMapViews
import Derived.JoinedTies
import Derived.KernelRfl
namespace Go.Proofs.Ytnkbfbhhioemoaa
/- THE CELL 'sum', in the pinned program and in every row, IS THE sha256 OF THE DUMP (.gsa) THAT YtnkbfbhhioemoaaProg.lean LOADS. Nothing in Lean hashes anything: it is a label: what it is worth is what the hold of that sum in a sandbox is worth. -/
noncomputable def Try.pinned : Pinned := { name := "ytnkbfbhhioemoaa", sum := "c390fbd077d37a68d83ac2c15c53cd38ddb567eda12292533058a45130dfb7b5", checked := Try.checked }
namespace Rows
def none {H : Type} : Left H := { results := [], args := [] }

/-- 'camletlaw42.GcCollects': WHATEVER THE INPUT: true; the input reads as it did. -/
def gcCollectsSpec : ChangeSpec := { name := "gcCollects", fn := fun _ => fun
  | [d1, d2, d3] => { results := [.lit (.bool true)], args := [d1, d2, d3] }
  | _ => none }
def gcCollectsRow : OpenClaim := { program := "ytnkbfbhhioemoaa", sum := "c390fbd077d37a68d83ac2c15c53cd38ddb567eda12292533058a45130dfb7b5", func := "camlet/camletlaw42.GcCollects", spec := "gcCollects", unfollowed := true, recurses := true, apart := false }
def GcCollectsSaid : Prop := gcCollectsRow.holds Try.pinned (OpenSpec.ofChange gcCollectsSpec)

/-- ITS FALSE NEIGHBOUR: 'it returns false'. Refute it at one input. -/
def gcCollectsWrong : ChangeSpec := { name := "gcCollects", fn := fun _ => fun
  | [d1, d2, d3] => { results := [.lit (.bool false)], args := [d1, d2, d3] }
  | _ => none }
def GcCollectsWrongFalsely : Prop := gcCollectsRow.holds Try.pinned (OpenSpec.ofChange gcCollectsWrong)

/-- 'camletlaw42.GcReaches': WHATEVER THE INPUT: true; the input reads as it did. -/
def gcReachesSpec : ChangeSpec := { name := "gcReaches", fn := fun _ => fun
  | [d1, d2, d3] => { results := [.lit (.bool true)], args := [d1, d2, d3] }
  | _ => none }
def gcReachesRow : OpenClaim := { program := "ytnkbfbhhioemoaa", sum := "c390fbd077d37a68d83ac2c15c53cd38ddb567eda12292533058a45130dfb7b5", func := "camlet/camletlaw42.GcReaches", spec := "gcReaches", unfollowed := true, recurses := true, apart := false }
def GcReachesSaid : Prop := gcReachesRow.holds Try.pinned (OpenSpec.ofChange gcReachesSpec)

/-- ITS FALSE NEIGHBOUR: 'it returns false'. Refute it at one input. -/
def gcReachesWrong : ChangeSpec := { name := "gcReaches", fn := fun _ => fun
  | [d1, d2, d3] => { results := [.lit (.bool false)], args := [d1, d2, d3] }
  | _ => none }
def GcReachesWrongFalsely : Prop := gcReachesRow.holds Try.pinned (OpenSpec.ofChange gcReachesWrong)

/-- 'camletlaw42.GcSame': WHATEVER THE INPUT: true; the input reads as it did. -/
def gcSameSpec : ChangeSpec := { name := "gcSame", fn := fun _ => fun
  | [d1, d2, d3] => { results := [.lit (.bool true)], args := [d1, d2, d3] }
  | _ => none }
def gcSameRow : OpenClaim := { program := "ytnkbfbhhioemoaa", sum := "c390fbd077d37a68d83ac2c15c53cd38ddb567eda12292533058a45130dfb7b5", func := "camlet/camletlaw42.GcSame", spec := "gcSame", unfollowed := true, recurses := true, apart := false }
def GcSameSaid : Prop := gcSameRow.holds Try.pinned (OpenSpec.ofChange gcSameSpec)

/-- ITS FALSE NEIGHBOUR: 'it returns false'. Refute it at one input. -/
def gcSameWrong : ChangeSpec := { name := "gcSame", fn := fun _ => fun
  | [d1, d2, d3] => { results := [.lit (.bool false)], args := [d1, d2, d3] }
  | _ => none }
def GcSameWrongFalsely : Prop := gcSameRow.holds Try.pinned (OpenSpec.ofChange gcSameWrong)

/-- 'camletlaw42.GcWhole': WHATEVER THE INPUT: true; the input reads as it did. -/
def gcWholeSpec : ChangeSpec := { name := "gcWhole", fn := fun _ => fun
  | [d1, d2, d3] => { results := [.lit (.bool true)], args := [d1, d2, d3] }
  | _ => none }
def gcWholeRow : OpenClaim := { program := "ytnkbfbhhioemoaa", sum := "c390fbd077d37a68d83ac2c15c53cd38ddb567eda12292533058a45130dfb7b5", func := "camlet/camletlaw42.GcWhole", spec := "gcWhole", unfollowed := true, recurses := true, apart := false }
def GcWholeSaid : Prop := gcWholeRow.holds Try.pinned (OpenSpec.ofChange gcWholeSpec)

/-- ITS FALSE NEIGHBOUR: 'it returns false'. Refute it at one input. -/
def gcWholeWrong : ChangeSpec := { name := "gcWhole", fn := fun _ => fun
  | [d1, d2, d3] => { results := [.lit (.bool false)], args := [d1, d2, d3] }
  | _ => none }
def GcWholeWrongFalsely : Prop := gcWholeRow.holds Try.pinned (OpenSpec.ofChange gcWholeWrong)

/-- 'camletlaw42.GcBack': WHATEVER THE INPUT: true; the input reads as it did. -/
def gcBackSpec : ChangeSpec := { name := "gcBack", fn := fun _ => fun
  | [d1, d2, d3] => { results := [.lit (.bool true)], args := [d1, d2, d3] }
  | _ => none }
def gcBackRow : OpenClaim := { program := "ytnkbfbhhioemoaa", sum := "c390fbd077d37a68d83ac2c15c53cd38ddb567eda12292533058a45130dfb7b5", func := "camlet/camletlaw42.GcBack", spec := "gcBack", unfollowed := true, recurses := true, apart := false }
def GcBackSaid : Prop := gcBackRow.holds Try.pinned (OpenSpec.ofChange gcBackSpec)

/-- ITS FALSE NEIGHBOUR: 'it returns false'. Refute it at one input. -/
def gcBackWrong : ChangeSpec := { name := "gcBack", fn := fun _ => fun
  | [d1, d2, d3] => { results := [.lit (.bool false)], args := [d1, d2, d3] }
  | _ => none }
def GcBackWrongFalsely : Prop := gcBackRow.holds Try.pinned (OpenSpec.ofChange gcBackWrong)

/- THE SECOND FORM. 'bulk': how many values and letters a reading holds, each counted each time it is reached (what is shared counts as often as it is met; a slice's spare places count too). A statement '..UptoSaid' is the law's where the arguments, and the package variables that the reading takes, are together of bulk at most 1048576: NARROWER than '..Said'. Prove '..Said' where nothing that the law and all that it calls make is longer than what came in: it says more and counts as full. Else prove '..UptoSaid'. A law counts once. -/
mutual
def uptoBulk {H : Type} : DataW H → Nat
  | .lit (.string bytes) => bytes.length + 1
  | .lit _ => 1
  | .nil => 1
  | .ptr d => uptoBulk d + 1
  | .slice elems spare => uptoBulkAll elems + uptoBulkAll spare + 1
  | .agg parts => uptoBulkAll parts + 1
  | .iface _ d => uptoBulk d + 1
  | .map entries => uptoBulkEntries entries + 1
  | .held _ => 1
def uptoBulkAll {H : Type} : List (DataW H) → Nat
  | [] => 0
  | d :: r => uptoBulk d + uptoBulkAll r
def uptoBulkEntries {H : Type} : List (Lit × DataW H) → Nat
  | [] => 0
  | x :: r => uptoBulkEntry x + uptoBulkEntries r
def uptoBulkEntry {H : Type} : Lit × DataW H → Nat
  | (.string bytes, d) => bytes.length + uptoBulk d + 1
  | (_, d) => uptoBulk d + 1
 end
def uptoSmall : (H : Type) → List (DataW H) → Bool := fun _ ds => decide (uptoBulkAll ds ≤ 1048576)
def OpenSpec.upto (s : _root_.Go.ChangeSpec) : _root_.Go.OpenSpec := { _root_.Go.OpenSpec.ofChange s with cond := some uptoSmall }

/-- 'camletlaw42.GcCollects', WHERE WHAT IT READS IS OF BULK AT MOST 1048576: true; the input reads as it did. -/
def gcCollectsUptoRow : OpenClaim := { program := "ytnkbfbhhioemoaa", sum := "c390fbd077d37a68d83ac2c15c53cd38ddb567eda12292533058a45130dfb7b5", func := "camlet/camletlaw42.GcCollects", spec := "gcCollects", unfollowed := true, recurses := true, apart := false, narrowed := true }
def GcCollectsUptoSaid : Prop := gcCollectsUptoRow.holds Try.pinned (OpenSpec.upto gcCollectsSpec)

/-- 'camletlaw42.GcReaches', WHERE WHAT IT READS IS OF BULK AT MOST 1048576: true; the input reads as it did. -/
def gcReachesUptoRow : OpenClaim := { program := "ytnkbfbhhioemoaa", sum := "c390fbd077d37a68d83ac2c15c53cd38ddb567eda12292533058a45130dfb7b5", func := "camlet/camletlaw42.GcReaches", spec := "gcReaches", unfollowed := true, recurses := true, apart := false, narrowed := true }
def GcReachesUptoSaid : Prop := gcReachesUptoRow.holds Try.pinned (OpenSpec.upto gcReachesSpec)

/-- 'camletlaw42.GcSame', WHERE WHAT IT READS IS OF BULK AT MOST 1048576: true; the input reads as it did. -/
def gcSameUptoRow : OpenClaim := { program := "ytnkbfbhhioemoaa", sum := "c390fbd077d37a68d83ac2c15c53cd38ddb567eda12292533058a45130dfb7b5", func := "camlet/camletlaw42.GcSame", spec := "gcSame", unfollowed := true, recurses := true, apart := false, narrowed := true }
def GcSameUptoSaid : Prop := gcSameUptoRow.holds Try.pinned (OpenSpec.upto gcSameSpec)

/-- 'camletlaw42.GcWhole', WHERE WHAT IT READS IS OF BULK AT MOST 1048576: true; the input reads as it did. -/
def gcWholeUptoRow : OpenClaim := { program := "ytnkbfbhhioemoaa", sum := "c390fbd077d37a68d83ac2c15c53cd38ddb567eda12292533058a45130dfb7b5", func := "camlet/camletlaw42.GcWhole", spec := "gcWhole", unfollowed := true, recurses := true, apart := false, narrowed := true }
def GcWholeUptoSaid : Prop := gcWholeUptoRow.holds Try.pinned (OpenSpec.upto gcWholeSpec)

/-- 'camletlaw42.GcBack', WHERE WHAT IT READS IS OF BULK AT MOST 1048576: true; the input reads as it did. -/
def gcBackUptoRow : OpenClaim := { program := "ytnkbfbhhioemoaa", sum := "c390fbd077d37a68d83ac2c15c53cd38ddb567eda12292533058a45130dfb7b5", func := "camlet/camletlaw42.GcBack", spec := "gcBack", unfollowed := true, recurses := true, apart := false, narrowed := true }
def GcBackUptoSaid : Prop := gcBackUptoRow.holds Try.pinned (OpenSpec.upto gcBackSpec)

end Rows
end Go.Proofs.Ytnkbfbhhioemoaa
