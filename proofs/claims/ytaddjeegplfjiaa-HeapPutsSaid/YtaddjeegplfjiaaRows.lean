/-
  NARROWER THAN 'FOR EVERY INPUT', by the rows' own cells (each row's printed sentence says how): HeapPuts: loops · HeapBack: loops.
  DERIVED. THE GIVEN ROWS OF THIS SEAT. 5 by the template 'for every input the law returns true; each argument reads behind the call as it read before'; 0 by the template 'total and deterministic' (their statements: YtaddjeegplfjiaaTotals.lean).
  GIVEN WITH THE SEED: the statements are not yours to turn. If you find one false, say at which input.
  Laid BY PROGRAM, IN A SANDBOX (cutbox-rows.mjs): the forced cells as the released guide's own fill.sh prints them over the translation 9c4ce4444b7221fc… (all of the seat's roots in one cut). By AI agents, Wed Nov 11 2026. No macro, syntax, notation, axiom, sorry.
-/
import Derived.Test.YtaddjeegplfjiaaChecked
import GoSem.Claim
import GoSem.ClaimJoined
import GoSem.ClaimMapViews
import Derived.JoinedTies
import Derived.KernelRfl
namespace Go.Proofs.Ytaddjeegplfjiaa
/- THE CELL 'sum', in the pinned program and in every row, IS THE sha256 OF THE DUMP (.gsa) THAT YtaddjeegplfjiaaProg.lean LOADS. Nothing in Lean hashes anything: it is a label: what it is worth is what the hold of that sum in a sandbox is worth. -/
noncomputable def Try.pinned : Pinned := { name := "ytaddjeegplfjiaa", sum := "9c4ce4444b7221fc5bd2df51524131feb86103f626bf6626ede11a09cc8182de", checked := Try.checked }
namespace Rows
def none {H : Type} : Left H := { results := [], args := [] }

/-- 'camletlaw41.HeapHeads': WHATEVER THE INPUT: true; the input reads as it did. -/
def heapHeadsSpec : ChangeSpec := { name := "heapHeads", fn := fun _ => fun
  | [d1, d2, d3, d4] => { results := [.lit (.bool true)], args := [d1, d2, d3, d4] }
  | _ => none }
def heapHeadsRow : OpenClaim := { program := "ytaddjeegplfjiaa", sum := "9c4ce4444b7221fc5bd2df51524131feb86103f626bf6626ede11a09cc8182de", func := "camlet/camletlaw41.HeapHeads", spec := "heapHeads", unfollowed := true, recurses := true, apart := false }
def HeapHeadsSaid : Prop := heapHeadsRow.holds Try.pinned (OpenSpec.ofChange heapHeadsSpec)

/-- ITS FALSE NEIGHBOUR: 'it returns false'. Refute it at one input. -/
def heapHeadsWrong : ChangeSpec := { name := "heapHeads", fn := fun _ => fun
  | [d1, d2, d3, d4] => { results := [.lit (.bool false)], args := [d1, d2, d3, d4] }
  | _ => none }
def HeapHeadsWrongFalsely : Prop := heapHeadsRow.holds Try.pinned (OpenSpec.ofChange heapHeadsWrong)

/-- 'camletlaw41.HeapPuts': WHATEVER THE INPUT: true; the input reads as it did. -/
def heapPutsSpec : ChangeSpec := { name := "heapPuts", fn := fun _ => fun
  | [d1, d2, d3] => { results := [.lit (.bool true)], args := [d1, d2, d3] }
  | _ => none }
def heapPutsRow : OpenClaim := { program := "ytaddjeegplfjiaa", sum := "9c4ce4444b7221fc5bd2df51524131feb86103f626bf6626ede11a09cc8182de", func := "camlet/camletlaw41.HeapPuts", spec := "heapPuts", unfollowed := true, recurses := true, loops := true, apart := false }
def HeapPutsSaid : Prop := heapPutsRow.holds Try.pinned (OpenSpec.ofChange heapPutsSpec)

/-- ITS FALSE NEIGHBOUR: 'it returns false'. Refute it at one input. -/
def heapPutsWrong : ChangeSpec := { name := "heapPuts", fn := fun _ => fun
  | [d1, d2, d3] => { results := [.lit (.bool false)], args := [d1, d2, d3] }
  | _ => none }
def HeapPutsWrongFalsely : Prop := heapPutsRow.holds Try.pinned (OpenSpec.ofChange heapPutsWrong)

/-- 'camletlaw41.HeapTakes': WHATEVER THE INPUT: true; the input reads as it did. -/
def heapTakesSpec : ChangeSpec := { name := "heapTakes", fn := fun _ => fun
  | [d1, d2, d3] => { results := [.lit (.bool true)], args := [d1, d2, d3] }
  | _ => none }
def heapTakesRow : OpenClaim := { program := "ytaddjeegplfjiaa", sum := "9c4ce4444b7221fc5bd2df51524131feb86103f626bf6626ede11a09cc8182de", func := "camlet/camletlaw41.HeapTakes", spec := "heapTakes", unfollowed := true, recurses := true, apart := false }
def HeapTakesSaid : Prop := heapTakesRow.holds Try.pinned (OpenSpec.ofChange heapTakesSpec)

/-- ITS FALSE NEIGHBOUR: 'it returns false'. Refute it at one input. -/
def heapTakesWrong : ChangeSpec := { name := "heapTakes", fn := fun _ => fun
  | [d1, d2, d3] => { results := [.lit (.bool false)], args := [d1, d2, d3] }
  | _ => none }
def HeapTakesWrongFalsely : Prop := heapTakesRow.holds Try.pinned (OpenSpec.ofChange heapTakesWrong)

/-- 'camletlaw41.HeapRights': WHATEVER THE INPUT: true; the input reads as it did. -/
def heapRightsSpec : ChangeSpec := { name := "heapRights", fn := fun _ => fun
  | [d1, d2, d3] => { results := [.lit (.bool true)], args := [d1, d2, d3] }
  | _ => none }
def heapRightsRow : OpenClaim := { program := "ytaddjeegplfjiaa", sum := "9c4ce4444b7221fc5bd2df51524131feb86103f626bf6626ede11a09cc8182de", func := "camlet/camletlaw41.HeapRights", spec := "heapRights", unfollowed := true, recurses := true, apart := false }
def HeapRightsSaid : Prop := heapRightsRow.holds Try.pinned (OpenSpec.ofChange heapRightsSpec)

/-- ITS FALSE NEIGHBOUR: 'it returns false'. Refute it at one input. -/
def heapRightsWrong : ChangeSpec := { name := "heapRights", fn := fun _ => fun
  | [d1, d2, d3] => { results := [.lit (.bool false)], args := [d1, d2, d3] }
  | _ => none }
def HeapRightsWrongFalsely : Prop := heapRightsRow.holds Try.pinned (OpenSpec.ofChange heapRightsWrong)

/-- 'camletlaw41.HeapBack': WHATEVER THE INPUT: true; the input reads as it did. -/
def heapBackSpec : ChangeSpec := { name := "heapBack", fn := fun _ => fun
  | [d1, d2, d3, d4] => { results := [.lit (.bool true)], args := [d1, d2, d3, d4] }
  | _ => none }
def heapBackRow : OpenClaim := { program := "ytaddjeegplfjiaa", sum := "9c4ce4444b7221fc5bd2df51524131feb86103f626bf6626ede11a09cc8182de", func := "camlet/camletlaw41.HeapBack", spec := "heapBack", unfollowed := true, recurses := true, loops := true, apart := false }
def HeapBackSaid : Prop := heapBackRow.holds Try.pinned (OpenSpec.ofChange heapBackSpec)

/-- ITS FALSE NEIGHBOUR: 'it returns false'. Refute it at one input. -/
def heapBackWrong : ChangeSpec := { name := "heapBack", fn := fun _ => fun
  | [d1, d2, d3, d4] => { results := [.lit (.bool false)], args := [d1, d2, d3, d4] }
  | _ => none }
def HeapBackWrongFalsely : Prop := heapBackRow.holds Try.pinned (OpenSpec.ofChange heapBackWrong)

/- THE SECOND FORM. 'bulk': how many values and letters a reading holds, each counted each time it is reached (what is shared counts as often as it is met; a slice's spare places count too). A statement '..UptoSaid' is the law's where the arguments, and the package variables that the reading takes, are together of bulk at most 1048576: NARROWER than '..Said'. Prove '..Said' where nothing that the law and all that it calls make is longer than what came in: it says more and counts as full. Else prove '..UptoSaid'. A law counts once. -/
mutual
def uptoBulk {H : Type} : DataW H → Nat
  | .lit (.string bytes) => bytes.length + 1
  | .lit _ => 1
  | .nil => 1
  | .ptr d => uptoBulk d + 1
  | .slice elems spare => uptoBulkAll elems + uptoBulkAll spare + 1
  | .agg parts => uptoBulkAll parts + 1
  | .iface _ d => uptoBulk d + 1
  | .map entries => uptoBulkEntries entries + 1
  | .held _ => 1
def uptoBulkAll {H : Type} : List (DataW H) → Nat
  | [] => 0
  | d :: r => uptoBulk d + uptoBulkAll r
def uptoBulkEntries {H : Type} : List (Lit × DataW H) → Nat
  | [] => 0
  | x :: r => uptoBulkEntry x + uptoBulkEntries r
def uptoBulkEntry {H : Type} : Lit × DataW H → Nat
  | (.string bytes, d) => bytes.length + uptoBulk d + 1
  | (_, d) => uptoBulk d + 1
 end
def uptoSmall : (H : Type) → List (DataW H) → Bool := fun _ ds => decide (uptoBulkAll ds ≤ 1048576)
def OpenSpec.upto (s : _root_.Go.ChangeSpec) : _root_.Go.OpenSpec := { _root_.Go.OpenSpec.ofChange s with cond := some uptoSmall }

/-- 'camletlaw41.HeapHeads', WHERE WHAT IT READS IS OF BULK AT MOST 1048576: true; the input reads as it did. -/
def heapHeadsUptoRow : OpenClaim := { program := "ytaddjeegplfjiaa", sum := "9c4ce4444b7221fc5bd2df51524131feb86103f626bf6626ede11a09cc8182de", func := "camlet/camletlaw41.HeapHeads", spec := "heapHeads", unfollowed := true, recurses := true, apart := false, narrowed := true }
def HeapHeadsUptoSaid : Prop := heapHeadsUptoRow.holds Try.pinned (OpenSpec.upto heapHeadsSpec)

/-- 'camletlaw41.HeapPuts', WHERE WHAT IT READS IS OF BULK AT MOST 1048576: true; the input reads as it did. -/
def heapPutsUptoRow : OpenClaim := { program := "ytaddjeegplfjiaa", sum := "9c4ce4444b7221fc5bd2df51524131feb86103f626bf6626ede11a09cc8182de", func := "camlet/camletlaw41.HeapPuts", spec := "heapPuts", unfollowed := true, recurses := true, loops := true, apart := false, narrowed := true }
def HeapPutsUptoSaid : Prop := heapPutsUptoRow.holds Try.pinned (OpenSpec.upto heapPutsSpec)

/-- 'camletlaw41.HeapTakes', WHERE WHAT IT READS IS OF BULK AT MOST 1048576: true; the input reads as it did. -/
def heapTakesUptoRow : OpenClaim := { program := "ytaddjeegplfjiaa", sum := "9c4ce4444b7221fc5bd2df51524131feb86103f626bf6626ede11a09cc8182de", func := "camlet/camletlaw41.HeapTakes", spec := "heapTakes", unfollowed := true, recurses := true, apart := false, narrowed := true }
def HeapTakesUptoSaid : Prop := heapTakesUptoRow.holds Try.pinned (OpenSpec.upto heapTakesSpec)

/-- 'camletlaw41.HeapRights', WHERE WHAT IT READS IS OF BULK AT MOST 1048576: true; the input reads as it did. -/
def heapRightsUptoRow : OpenClaim := { program := "ytaddjeegplfjiaa", sum := "9c4ce4444b7221fc5bd2df51524131feb86103f626bf6626ede11a09cc8182de", func := "camlet/camletlaw41.HeapRights", spec := "heapRights", unfollowed := true, recurses := true, apart := false, narrowed := true }
def HeapRightsUptoSaid : Prop := heapRightsUptoRow.holds Try.pinned (OpenSpec.upto heapRightsSpec)

/-- 'camletlaw41.HeapBack', WHERE WHAT IT READS IS OF BULK AT MOST 1048576: true; the input reads as it did. -/
def heapBackUptoRow : OpenClaim := { program := "ytaddjeegplfjiaa", sum := "9c4ce4444b7221fc5bd2df51524131feb86103f626bf6626ede11a09cc8182de", func := "camlet/camletlaw41.HeapBack", spec := "heapBack", unfollowed := true, recurses := true, loops := true, apart := false, narrowed := true }
def HeapBackUptoSaid : Prop := heapBackUptoRow.holds Try.pinned (OpenSpec.upto heapBackSpec)

end Rows
end Go.Proofs.Ytaddjeegplfjiaa
