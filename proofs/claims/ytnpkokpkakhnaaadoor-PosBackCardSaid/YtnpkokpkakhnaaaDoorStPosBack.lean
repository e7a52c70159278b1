/- The pure statement of PosBack: over numbers, strings and lists alone. By a program of this session. -/
import Derived.Test.YtnpkokpkakhnaaaDoorRd
import Derived.Test.YtnpkokpkakhnaaaDoorQx5
namespace Go.Proofs.YtnpkokpkakhnaaaDoor.Q
open Go.RowKit Go.Proofs.YtnpkokpkakhnaaaDoorW.PrintWords Go.Proofs.YtnpkokpkakhnaaaDoorW.PrintLast Go.Proofs.YtnpkokpkakhnaaaDoorW.PrintMore
attribute [local go_sem] max2_int min2_int max_two min_two max_three min_three max_four min_four   -- for this text's walks alone
set_option linter.unusedVariables false
set_option linter.unusedSimpArgs false

def PosBack.Pure : Prop := ∀ (x0 : ByteArray) (x1 : Int) (x2 : S23), (∃ (H : Type) (y0 y1 y2 : DataW H), Dstr H x0 y0 ∧ (Dint .i64) H x1 y1 ∧ D23 H x2 y2) → x0.size ≤ 140737488351232 → ∃ k, camletlaw03_PosBack.f k x0 x1 x2.f0 x2.f1 = some true
end Go.Proofs.YtnpkokpkakhnaaaDoor.Q
