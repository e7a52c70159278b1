
-- cut down by tools/trim.py to what the claim leans on

import Derived.Test.YtaijpfooobcdkaaDoorWInv
import Derived.Test.YtaijpfooobcdkaaDoorWFootNe
namespace Go.Proofs.YtaijpfooobcdkaaDoorW.PrintWords
open Go.RowKit
end Go.Proofs.YtaijpfooobcdkaaDoorW.PrintWords
namespace Go.Proofs.YtaijpfooobcdkaaDoorW.PrintLast
section
variable {ops : Array Oper} {a : Act} {o og : Oper} {g : Nat} {t : Tmp} {u : Bool}
end
end Go.Proofs.YtaijpfooobcdkaaDoorW.PrintLast
