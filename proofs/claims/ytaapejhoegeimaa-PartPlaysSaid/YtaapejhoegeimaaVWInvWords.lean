/- Words and contracts of the reference's functions, begun as a print and cut down to what this claim reaches. No conditions. -/
import Derived.Test.YtaapejhoegeimaaVWInv
import Derived.Test.YtaapejhoegeimaaVWFootNe
namespace Go.Proofs.YtaapejhoegeimaaW.PrintWords
open Go.RowKit
end Go.Proofs.YtaapejhoegeimaaW.PrintWords
namespace Go.Proofs.YtaapejhoegeimaaW.PrintLast
section
variable {ops : Array Oper} {a : Act} {o og : Oper} {g : Nat} {t : Tmp} {u : Bool}
end
end Go.Proofs.YtaapejhoegeimaaW.PrintLast
