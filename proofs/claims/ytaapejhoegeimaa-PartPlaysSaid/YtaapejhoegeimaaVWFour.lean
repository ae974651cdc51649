/- Words and contracts of the reference's functions, begun as a print and cut down to what this claim reaches. No conditions. -/
import Derived.Test.YtaapejhoegeimaaVWTab
/-! ### 56. Four, five, six operations that may come up next, in any order -/
namespace Go.Proofs.YtaapejhoegeimaaW.PrintLast
section
variable {P : Program} {ops : Array Oper} {Q : Exit → Act → World → Prop} {md : Region.Mode} {S : World → Prop} {ds : List Nat} {T : Bool × List (List Nat × List Nat)}
end
end Go.Proofs.YtaapejhoegeimaaW.PrintLast
