/- Words and contracts of the reference's functions, begun as a print and cut down to what this claim reaches. No conditions. -/
import Derived.Test.YtaapejhoegeimaaVPPartPlays0
namespace Go.Proofs.Ytaapejhoegeimaa.PPartPlays
open Go.RowKit Go.Proofs.YtaapejhoegeimaaW.PrintWords Go.Proofs.YtaapejhoegeimaaW.PrintLast Go.Proofs.YtaapejhoegeimaaW.PrintMore
attribute [local go_sem] max2_int min2_int max_two min_two max_three min_three max_four min_four   -- for this text's walks alone
set_option linter.unusedVariables false
set_option linter.unusedSimpArgs false

theorem eqA24 (d : Nat) (w : World) (x0 y0 : Int) (x1 y1 : Int) :
    (Op.equalIn (d + 2) 24 (.agg #[.int .u16 x0, .int .u16 x1]) (.agg #[.int .u16 y0, .int .u16 y1])).run Try.prog w = .ok (x0 == y0 && (x1 == y1)) w := by
  refine eqA_of Try.underlying24 (by kernel_rfl) ?_
  refine eqf_cons (by rfl) (by go_simp; rfl) (by go_simp; rfl) (by go_simp) ?_
  exact eqf_last (by rfl) (by go_simp; rfl) (by go_simp; rfl) (by go_simp)
end Go.Proofs.Ytaapejhoegeimaa.PPartPlays
