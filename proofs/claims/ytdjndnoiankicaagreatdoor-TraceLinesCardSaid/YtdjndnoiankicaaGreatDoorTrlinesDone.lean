/- TraceLines: the statement. No conditions. -/
import Derived.Test.YtdjndnoiankicaaGreatDoorCards
import Derived.Test.YtdjndnoiankicaaGreatDoorTie
import Derived.Test.YtdjndnoiankicaaGreatDoorTlaid
import Derived.Test.YtdjndnoiankicaaGreatDoorLopen
import Derived.Test.YtdjndnoiankicaaGreatDoorJb
import Derived.Test.YtdjndnoiankicaaGreatDoorTrlw
import Derived.WalkKit
import Derived.ProofKit
import Derived.OpenShut
import Derived.ShutString
import Derived.SevenTiedAt
import Derived.Below
import Derived.Carry
import Derived.ChangeSlices
import Derived.Test.YtdjndnoiankicaaGreatDoorTrlinesDoneS
namespace Go.Proofs.YtdjndnoiankicaaGreatDoor.traceLinesDone
open Go.ChangeShapes Go.WideShapes Go.ChangeAt Go.RowKit
open Go.ChangeMaps (open_string shut_string)
set_option linter.unusedVariables false

/-- THE STATEMENT. -/
theorem proved : Rows.TraceLinesCardSaid :=
  Claim7.holds_tied_plain_at .later [] [.data, .data, .data, .data, .sentinel, .sentinel, .pinned] true (true, "6248f9daf50500fda3dc80ada3037693b7f3a115fa3418c2abdefb9d55782d00") true
    said (fun _ h => by cases h) (by as_aux_lemma => kernel_rfl) (fun _ h => by cases h) traceLines_row_tie rfl ⟨rfl, rfl⟩ (by as_aux_lemma => kernel_rfl) rfl
    (fun f fn hf hfn => by
      obtain rfl : f = 3 := Option.some.inj ((show Tryz.prog.funcNamed "forepeak/forepeaklaw37.TraceLines" = some 3 by as_aux_lemma => kernel_rfl).symm.trans hf) |>.symm
      obtain rfl : fn = Tryz.f3 := (Option.some.inj (Tryz.func3.symm.trans hfn)).symm
      exact ⟨by as_aux_lemma => kernel_rfl, fun j t ht => by
        rw [Tryz.params3] at ht
        have hm : t ∈ [31, 9] := by simpa using Array.mem_of_getElem? ht
        have hall : ([31, 9].all fun u => !Tryz.prog.wantsStandIn u) = true := by as_aux_lemma => kernel_rfl
        exact (show Tryz.prog.wantsStandIn t = false by simpa using List.all_eq_true.1 hall t hm)⟩)
    (by as_aux_lemma => kernel_rfl)
#print axioms proved
end Go.Proofs.YtdjndnoiankicaaGreatDoor.traceLinesDone
