/- TraceLines: the row. No conditions. -/
import Derived.Test.YtdjndnoiankicaaGreatDoorCards
import Derived.Test.YtdjndnoiankicaaGreatDoorTie
import Derived.Test.YtdjndnoiankicaaGreatDoorTlaid
import Derived.Test.YtdjndnoiankicaaGreatDoorLopen
import Derived.Test.YtdjndnoiankicaaGreatDoorJb
import Derived.Test.YtdjndnoiankicaaGreatDoorTrlw
import Derived.WalkKit
import Derived.ProofKit
import Derived.OpenShut
import Derived.ShutString
import Derived.SevenTiedAt
import Derived.Below
import Derived.Carry
import Derived.ChangeSlices
import Derived.Test.YtdjndnoiankicaaGreatDoorTrlinesDoneL
import Derived.Test.YtdjndnoiankicaaGreatDoorTrlinesDoneF
namespace Go.Proofs.YtdjndnoiankicaaGreatDoor.traceLinesDone
open Go.ChangeShapes Go.WideShapes Go.ChangeAt Go.RowKit
open Go.ChangeMaps (open_string shut_string)
set_option linter.unusedVariables false

theorem said : Rows.TraceLinesSaid :=
  OpenClaim.holds_of_wide 3 Tryz.f3 rfl rfl rfl rfl rfl rfl rfl ⟨rfl, rfl, rfl, rfl, rfl⟩ rfl rfl rfl rfl rfl fnamed Tryz.func3 closed
    (of_decide_eq_true (by as_aux_lemma => kernel_rfl)) (by unfold Func.isWrapper; first | (rw [if_pos (by decide +kernel)]; kernel_rfl) | (rw [if_neg (by decide +kernel)]; exact ⟨rfl, rfl⟩))
    (fun os started H enc _ => lifted os started H enc)

end Go.Proofs.YtdjndnoiankicaaGreatDoor.traceLinesDone
