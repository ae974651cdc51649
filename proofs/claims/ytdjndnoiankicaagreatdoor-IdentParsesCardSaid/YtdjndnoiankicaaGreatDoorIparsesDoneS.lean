/- IdentParses: the row. No conditions. -/
import Derived.Test.YtdjndnoiankicaaGreatDoorCards
import Derived.Test.YtdjndnoiankicaaGreatDoorTie
import Derived.Test.YtdjndnoiankicaaGreatDoorTlaid
import Derived.Test.YtdjndnoiankicaaGreatDoorLopen
import Derived.Test.YtdjndnoiankicaaGreatDoorIopen
import Derived.Test.YtdjndnoiankicaaGreatDoorIparses
import Derived.WalkKit
import Derived.ProofKit
import Derived.OpenShut
import Derived.ShutString
import Derived.SevenTiedAt
import Derived.Below
import Derived.Carry
import Derived.ChangeSlices
import Derived.Test.YtdjndnoiankicaaGreatDoorIparsesDoneL
import Derived.Test.YtdjndnoiankicaaGreatDoorIparsesDoneF
namespace Go.Proofs.YtdjndnoiankicaaGreatDoor.identParsesDone
open Go.ChangeShapes Go.WideShapes Go.ChangeAt Go.RowKit
open Go.ChangeMaps (open_string shut_string)
set_option linter.unusedVariables false

theorem said : Rows.IdentParsesSaid :=
  OpenClaim.holds_of_wide 4 Tryz.f4 rfl rfl rfl rfl rfl rfl rfl ⟨rfl, rfl, rfl, rfl, rfl⟩ rfl rfl rfl rfl rfl fnamed Tryz.func4 closed
    (of_decide_eq_true (by as_aux_lemma => kernel_rfl)) (by unfold Func.isWrapper; first | (rw [if_pos (by decide +kernel)]; kernel_rfl) | (rw [if_neg (by decide +kernel)]; exact ⟨rfl, rfl⟩))
    (fun os started H enc _ => lifted os started H enc)

end Go.Proofs.YtdjndnoiankicaaGreatDoor.identParsesDone
