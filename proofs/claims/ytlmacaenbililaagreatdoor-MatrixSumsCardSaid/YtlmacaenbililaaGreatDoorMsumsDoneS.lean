/- MatrixSums: the row. No conditions. -/
import Derived.Test.YtlmacaenbililaaGreatDoorCards
import Derived.Test.YtlmacaenbililaaGreatDoorTie
import Derived.Test.YtlmacaenbililaaGreatDoorTlaid
import Derived.Test.YtlmacaenbililaaGreatDoorKl
import Derived.Test.YtlmacaenbililaaGreatDoorKg
import Derived.Test.YtlmacaenbililaaGreatDoorKu
import Derived.WalkKit
import Derived.ProofKit
import Derived.OpenShut
import Derived.ShutString
import Derived.SevenTiedAt
import Derived.Below
import Derived.Carry
import Derived.ChangeSlices
import Derived.Test.YtlmacaenbililaaGreatDoorMsumsDoneL
import Derived.Test.YtlmacaenbililaaGreatDoorMsumsDoneF
namespace Go.Proofs.YtlmacaenbililaaGreatDoor.matrixSumsDone
open Go.ChangeShapes Go.WideShapes Go.ChangeAt Go.RowKit
open Go.ChangeMaps (open_string shut_string)
set_option linter.unusedVariables false

theorem said : Rows.MatrixSumsSaid :=
  OpenClaim.holds_of_wide 8 Tryz.f8 rfl rfl rfl rfl rfl rfl rfl ⟨rfl, rfl, rfl, rfl, rfl⟩ rfl rfl rfl rfl rfl fnamed Tryz.func8 closed
    (of_decide_eq_true (by as_aux_lemma => kernel_rfl)) (by unfold Func.isWrapper; first | (rw [if_pos (by decide +kernel)]; kernel_rfl) | (rw [if_neg (by decide +kernel)]; exact ⟨rfl, rfl⟩))
    (fun os started H enc _ => lifted os started H enc)

end Go.Proofs.YtlmacaenbililaaGreatDoor.matrixSumsDone
