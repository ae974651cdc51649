/- MatrixTells: the statement. No conditions. -/
import Derived.Test.YtlmacaenbililaaGreatDoorCards
import Derived.Test.YtlmacaenbililaaGreatDoorTie
import Derived.Test.YtlmacaenbililaaGreatDoorTlaid
import Derived.Test.YtlmacaenbililaaGreatDoorKl
import Derived.Test.YtlmacaenbililaaGreatDoorKg
import Derived.Test.YtlmacaenbililaaGreatDoorKu
import Derived.WalkKit
import Derived.ProofKit
import Derived.OpenShut
import Derived.ShutString
import Derived.SevenTiedAt
import Derived.Below
import Derived.Carry
import Derived.ChangeSlices
import Derived.Test.YtlmacaenbililaaGreatDoorMtellsDoneS
namespace Go.Proofs.YtlmacaenbililaaGreatDoor.matrixTellsDone
open Go.ChangeShapes Go.WideShapes Go.ChangeAt Go.RowKit
open Go.ChangeMaps (open_string shut_string)
set_option linter.unusedVariables false

/-- THE STATEMENT. -/
theorem proved : Rows.MatrixTellsCardSaid :=
  Claim7.holds_tied_plain_at .later [] [.data, .data, .data, .data, .sentinel, .sentinel, .pinned] true (true, "09ccaec5f34fa9e30f01f50138b66d65dc41ffdcc6c2782bba785c2928ca0f61") true
    said (fun _ h => by cases h) (by as_aux_lemma => kernel_rfl) (fun _ h => by cases h) matrixTells_row_tie rfl ⟨rfl, rfl⟩ (by as_aux_lemma => kernel_rfl) rfl
    (fun f fn hf hfn => by
      obtain rfl : f = 6 := Option.some.inj ((show Tryz.prog.funcNamed "forepeak/forepeaklaw47.MatrixTells" = some 6 by as_aux_lemma => kernel_rfl).symm.trans hf) |>.symm
      obtain rfl : fn = Tryz.f6 := (Option.some.inj (Tryz.func6.symm.trans hfn)).symm
      exact ⟨by as_aux_lemma => kernel_rfl, fun j t ht => by
        rw [Tryz.params6] at ht
        have hm : t ∈ [30, 25, 3, 3] := by simpa using Array.mem_of_getElem? ht
        have hall : ([30, 25, 3, 3].all fun u => !Tryz.prog.wantsStandIn u) = true := by as_aux_lemma => kernel_rfl
        exact (show Tryz.prog.wantsStandIn t = false by simpa using List.all_eq_true.1 hall t hm)⟩)
    (by as_aux_lemma => kernel_rfl)
#print axioms proved
end Go.Proofs.YtlmacaenbililaaGreatDoor.matrixTellsDone
