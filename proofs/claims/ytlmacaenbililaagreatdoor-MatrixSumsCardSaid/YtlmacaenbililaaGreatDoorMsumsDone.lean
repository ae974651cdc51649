/- MatrixSums: the statement. No conditions. -/
import Derived.Test.YtlmacaenbililaaGreatDoorCards
import Derived.Test.YtlmacaenbililaaGreatDoorTie
import Derived.Test.YtlmacaenbililaaGreatDoorTlaid
import Derived.Test.YtlmacaenbililaaGreatDoorKl
import Derived.Test.YtlmacaenbililaaGreatDoorKg
import Derived.Test.YtlmacaenbililaaGreatDoorKu
import Derived.WalkKit
import Derived.ProofKit
import Derived.OpenShut
import Derived.ShutString
import Derived.SevenTiedAt
import Derived.Below
import Derived.Carry
import Derived.ChangeSlices
import Derived.Test.YtlmacaenbililaaGreatDoorMsumsDoneS
namespace Go.Proofs.YtlmacaenbililaaGreatDoor.matrixSumsDone
open Go.ChangeShapes Go.WideShapes Go.ChangeAt Go.RowKit
open Go.ChangeMaps (open_string shut_string)
set_option linter.unusedVariables false

/-- THE STATEMENT. -/
theorem proved : Rows.MatrixSumsCardSaid :=
  Claim7.holds_tied_plain_at .later [] [.data, .data, .data, .data, .sentinel, .sentinel, .pinned] true (true, "09ccaec5f34fa9e30f01f50138b66d65dc41ffdcc6c2782bba785c2928ca0f61") true
    said (fun _ h => by cases h) (by as_aux_lemma => kernel_rfl) (fun _ h => by cases h) matrixSums_row_tie rfl ⟨rfl, rfl⟩ (by as_aux_lemma => kernel_rfl) rfl
    (fun f fn hf hfn => by
      obtain rfl : f = 8 := Option.some.inj ((show Tryz.prog.funcNamed "forepeak/forepeaklaw47.MatrixSums" = some 8 by as_aux_lemma => kernel_rfl).symm.trans hf) |>.symm
      obtain rfl : fn = Tryz.f8 := (Option.some.inj (Tryz.func8.symm.trans hfn)).symm
      exact ⟨by as_aux_lemma => kernel_rfl, fun j t ht => by
        rw [Tryz.params8] at ht
        have hm : t ∈ [30, 25] := by simpa using Array.mem_of_getElem? ht
        have hall : ([30, 25].all fun u => !Tryz.prog.wantsStandIn u) = true := by as_aux_lemma => kernel_rfl
        exact (show Tryz.prog.wantsStandIn t = false by simpa using List.all_eq_true.1 hall t hm)⟩)
    (by as_aux_lemma => kernel_rfl)
#print axioms proved
end Go.Proofs.YtlmacaenbililaaGreatDoor.matrixSumsDone
