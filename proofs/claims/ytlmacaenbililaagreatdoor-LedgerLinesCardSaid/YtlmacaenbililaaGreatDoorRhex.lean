/- The document's digits of bytes, and the words of a line: what they return. No conditions. -/
import Derived.Test.YtlmacaenbililaaGreatDoorRdec
namespace Go.Proofs.YtlmacaenbililaaGreatDoor
open Go.RowKit Go.Shelf
set_option linter.unusedSimpArgs false
set_option linter.unusedVariables false
attribute [local go_sem] cell_over frozen_over

theorem hexd_slice : ∀ d : Fin 16, (⟨#[48, 49, 50, 51, 52, 53, 54, 55, 56, 57, 97, 98, 99, 100, 101, 102]⟩ : ByteArray).extract d.val (d.val + 1) = ⟨#[Tr.hexd d.val]⟩ := by decide
theorem slice_hex (j : Nat) (hj : j < 16) (W : World) : (Instr.slice 9 (.string ⟨#[48, 49, 50, 51, 52, 53, 54, 55, 56, 57, 97, 98, 99, 100, 101, 102]⟩) (some (.int .i64 (j : Int))) (some (.int .i64 ((j : Int) + 1))) none).run Tryz.prog W = .ok (.string ⟨#[Tr.hexd j]⟩) W := by
  rw [run_slice_string W 9 _ .i64 .i64 (j : Int) ((j : Int) + 1) Tryz.underlying9 (by omega) (by omega) (by show ((j : Int) + 1) ≤ 16; omega)]
  have := hexd_slice ⟨j, hj⟩
  simp only at this
  rw [Int.toNat_natCast, show ((j : Int) + 1).toNat = j + 1 by omega, this]
end Go.Proofs.YtlmacaenbililaaGreatDoor
