/- Package label: Join, Meet, Parse: what they return. No conditions. -/
import Derived.Test.YtlmacaenbililaaGreatDoorLab
namespace Go.Proofs.YtlmacaenbililaaGreatDoor
open Go.RowKit Go.Shelf
set_option linter.unusedSimpArgs false
set_option linter.unusedVariables false
attribute [local go_sem] cell_over frozen_over

/-- A row of labels that is read. -/
def LabsAt (w : World) (A : Option Addr) (l : List Lab.L) : Prop := l = [] ∨ ∃ b off, A = some ⟨b, off, none⟩ ∧ ∀ i (h : i < l.length), w.cell? ⟨b, off + i * 2, none⟩ = some (.int .u16 (l[i].1 : Int)) ∧ w.cell? ⟨b, off + i * 2 + 1, none⟩ = some (.int .u16 (l[i].2 : Int))
theorem LabsAt.below {w W : World} {A : Option Addr} {l : List Lab.L} (h : LabsAt w A l) (hb : Below w.heap.size w W) : LabsAt W A l := by
  rcases h with h | ⟨b, off, h1, h2⟩
  · exact .inl h
  · exact .inr ⟨b, off, h1, fun i hi => ⟨cell_on (h2 i hi).1 hb, cell_on (h2 i hi).2 hb⟩⟩
end Go.Proofs.YtlmacaenbililaaGreatDoor
