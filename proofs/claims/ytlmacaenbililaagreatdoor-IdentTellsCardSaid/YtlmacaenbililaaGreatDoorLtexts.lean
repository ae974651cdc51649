/- LabelTexts: the walk. No conditions. -/
import Derived.Test.YtlmacaenbililaaGreatDoorLalive
import Derived.Test.YtlmacaenbililaaGreatDoorKc
namespace Go.Proofs.YtlmacaenbililaaGreatDoor
open Go.RowKit Go.Shelf
set_option linter.unusedSimpArgs false
set_option linter.unusedVariables false
attribute [local go_sem] cell_over frozen_over

/-- A block holds a label. -/
def LabIn (b : Nat) (a : Lab.L) (W : World) : Prop := W.heap[b]? = some (.cells #[.int .u16 (a.1 : Int), .int .u16 (a.2 : Int)] 25 (0, 0))
theorem LabIn.below {b : Nat} {a : Lab.L} {W W' : World} (h : LabIn b a W) (hb : Below W.heap.size W W') : LabIn b a W' := block_below hb h
theorem LabIn.new (W : World) (a : Lab.L) : LabIn W.heap.size a (W.alloc (.cells #[.int .u16 (a.1 : Int), .int .u16 (a.2 : Int)] 25)) := heap_alloc_new _ _
theorem LabIn.cells {b : Nat} {a : Lab.L} {W : World} (h : LabIn b a W) : W.cell? ⟨b, 0, none⟩ = some (.int .u16 (a.1 : Int)) ∧ W.cell? ⟨b, 1, none⟩ = some (.int .u16 (a.2 : Int)) ∧ b < W.heap.size :=
  ⟨(pair_cells h).1, (pair_cells h).2.1, World.block_lt_of_cell? W _ (pair_cells h).1⟩
theorem below_old (w : World) (o : Obj) : Below w.heap.size w (w.alloc o) := below_new (Below.refl _ _) o
end Go.Proofs.YtlmacaenbililaaGreatDoor
