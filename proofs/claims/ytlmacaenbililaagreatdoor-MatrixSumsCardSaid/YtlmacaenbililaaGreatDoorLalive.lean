/- The conditions' alive (package forepeaklaw02): it answers true. No conditions. -/
import Derived.Test.YtlmacaenbililaaGreatDoorLabc
import Derived.Test.YtlmacaenbililaaGreatDoorKr
namespace Go.Proofs.YtlmacaenbililaaGreatDoor
open Go.RowKit Go.Shelf
set_option linter.unusedSimpArgs false
set_option linter.unusedVariables false
attribute [local go_sem] cell_over frozen_over

namespace Lal
theorem f1 : Lab.flows (1, 6) (3, 2) = true := by kernel_rfl
theorem f2 : Lab.flows (3, 2) (1, 6) = false := by kernel_rfl
theorem f3 : Lab.flows Lab.bot Lab.top = true := by kernel_rfl
theorem f4 : Lab.flows Lab.top (1, 6) = false := by kernel_rfl
theorem j : Lab.join [(1, 6), (3, 2)] = (3, 2) := by kernel_rfl
theorem m : Lab.meet [(1, 6), (3, 2)] = (1, 6) := by kernel_rfl
theorem c : Lab.cmp (1, 6) (3, 2) = -1 := by kernel_rfl
theorem t : Lab.text (3, 2) = [48, 44, 49, 47, 49] := by kernel_rfl
theorem p1 : Lab.parse [48, 44, 49, 47, 49] = ((3, 2), 0) := by kernel_rfl
theorem p2 : Lab.parse [49] = ((0, 0), 3) := by kernel_rfl
end Lal
/-- The three labels that lie there. -/
def Three (b1 b2 b3 : Nat) (W : World) : Prop := W.heap[b1]? = some (.cells #[.int .u16 1, .int .u16 6] 25 (0, 0)) ∧ W.heap[b2]? = some (.cells #[.int .u16 3, .int .u16 2] 25 (0, 0)) ∧ W.heap[b3]? = some (.cells #[.int .u16 3, .int .u16 2] 25 (0, 0))
theorem Three.below {b1 b2 b3 : Nat} {W W' : World} (h : Three b1 b2 b3 W) (hb : Below W.heap.size W W') : Three b1 b2 b3 W' := ⟨block_below hb h.1, block_below hb h.2.1, block_below hb h.2.2⟩
theorem Three.cells {b1 b2 b3 : Nat} {W : World} (h : Three b1 b2 b3 W) : W.cell? ⟨b1, 0, none⟩ = some (.int .u16 1) ∧ W.cell? ⟨b1, 1, none⟩ = some (.int .u16 6) ∧ W.cell? ⟨b2, 0, none⟩ = some (.int .u16 3) ∧ W.cell? ⟨b2, 1, none⟩ = some (.int .u16 2) ∧ W.cell? ⟨b3, 0, none⟩ = some (.int .u16 3) ∧ W.cell? ⟨b3, 1, none⟩ = some (.int .u16 2) ∧ b1 < W.heap.size ∧ b2 < W.heap.size ∧ b3 < W.heap.size :=
  ⟨(pair_cells h.1).1, (pair_cells h.1).2.1, (pair_cells h.2.1).1, (pair_cells h.2.1).2.1, (pair_cells h.2.2).1, (pair_cells h.2.2).2.1, World.block_lt_of_cell? W _ (pair_cells h.1).1, World.block_lt_of_cell? W _ (pair_cells h.2.1).1, World.block_lt_of_cell? W _ (pair_cells h.2.2).1⟩
theorem labs_new (w : World) (t : TypeId) (x y z u : Nat) : LabsAt (w.alloc (.cells #[.int .u16 (x : Int), .int .u16 (y : Int), .int .u16 (z : Int), .int .u16 (u : Int)] t)) (some ⟨w.heap.size, 0, none⟩) [(x, y), (z, u)] := by
  refine .inr ⟨w.heap.size, 0, rfl, fun i hi => ?_⟩
  have h := heap_alloc_new w (.cells #[.int .u16 (x : Int), .int .u16 (y : Int), .int .u16 (z : Int), .int .u16 (u : Int)] t)
  match i, hi with
  | 0, _ => exact ⟨cell_of_row _ _ 0 _ _ (0, 0) h, cell_of_row _ _ 1 _ _ (0, 0) h⟩
  | 1, _ => exact ⟨cell_of_row _ _ 2 _ _ (0, 0) h, cell_of_row _ _ 3 _ _ (0, 0) h⟩
theorem okc {x y : Nat} (h : decide (x < 65536 ∧ y < 65536) = true) : Lab.ok (x, y) := by have := of_decide_eq_true h; exact this
theorem Lal.k1 (w : World) : Calls Tryz.prog 167 #[.agg #[.int .u16 1, .int .u16 6], .agg #[.int .u16 3, .int .u16 2]] w fun e w' => e = .returned (.bool true) ∧ Below w.heap.size w w' := by
  have h := flows_ok (1, 6) (3, 2) (okc rfl) (okc rfl) w; rw [Lal.f1] at h
  exact h
theorem Lal.k2 (w : World) : Calls Tryz.prog 167 #[.agg #[.int .u16 3, .int .u16 2], .agg #[.int .u16 1, .int .u16 6]] w fun e w' => e = .returned (.bool false) ∧ Below w.heap.size w w' := by
  have h := flows_ok (3, 2) (1, 6) (okc rfl) (okc rfl) w; rw [Lal.f2] at h
  exact h
theorem Lal.k5 (w : World) : Calls Tryz.prog 58 #[.agg #[.int .u16 1, .int .u16 6], .agg #[.int .u16 3, .int .u16 2]] w fun e w' => e = .returned (.int .i64 (-1)) ∧ Below w.heap.size w w' := by
  have h := lcmp_ok (1, 6) (3, 2) (okc rfl) (okc rfl) w; rw [Lal.c] at h
  exact h
theorem Lal.k6 (w : World) : Calls Tryz.prog 222 #[.agg #[.int .u16 1, .int .u16 6]] w fun e w' => e = .returned (.int .u16 7) ∧ Below w.heap.size w w' := by
  have h := ltags_ok (1, 6) (okc rfl) w
  exact h
theorem Lal.k7 (w : World) : Calls Tryz.prog 72 #[] w fun e w' => e = .returned (.agg #[.int .u16 0, .int .u16 65535]) ∧ Below w.heap.size w w' := by
  have h := bottom_ok w
  exact h
theorem Lal.k11 (w : World) (hL : LaidAt w) : Calls Tryz.prog 77 #[.string ⟨#[48, 44, 49, 47, 49]⟩] w fun e w' => e = .returned (.tuple #[.agg #[.int .u16 3, .int .u16 2], .int .i64 0]) ∧ Below w.heap.size w w' := by
  have h := lparse_ok ⟨#[48, 44, 49, 47, 49]⟩ (by decide) w hL
  rw [show (⟨#[48, 44, 49, 47, 49]⟩ : ByteArray).data.toList = [48, 44, 49, 47, 49] from rfl, Lal.p1] at h
  exact h
theorem Lal.k12 (w : World) (hL : LaidAt w) : Calls Tryz.prog 77 #[.string ⟨#[49]⟩] w fun e w' => e = .returned (.tuple #[.agg #[.int .u16 0, .int .u16 0], .int .i64 3]) ∧ Below w.heap.size w w' := by
  have h := lparse_ok ⟨#[49]⟩ (by decide) w hL
  rw [show (⟨#[49]⟩ : ByteArray).data.toList = [49] from rfl, Lal.p2] at h
  exact h
theorem Lal.k13 (w : World) (hL : LaidAt w) : Calls Tryz.prog 82 #[.agg #[.int .u16 3, .int .u16 2]] w fun e w' => e = .returned (.string ⟨#[48, 44, 49, 47, 49]⟩) ∧ Below w.heap.size w w' := by
  have h := ltext_ok (3, 2) (okc rfl) w hL.tab hL.pow
  rw [Lal.t] at h
  exact h
end Go.Proofs.YtlmacaenbililaaGreatDoor
