/- The document's names: which there are, their lanes, their texts. No conditions. -/
import Derived.Test.YtlmacaenbililaaGreatDoorIparse
import Derived.Test.YtlmacaenbililaaGreatDoorLref
import Derived.Test.YtlmacaenbililaaGreatDoorFree
namespace Go.Proofs.YtlmacaenbililaaGreatDoor
open Go.RowKit Go.Shelf
set_option linter.unusedSimpArgs false
set_option linter.unusedVariables false
attribute [local go_sem] cell_over frozen_over

set_option maxRecDepth 100000 in
set_option maxHeartbeats 4000000 in
theorem rfine_ok (x : Idn.I) (w : World) : Calls Tryz.prog 32 #[idV x] w fun e w' => e = .returned (.bool (Idn.fine x)) ∧ Below w.heap.size w w' := by
  obtain ⟨⟨a, b⟩, k, n⟩ := x
  have HB := Lib.hid (below_fresh w (.cells #[.int .u16 (a : Int), .int .u16 (b : Int), .int .i64 k, .int .i64 n] 64))
  have hk : k = 1 ∨ k = 2 ∨ k = 3 ∨ (¬ k = 1 ∧ ¬ k = 2 ∧ ¬ k = 3) := by omega
  have hn : n = 0 ∨ n = 1 ∨ n = 2 ∨ n = 3 ∨ (¬ n = 0 ∧ ¬ n = 1 ∧ ¬ n = 2 ∧ ¬ n = 3) := by omega
  rcases hk with rfl | rfl | rfl | ⟨k1, k2, k3⟩
  case inr.inr.inr =>
    have hf : Idn.fine ((a, b), k, n) = false := by unfold Idn.fine; simp; omega
    rw [hf]
    clear hf hn
    go_enter Tryz.func32, Tryz.ntmps32
    go_wp2_with fail
    go_ret
    exact ⟨rfl, HB.out⟩
  all_goals
    rcases hn with rfl | rfl | rfl | rfl | ⟨n1, n2, n3, n4⟩
    case inr.inr.inr.inr =>
      have hf : ∀ k : Int, Idn.fine ((a, b), k, n) = false := fun k => by unfold Idn.fine; simp; omega
      rw [hf]
      clear hf
      go_enter Tryz.func32, Tryz.ntmps32
      go_wp2_with fail
      go_ret
      exact ⟨by simp [n1, n2, n3, n4], HB.out⟩
    all_goals
      go_enter Tryz.func32, Tryz.ntmps32
      go_wp2_with fail
      go_ret
      exact ⟨rfl, HB.out⟩
end Go.Proofs.YtlmacaenbililaaGreatDoor
