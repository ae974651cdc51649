/- The document's names: which name a text is. No conditions. -/
import Derived.Test.YtlmacaenbililaaGreatDoorKe
import Derived.Test.YtlmacaenbililaaGreatDoorKc
import Derived.Test.YtlmacaenbililaaGreatDoorLtexts
namespace Go.Proofs.YtlmacaenbililaaGreatDoor
open Go.RowKit Go.Shelf
set_option linter.unusedSimpArgs false
set_option linter.unusedVariables false
attribute [local go_sem] cell_over frozen_over

namespace Idn
/-- The label that is tried at a dot. -/
def labAt (s : List UInt8) (i : Nat) : Lab.L := (Lab.parse ((s.take (max 1 i)).drop 1)).1
theorem labAt_ok (s : List UInt8) (i : Nat) : Lab.ok (labAt s i) := Lab.parse_lt _
theorem parse_hit {s : List UInt8} {i n : Nat} (hn : n < 12) (h : text (mk (labAt s i) (n : Int)) = s) : parse s = (mk (labAt s i) (n : Int), 0) := by
  have := parse_text (x := mk (labAt s i) (n : Int)) (by rw [mk_in _ (by omega) (by omega)]; exact labAt_ok s i) (fine_mk _ (by omega) (by omega))
  rw [h] at this
  exact this
theorem parse_zero (s : List UInt8) : (parse s).2 = 0 ∨ parse s = (zero, 3) := by
  unfold parse
  split
  · exact .inr rfl
  · split
    · exact .inr rfl
    · split
      · exact .inl rfl
      · exact .inr rfl
theorem parse_miss {s : List UInt8} (h : ∀ i, i < s.length → s.getD i 0 = 46 → ∀ n, n < 12 → text (mk (labAt s i) ((n : Nat) : Int)) ≠ s) : parse s = (zero, 3) := by
  rcases parse_zero s with h0 | h0
  · exfalso
    obtain ⟨h1, h2, h3⟩ := parse_fine h0
    generalize (parse s).1 = x at h1 h2 h3
    have ht := h1
    rw [text_fine h2] at ht
    have hlen : s.length = (Lab.text x.1).length + 3 := by rw [← ht]; simp
    have hi : (Lab.text x.1).length + 1 < s.length := by omega
    have hdot : s.getD ((Lab.text x.1).length + 1) 0 = 46 := by
      rw [← ht, List.getD_cons_succ, List.getD_eq_getElem?_getD, List.getElem?_append_right (Nat.le_refl _)]; simp
    have hlab : labAt s ((Lab.text x.1).length + 1) = x.1 := by
      unfold labAt
      have e : (s.take (max 1 ((Lab.text x.1).length + 1))).drop 1 = Lab.text x.1 := by
        rw [← ht, show max 1 ((Lab.text x.1).length + 1) = (Lab.text x.1).length + 1 by omega, List.take_succ_cons, List.drop_one, List.tail_cons, List.take_left]
      rw [e, Lab.parse_text _ h3]
    obtain ⟨l1, l2, l3, l4⟩ := fine_iff.1 h2
    have hl := lane_fine h2
    have hm := mk_lane h2
    have hn : (lane x).toNat < 12 := by omega
    refine h _ hi hdot (lane x).toNat hn ?_
    rw [hlab, show (((lane x).toNat : Nat) : Int) = lane x by omega, hm, h1]
  · exact h0
end Idn
end Go.Proofs.YtlmacaenbililaaGreatDoor
