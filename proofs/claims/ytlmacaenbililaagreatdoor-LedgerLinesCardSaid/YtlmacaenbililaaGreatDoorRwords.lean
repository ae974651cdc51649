/- The words of a line, as the document cuts it: what they are. No conditions. -/
import Derived.Test.YtlmacaenbililaaGreatDoorRhex
import Derived.Test.YtlmacaenbililaaGreatDoorKind
namespace Go.Proofs.YtlmacaenbililaaGreatDoor
open Go.RowKit Go.Shelf
set_option linter.unusedSimpArgs false
set_option linter.unusedVariables false
attribute [local go_sem] cell_over frozen_over

theorem own_new1 (w : World) (base : Nat) (hb : base ≤ w.heap.size) (e : TypeId) (x : Value) : (w.alloc (.cells #[x] e)).ownsRow base e 1 (.slice (some ⟨w.heap.size, 0, none⟩) 1 1) 1 [x] :=
  ⟨rfl, .inr ⟨w.heap.size, 1, #[x], rfl, hb, heap_alloc_new w _, Nat.le_refl _, by unfold maxLen; omega, rfl, rfl⟩⟩
theorem own_set {w : World} {base g cap n : Nat} {e : TypeId} {xs : List Value} (h : w.ownsRow base e 1 (.slice (some ⟨g, 0, none⟩) n cap) n xs) (i : Nat) (hi : i < n) (v : Value) :
    (w.setCell ⟨g, i, none⟩ v).ownsRow base e 1 (.slice (some ⟨g, 0, none⟩) n cap) n (xs.set i v) := by
  refine ⟨by rw [List.length_set]; exact h.1, ?_⟩
  rcases h.2 with ⟨h1, _⟩ | ⟨g', cap', cur, h1, hb, hg, hc1, hc2, hcs, hx⟩
  · cases h1
  · simp only [Value.slice.injEq, Option.some.injEq, Addr.mk.injEq] at h1
    obtain ⟨⟨rfl, _, _⟩, _, rfl⟩ := h1
    refine .inr ⟨g, cap, cur.setIfInBounds i v, rfl, hb, ?_, hc1, hc2, by simpa using hcs, ?_⟩
    · have hlt : g < w.heap.size := (Array.getElem?_eq_some_iff.1 hg).1
      simp [World.setCell, Array.getElem?_modify, hg]
    · rw [← hx, Array.toList_setIfInBounds, List.take_set]
theorem own_cell {w : World} {base g cap n : Nat} {e : TypeId} {xs : List Value} (h : w.ownsRow base e 1 (.slice (some ⟨g, 0, none⟩) n cap) n xs) (i : Nat) (v : Value) (hv : xs[i]? = some v) : w.cell? ⟨g, i, none⟩ = some v ∧ w.frozen? ⟨g, i, none⟩ = false ∧ g < w.heap.size := by
  have h2 := h.cells (g := g) rfl i v hv
  rw [addr_mid, Nat.zero_add] at h2
  rcases h.2 with ⟨h1, _⟩ | ⟨g', cap', cur, h1, hb, hg, _⟩
  · cases h1
  · simp only [Value.slice.injEq, Option.some.injEq, Addr.mk.injEq] at h1
    obtain ⟨⟨rfl, _, _⟩, _⟩ := h1
    exact ⟨h2, by simp [World.frozen?, hg], (Array.getElem?_eq_some_iff.1 hg).1⟩
def strs (l : List (List UInt8)) : List Value := l.map fun x => .string ⟨x.toArray⟩
theorem strs_len (l : List (List UInt8)) : (strs l).length = l.length := by simp [strs]
theorem info_str : (Tryz.prog.info? 9).map (fun i => (i.zero, i.size, i.bytes)) = some (some (.string ⟨#[]⟩), 1, 16) := by kernel_rfl
namespace Tr
theorem wstep_form (acc : List (List UInt8)) (c : UInt8) : ∃ i x, wstep acc c = i ++ [x] := by
  unfold wstep; split
  · exact ⟨_, _, rfl⟩
  · exact ⟨_, _, rfl⟩
theorem fold_form : ∀ (l : List UInt8), ∃ i x, l.foldl wstep [[]] = i ++ [x] := fun l => by
  rcases List.eq_nil_or_concat l with h | ⟨l', c, h⟩
  · rw [h]; exact ⟨[], [], rfl⟩
  · rw [h, List.concat_eq_append, List.foldl_append]; exact wstep_form _ _
theorem fold_len : ∀ (l : List UInt8) (acc : List (List UInt8)), acc ≠ [] → (l.foldl wstep acc).length ≤ acc.length + l.length
  | [], acc, _ => by simp
  | c :: l, acc, h => by
    have h1 : wstep acc c ≠ [] := by obtain ⟨i, x, e⟩ := wstep_form acc c; rw [e]; simp
    have h2 : (wstep acc c).length ≤ acc.length + 1 := by
      have := List.length_pos_iff.2 h
      unfold wstep; split
      · rw [List.length_append]; exact Nat.le_refl _
      · rw [List.length_append, List.length_dropLast, List.length_singleton]; omega
    have := fold_len l (wstep acc c) h1
    rw [List.foldl_cons, List.length_cons]; omega
theorem fold_size : ∀ (l : List UInt8) (acc : List (List UInt8)) (m : Nat), (∀ x ∈ acc, x.length ≤ m) → ∀ x ∈ l.foldl wstep acc, x.length ≤ m + l.length
  | [], acc, m, h => by simpa using h
  | c :: l, acc, m, h => by
    intro x hx
    rw [List.foldl_cons] at hx
    have := fold_size l (wstep acc c) (m + 1) (fun y hy => by
      unfold wstep at hy
      split at hy
      · rcases List.mem_append.1 hy with hy | hy
        · have := h y hy; omega
        · simp at hy; rw [hy]; simp
      · rcases List.mem_append.1 hy with hy | hy
        · have := h y ((List.dropLast_sublist acc).subset hy); omega
        · simp only [List.mem_singleton] at hy
          rw [hy, List.length_append]
          cases hl : acc.getLast? with
          | none => simp
          | some z => have := h z (List.mem_of_getLast? hl); simp; omega) x hx
    rw [List.length_cons]; omega
end Tr
end Go.Proofs.YtlmacaenbililaaGreatDoor
