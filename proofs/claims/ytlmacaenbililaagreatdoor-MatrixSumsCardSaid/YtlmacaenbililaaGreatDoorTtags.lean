/- The conditions' tags (package forepeaklaw01): what is gone through. No conditions. -/
import Derived.Test.YtlmacaenbililaaGreatDoorTeach
namespace Go.Proofs.YtlmacaenbililaaGreatDoor
open Go.RowKit Go.Shelf
set_option linter.unusedSimpArgs false
set_option linter.unusedVariables false
attribute [local go_sem] Oper.semAt_some

theorem keepsLow_grown {N : Nat} {A B : World} {row : Option Nat} (h : A.grownBy B row) (hN : N ≤ A.heap.size) (hr : ∀ k, row = some k → N ≤ k) : KeepsLow N A B := fun q hq => h.block q (by omega) (fun e => by have := hr q e.symm; omega)
theorem keepsLow_set {N : Nat} (W : World) (g o : Nat) (v : Value) (hg : N ≤ g) : KeepsLow N W (W.setCell ⟨g, o, none⟩ v) := fun q hq => Below.heap_setCell W ⟨g, o, none⟩ v q (by simp; omega)
theorem TabAt.lt {w : World} (h : TabAt w) : 0 < w.heap.size := World.block_lt_of_cell? w _ (h 0 (by omega))
theorem news_block {w : World} {b : Nat} {C : List Value} {t : TypeId} {fr : Nat × Nat} (hb : w.heap[b]? = some (.cells C.toArray t fr)) : ∀ j u, C[j]? = some u → w.cell? ((⟨b, 0, none⟩ : Addr).add j) = some u := fun j u hu => by
  have h := range_of_block hb 0 C (fun j _ => by rw [Nat.zero_add]) j u hu
  rw [Nat.zero_add] at h
  by_cases e : j = 0
  · subst e; simpa [Addr.add] using h
  · simpa [Addr.add, e] using h
theorem own_at {w : World} {base : Nat} {e : TypeId} {size n : Nat} {v : Value} {xs : List Value} (h : w.ownsRow base e size v n xs) (k : Nat) (hk : v.ownBlock = some k) : base ≤ k := by
  rcases h.2 with ⟨rfl, _⟩ | ⟨g, cap, cur, rfl, hb, _⟩
  · simp [Value.ownBlock] at hk
  · have : g = k := by simpa [Value.ownBlock] using hk
    omega
theorem info_int : (Tryz.prog.info? 3).map (fun i => (i.zero, i.size, i.bytes)) = some (some (.int .i64 0), 1, 8) := by kernel_rfl
theorem slice_int (x : Int) (W : World) : (Instr.buildSlice 58 1 #[(0, .int .i64 x)]).run Tryz.prog W = .ok (.slice (some ⟨W.heap.size, 0, none⟩) 1 1) (W.alloc (.cells #[.int .i64 x] 3)) := by kernel_rfl
def intCells (l : List Nat) : List Value := l.map fun t : Nat => .int .i64 (t : Int)
end Go.Proofs.YtlmacaenbililaaGreatDoor
