/- The reference's labels (package forepeakref02): Join, Meet: what they return. No conditions. -/
import Derived.Test.YtdjndnoiankicaaGreatDoorLrefb
namespace Go.Proofs.YtdjndnoiankicaaGreatDoor
open Go.RowKit Go.Shelf
set_option linter.unusedSimpArgs false
set_option linter.unusedVariables false
attribute [local go_sem] cell_over frozen_over

theorem ror_b (a b : Nat) (ha : a < 65536) (hb : b < 65536) (w : World) : Calls Tryz.prog 245 #[.int .u16 (a : Int), .int .u16 (b : Int)] w fun e w' => e = .returned (.int .u16 ((a ||| b : Nat) : Int)) ∧ Below w.heap.size w w' :=
  (ror_ok a b ha hb w).mono fun _ _ ⟨h1, h2⟩ => ⟨h1, by rw [h2]; exact Below.refl _ _⟩
theorem rand_b (a b : Nat) (ha : a < 65536) (hb : b < 65536) (w : World) : Calls Tryz.prog 120 #[.int .u16 (a : Int), .int .u16 (b : Int)] w fun e w' => e = .returned (.int .u16 ((a &&& b : Nat) : Int)) ∧ Below w.heap.size w w' :=
  (rand_ok a b ha hb w).mono fun _ _ ⟨h1, h2⟩ => ⟨h1, by rw [h2]; exact Below.refl _ _⟩
theorem LabsAt.get {w : World} {A : Option Addr} {l : List Lab.L} (h : LabsAt w A l) {k : Nat} (hk : k < l.length) : ∃ b off, A = some ⟨b, off, none⟩ ∧ w.cell? ⟨b, off + k * 2, none⟩ = some (.int .u16 (l[k].1 : Int)) ∧ w.cell? ⟨b, off + k * 2 + 1, none⟩ = some (.int .u16 (l[k].2 : Int)) := by
  rcases h with h | ⟨b, off, h1, h2⟩
  · rw [h] at hk; simp at hk
  · exact ⟨b, off, h1, h2 k hk⟩
end Go.Proofs.YtdjndnoiankicaaGreatDoor
