/- Package trace: hex, unhex: what they return. No conditions. -/
import Derived.Test.YtlmacaenbililaaGreatDoorTrlaw
import Derived.Test.YtlmacaenbililaaGreatDoorWire
import Derived.Test.YtlmacaenbililaaGreatDoorOrd
namespace Go.Proofs.YtlmacaenbililaaGreatDoor
open Go.RowKit Go.Shelf
set_option linter.unusedSimpArgs false
set_option linter.unusedVariables false
attribute [local go_sem] cell_over frozen_over

theorem wraps_u8 (n : Int) (h₀ : 0 ≤ n) (h₁ : n < 2 ^ 8) : IntKind.u8.wrap n = n := by simp [IntKind.wrap, IntKind.bits, IntKind.signed]; omega
theorem u8_and15 (x : Int) (h₀ : 0 ≤ x) (h₁ : x < 256) : bits .and .u8 x 15 = x % 16 := bits_mask .u8 8 (by decide) wraps_u8 4 (by decide) x h₀ h₁
theorem index_digits (n : Nat) (h : n < 16) (i : Int) (hi : i = n) (W : World) : (Instr.index 9 (.string ⟨#[48, 49, 50, 51, 52, 53, 54, 55, 56, 57, 97, 98, 99, 100, 101, 102]⟩) (.int .u8 i)).run Tryz.prog W = .ok (.int .u8 ((Tr.hexd n).toNat : Int)) W := by
  subst hi
  rw [run_index_string W 9 _ .u8 (n : Int) Tryz.underlying9, dif_pos ⟨by omega, by show (n : Int) < 16; omega⟩]
  rw [byte_at _ ((n : Int)).toNat (by show n < 16; omega)]
  rfl
theorem toList_snoc (s : ByteArray) (k : Nat) (h : k < s.size) : s.data.toList.take (k + 1) = s.data.toList.take k ++ [s.data.toList.getD k 0] := by
  have h' : k < s.data.toList.length := by rw [Array.length_toList]; exact h
  rw [List.take_succ_eq_append_getElem h', List.getD_eq_getElem?_getD, List.getElem?_eq_getElem h']; rfl
theorem news_two {w : World} {g : Nat} {x y : Value} {t : TypeId} (h : w.heap[g]? = some (.cells #[x, y] t (0, 0))) : ∀ j u, [x, y][j]? = some u → w.cell? ((⟨g, 0, none⟩ : Addr).add j) = some u := by
  intro j u hj
  match j, hj with
  | 0, hj => simp at hj; subst hj; exact cell_of_row w g 0 _ t (0, 0) h
  | 1, hj => simp at hj; subst hj; exact cell_of_row w g 1 _ t (0, 0) h
theorem back_of_own {w : World} {B g cap : Nat} {l : List UInt8} (h : w.ownsRow B 5 1 (.slice (some ⟨g, 0, none⟩) l.length cap) l.length (Lib.byteCells l)) :
    (convert 144 9 (.slice (some ⟨g, 0, none⟩) l.length cap)).run Tryz.prog w = .ok (.string ⟨l.toArray⟩) w :=
  run_convert_bytes_back w 144 9 5 ⟨g, 0, none⟩ cap l Tryz.underlying144 Tryz.underlying5 Tryz.underlying9 (fun j hj => h.cells (g := g) rfl j _ (by simp [Lib.byteCells, hj]))
end Go.Proofs.YtlmacaenbililaaGreatDoor
