/- Entries of a trace: their lines, and which entry a text is: plain laws. No conditions. -/
import Derived.Test.YtlmacaenbililaaGreatDoorIlaw
namespace Go.Proofs.YtlmacaenbililaaGreatDoor
open Go.RowKit Go.Shelf
set_option linter.unusedSimpArgs false
set_option linter.unusedVariables false

namespace Tr
/-- An entry: when, who, the label, the error, the data. -/
abbrev E := Int × Idn.I × Lab.L × Int × ByteArray
def zero : E := (0, Idn.zero, (0, 0), 0, ⟨#[]⟩)
def digits : List UInt8 := [48, 49, 50, 51, 52, 53, 54, 55, 56, 57, 97, 98, 99, 100, 101, 102]
def hexd (n : Nat) : UInt8 := digits.getD n 0
def hexl (l : List UInt8) : List UInt8 := l.flatMap fun c => [hexd (c.toNat / 16), hexd (c.toNat % 16)]
def hex (l : List UInt8) : List UInt8 := if l = [] then [45] else hexl l
/-- Two digits as a byte, whatever they are. -/
def two (c d : UInt8) : UInt8 := (IntKind.u8.wrap (bits .or .i64 (Lib.indexByte digits c * 16) (Lib.indexByte digits d))).toNat.toUInt8
def unhexl : List UInt8 → List UInt8
  | c :: d :: r => two c d :: unhexl r
  | _ => []
def unhex (l : List UInt8) : List UInt8 := if l = [45] then [] else unhexl l
def words5 (e : E) : List (List UInt8) := [Lib.itoa e.1, Idn.text e.2.1, Lab.text e.2.2.1, Lib.itoa e.2.2.2.1, hex e.2.2.2.2.data.toList]
def line (e : E) : List UInt8 := Lib.join (words5 e) [32]
theorem hexl_len : ∀ l : List UInt8, (hexl l).length = 2 * l.length
  | [] => rfl
  | c :: l => by
    have := hexl_len l
    unfold hexl at this ⊢
    rw [List.flatMap_cons, List.length_append, this]; simp; omega
theorem hexl_snoc (l : List UInt8) (c : UInt8) : hexl (l ++ [c]) = hexl l ++ [hexd (c.toNat / 16), hexd (c.toNat % 16)] := by simp [hexl, List.flatMap_append]
theorem hex_ne {l : List UInt8} (h : l ≠ []) : hex l = hexl l := if_neg h
theorem two_hex : ∀ c : Fin 256, two (hexd (c.val / 16)) (hexd (c.val % 16)) = c.val.toUInt8 := by decide +kernel
theorem unhexl_hexl : ∀ l : List UInt8, unhexl (hexl l) = l
  | [] => rfl
  | c :: l => by
    have h := two_hex ⟨c.toNat, UInt8.toNat_lt c⟩
    simp only at h
    show unhexl (hexd (c.toNat / 16) :: hexd (c.toNat % 16) :: hexl l) = c :: l
    unfold unhexl
    rw [h, unhexl_hexl l]
    simp
theorem hexl_no45 : ∀ l : List UInt8, hexl l ≠ [45] := fun l h => by
  have := congrArg List.length h
  rw [hexl_len] at this; simp at this; omega
theorem unhex_hex (l : List UInt8) : unhex (hex l) = l := by
  unfold unhex hex
  by_cases h : l = []
  · rw [if_pos h, if_pos rfl, h]
  · rw [if_neg h, if_neg (hexl_no45 l), unhexl_hexl]
theorem hexl_inj {l m : List UInt8} (h : hexl l = hexl m) : l = m := by rw [← unhexl_hexl l, h, unhexl_hexl]
theorem unhexl_len : ∀ (l : List UInt8), (unhexl l).length ≤ l.length
  | [] => Nat.le_refl _
  | [_] => Nat.zero_le _
  | c :: d :: r => by
    have := unhexl_len r
    show (unhexl r).length + 1 ≤ r.length + 1 + 1
    omega
theorem unhexl_snoc : ∀ (k : Nat) (l : List UInt8), 2 * k + 1 < l.length → unhexl (l.take (2 * k + 2)) = unhexl (l.take (2 * k)) ++ [two (l.getD (2 * k) 0) (l.getD (2 * k + 1) 0)]
  | 0, c :: d :: r, _ => rfl
  | k + 1, c :: d :: r, h => by
    have ih := unhexl_snoc k r (by simp at h; omega)
    have e1 : 2 * (k + 1) + 2 = (2 * k + 2) + 1 + 1 := by omega
    have e2 : 2 * (k + 1) = 2 * k + 1 + 1 := by omega
    rw [e1, e2]
    simp only [List.take_succ_cons, List.getD_cons_succ]
    show two c d :: unhexl (r.take (2 * k + 2)) = two c d :: unhexl (r.take (2 * k)) ++ _
    rw [ih]; rfl
  | 0, [], h => by simp at h
  | 0, [_], h => by simp at h
  | k + 1, [], h => by simp at h
  | k + 1, [_], h => by simp at h
theorem unhexl_end : ∀ (k : Nat) (l : List UInt8), 2 * k ≤ l.length → l.length ≤ 2 * k + 1 → unhexl (l.take (2 * k)) = unhexl l
  | 0, [], _, _ => rfl
  | 0, [_], _, _ => rfl
  | 0, _ :: _ :: _, _, h => by simp at h
  | k + 1, [], h, _ => by simp at h
  | k + 1, [_], h, _ => by simp only [List.length_cons, List.length_nil] at h; omega
  | k + 1, c :: d :: r, h1, h2 => by
    have e2 : 2 * (k + 1) = 2 * k + 1 + 1 := by omega
    rw [e2]
    simp only [List.take_succ_cons]
    show two c d :: unhexl (r.take (2 * k)) = two c d :: unhexl r
    rw [unhexl_end k r (by simp at h1; omega) (by simp at h2; omega)]
end Tr
abbrev trV (e : Tr.E) : Value := .agg #[.int .i64 e.1, .int .u16 (e.2.1.1.1 : Int), .int .u16 (e.2.1.1.2 : Int), .int .i64 e.2.1.2.1, .int .i64 e.2.1.2.2, .int .u16 (e.2.2.1.1 : Int), .int .u16 (e.2.2.1.2 : Int), .int .i64 e.2.2.2.1, .string e.2.2.2.2]
end Go.Proofs.YtlmacaenbililaaGreatDoor
