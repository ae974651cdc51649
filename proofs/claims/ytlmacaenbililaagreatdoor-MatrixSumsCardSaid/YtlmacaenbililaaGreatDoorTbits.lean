/- math/bits: OnesCount16 and TrailingZeros16: what they return. No conditions. -/
import Derived.Test.YtlmacaenbililaaGreatDoorTlaw
import Derived.Lib.BitFns
import Derived.Lib.Strings
import Derived.Lib.Small
import Derived.Lib.Walk
import Derived.Deep.DeepCutAuto
import Derived.Laws.BitsLemmas
namespace Go.Proofs.YtlmacaenbililaaGreatDoor
open Go.RowKit
theorem wraps_u16 (n : Int) (h₀ : 0 ≤ n) (h₁ : n < 2 ^ 16) : IntKind.u16.wrap n = n := by simp [IntKind.wrap, IntKind.bits, IntKind.signed]; omega
theorem u16_and255 (x : Int) (h₀ : 0 ≤ x) (h₁ : x < 65536) : bits .and .u16 x 255 = x % 256 := bits_mask .u16 16 (by decide) wraps_u16 8 (by decide) x h₀ h₁
theorem pop8_at (i : Int) (h0 : 0 ≤ i) (h1 : i < (Lib.pop8tab.size : Int)) : ((Lib.pop8tab[i.toNat]'(by omega)).toNat : Int) = Lib.onesCount i.toNat := by
  have h2 : i < 256 := by rw [Lib.pop8tab_size] at h1; exact h1
  have e := Lib.pop8_eq ⟨i.toNat, by omega⟩
  unfold Lib.pop8 at e
  simp only [Int.toNat_natCast] at e
  rw [← e, getElem?_pos Lib.pop8tab i.toNat (by omega)]
  rfl
theorem pop8_fn (i : Int) (h0 : 0 ≤ i) (h1 : i < (Lib.pop8tab.size : Int)) : Lib.pop8 i = Lib.onesCount i.toNat := by
  rw [← pop8_at i h0 h1]
  unfold Lib.pop8
  rw [getElem?_pos Lib.pop8tab i.toNat (by omega)]
  rfl
theorem u16_neg (s : Nat) (h0 : 0 < s) (h1 : s < 65536) : IntKind.u16.wrap (-(s : Int)) = ((65536 - s : Nat) : Int) := by
  simp [IntKind.wrap, IntKind.bits, IntKind.signed]; omega
theorem tab_at : ∀ i, i < 32 → Tag.tab.getD i 0 < 32 := by decide
/-- The table of math/bits. -/
def TabAt (w : World) : Prop := ∀ i, i < 32 → w.cell? ⟨0, i, none⟩ = some (.int .u8 (Tag.tab.getD i 0 : Nat))
theorem tz16 (s : Nat) (w : World) (h0 : 0 < s) (h1 : s < 65536) (hT : TabAt w) :
    Calls Tryz.prog 169 #[.int .u16 s] w fun e w' => e = .returned (.int .i64 (Tag.tz s)) ∧ w' = w := by
  have hn : (s : Int) ≠ 0 := by omega
  have hand := (bits_nat .u16 16 (by decide) wraps_u16 s (65536 - s) (by omega) (by omega)).1
  have hE : (bits .and .u16 (s : Int) (IntKind.u16.wrap (-(s : Int))) % 4294967296 * 125613361 % 4294967296 / 134217728) = ((((s &&& (65536 - s)) * 125613361) % 4294967296 / 134217728 : Nat) : Int) := by
    have hle : s &&& (65536 - s) < 65536 := Nat.and_lt_two_pow (n := 16) s (by omega)
    rw [u16_neg s h0 h1, hand]
    omega
  have hc : w.cell? ⟨0, (bits .and .u16 (s : Int) (IntKind.u16.wrap (-(s : Int))) % 4294967296 * 125613361 % 4294967296 / 134217728).toNat, none⟩ = some (.int .u8 (Tag.tz s : Nat)) := by
    rw [hE, Int.toNat_natCast]
    exact hT _ (by omega)
  have hz : (Tag.tz s : Int) < 32 := by
    have := tab_at (((s &&& (65536 - s)) * 125613361) % 4294967296 / 134217728) (by omega)
    unfold Tag.tz
    omega
  clear hE hand hT
  go_enter Tryz.func169, Tryz.ntmps169
  go_wp2_with fail
  go_ret
  exact ⟨rfl, rfl⟩
/-- The count of bits is the count of tags. -/
theorem ones8 : ∀ n : Fin 256, Lib.onesCount n.val = ((List.range 8).filter (fun t => n.val.testBit t)).length := by decide +kernel
theorem ones_tags (s : Nat) (h : s < 65536) : Lib.onesCount (s / 256) + Lib.onesCount (s % 256) = (Tag.tags s).length := by
  rw [ones8 ⟨s / 256, by omega⟩, ones8 ⟨s % 256, by omega⟩]
  have hs : ∀ i, s.testBit i = if i < 8 then (s % 256).testBit i else (s / 256).testBit (i - 8) := fun i => by
    have e : s = 2 ^ 8 * (s / 256) + s % 256 := by omega
    conv => lhs; rw [e]
    exact Nat.testBit_two_pow_mul_add _ (by omega) i
  unfold Tag.tags
  rw [show List.range 16 = List.range 8 ++ (List.range 8).map (· + 8) from by decide, List.filter_append, List.length_append, List.filter_map, List.length_map, Nat.add_comm]
  congr 2
  · refine List.filter_congr fun i hi => ?_
    rw [hs, if_pos (List.mem_range.1 hi)]
  · refine List.filter_congr fun i hi => ?_
    show _ = s.testBit (i + 8)
    rw [hs, if_neg (by omega), Nat.add_sub_cancel]
end Go.Proofs.YtlmacaenbililaaGreatDoor
