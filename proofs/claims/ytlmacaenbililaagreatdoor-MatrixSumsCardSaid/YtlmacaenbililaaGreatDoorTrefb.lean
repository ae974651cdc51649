/- The reference's Of, Sub, number (package forepeakref01), and the conditions' same: what they return. No conditions. -/
import Derived.Test.YtlmacaenbililaaGreatDoorTref
import Derived.Test.YtlmacaenbililaaGreatDoorTparse
namespace Go.Proofs.YtlmacaenbililaaGreatDoor
open Go.RowKit Go.Shelf
set_option linter.unusedSimpArgs false
set_option linter.unusedVariables false
attribute [local go_sem] Oper.semAt_some cell_over frozen_over

namespace Tag
theorem has_small {s t : Nat} (h : t < 16) : has s (t : Int) = s.testBit t := by
  unfold has; rw [Int.toNat_natCast]; simp; omega
/-- The halves that are looked through. -/
def subTo (a b k : Nat) : Bool := (List.range k).all fun t => !(a.testBit t && !b.testBit t)
theorem subTo_all (a b : Nat) : subTo a b 16 = sub a b := by
  unfold subTo sub
  rw [Bool.eq_iff_iff, List.all_eq_true, List.all_eq_true]
  constructor
  · intro h t ht
    obtain ⟨h1, h2⟩ := mem_tags.1 ht
    have := h t (List.mem_range.2 h1)
    rw [h2] at this
    simpa using this
  · intro h t ht
    cases ha : a.testBit t with
    | false => simp
    | true => simpa using h t (mem_tags.2 ⟨List.mem_range.1 ht, ha⟩)
theorem subTo_succ (a b k : Nat) : subTo a b (k + 1) = (subTo a b k && !(a.testBit k && !b.testBit k)) := by
  unfold subTo
  rw [List.range_succ, List.all_append]
  simp
theorem sub_stop {a b k : Nat} (hk : k < 16) (ha : a.testBit k = true) (hb : b.testBit k = false) : sub a b = false := by
  cases h : sub a b with
  | false => rfl
  | true =>
    have := List.all_eq_true.1 h k (mem_tags.2 ⟨hk, ha⟩)
    rw [hb] at this
    cases this
end Tag
theorem rsub_ok (a b : Nat) (ha : a < 65536) (hb : b < 65536) (w : World) : Calls Tryz.prog 119 #[.int .u16 (a : Int), .int .u16 (b : Int)] w fun e w' => e = .returned (.bool (Tag.sub a b)) ∧ w' = w := by
  go_enter Tryz.func119, Tryz.ntmps119
  go_wp2_with fail
  go_loopw [5] (fun i wr => ∃ (k : Nat), i = .int .i64 (k : Int) ∧ k ≤ 16 ∧ Hid (Tag.subTo a b k = true) ∧ wr = w) (fun i _ => 16 - (intOf i).toNat)
  case atStart => exact ⟨0, rfl, by omega, Lib.hid rfl, rfl⟩
  case round =>
    obtain ⟨k, rfl, hk, hf, rfl⟩ := hrel
    by_cases hk16 : k = 16
    · subst hk16
      go_wp2_with fail
      go_ret
      refine ⟨?_, rfl⟩
      rw [← Tag.subTo_all, hf.out]; rfl
    · have hkl : k < 16 := by omega
      have hki : (k : Int) < 16 := by omega
      have HA := Lib.hid (fun w => rhas_ok a ha (k : Int) w)
      have HB := Lib.hid (fun w => rhas_ok b hb (k : Int) w)
      rw [Tag.has_small hkl] at HA HB
      have HS := Lib.hid (Tag.subTo_succ a b k)
      have HT := Lib.hid (fun h1 h2 => Tag.sub_stop (a := a) (b := b) hkl h1 h2)
      rw [hf.out] at HS
      generalize a.testBit k = x at HA HS HT
      generalize b.testBit k = y at HB HS HT
      clear hk16
      cases x with
      | false =>
        go_wp2_with (go_at_call 100; refine (HA.out _).mono ?_; rintro e w1 ⟨rfl, hw1⟩; obtain rfl := hw1.symm)
        go_roundw
        case rel => exact ⟨k + 1, by go_num, by omega, Lib.hid HS.out, trivial⟩
        case measure => simp [intOf]; omega
      | true =>
        have HAB := Lib.hid (show ∀ w : World, True from fun _ => trivial)
        cases y with
        | true =>
          go_wp2_with (first | (go_at_call 100; have _h := HAB; refine (HA.out _).mono ?_; rintro e w1 ⟨rfl, hw1⟩; obtain rfl := hw1.symm; clear HAB) | (go_at_call 100; refine (HB.out _).mono ?_; rintro e w1 ⟨rfl, hw1⟩; obtain rfl := hw1.symm))
          go_roundw
          case rel => exact ⟨k + 1, by go_num, by omega, Lib.hid HS.out, trivial⟩
          case measure => simp [intOf]; omega
        | false =>
          go_wp2_with (first | (go_at_call 100; have _h := HAB; refine (HA.out _).mono ?_; rintro e w1 ⟨rfl, hw1⟩; obtain rfl := hw1.symm; clear HAB) | (go_at_call 100; refine (HB.out _).mono ?_; rintro e w1 ⟨rfl, hw1⟩; obtain rfl := hw1.symm))
          go_ret
          exact ⟨by rw [HT.out (by trivial) (by trivial)]; rfl, rfl⟩
theorem num_small : ∀ t : Fin 10, (⟨(Tag.dig t.1).toArray⟩ : ByteArray) = (⟨#[48, 49, 50, 51, 52, 53, 54, 55, 56, 57]⟩ : ByteArray).extract t.1 (t.1 + 1) := by decide
theorem number_small (t : Nat) (h : t < 10) (w : World) : Calls Tryz.prog 176 #[.int .i64 (t : Int)] w fun e w' => e = .returned (.string ⟨(Tag.dig t).toArray⟩) ∧ w' = w := by
  have hn : ¬ (9 : Int) < (t : Int) := by omega
  have h1 : (t : Int) ≤ (t : Int) + 1 := by omega
  have h2 : (t : Int) + 1 ≤ 10 := by omega
  have hd := num_small ⟨t, h⟩
  simp only at hd
  rw [hd]
  clear hd
  go_enter Tryz.func176, Tryz.ntmps176
  go_wp2_with fail
  go_ret
  exact ⟨rfl, rfl⟩
theorem num_big : ∀ t : Fin 16, 10 ≤ t.1 → (⟨#[49]⟩ : ByteArray) ++ (⟨(Tag.dig (t.1 - 10)).toArray⟩ : ByteArray) = ⟨(Tag.dig t.1).toArray⟩ := by decide
theorem number_ok (t : Nat) (h : t < 16) (w : World) : Calls Tryz.prog 176 #[.int .i64 (t : Int)] w fun e w' => e = .returned (.string ⟨(Tag.dig t).toArray⟩) ∧ w' = w := by
  by_cases h9 : t < 10
  · exact number_small t h9 w
  · have hn : (9 : Int) < (t : Int) := by omega
    have HS := Lib.hid (fun w => number_small (t - 10) (by omega) w)
    have hd := num_big ⟨t, h⟩ (by simp; omega)
    simp only at hd
    rw [← hd]
    obtain ⟨j, rfl⟩ : ∃ j, t = j + 10 := ⟨t - 10, by omega⟩
    rw [Nat.add_sub_cancel] at HS ⊢
    have he : (j : Int) + 10 - 10 = (j : Int) := by omega
    have hn9 : (9 : Int) < (j : Int) + 10 := by omega
    rw [show ((j + 10 : Nat) : Int) = (j : Int) + 10 by omega]
    have hj : j < 6 := by omega
    have hj2 : (j : Int) < 6 := by omega
    have hcc : ¬ 9223372036854775807 < 1 + (Tag.dig j).length := by have := (Tag.dig_len j).2; omega
    clear hd hn h h9
    go_enter Tryz.func176, Tryz.ntmps176
    go_wp2_with (go_at_call 176; refine (HS.out _).mono ?_; rintro e w1 ⟨rfl, hw1⟩; obtain rfl := hw1.symm)
    go_ret
    exact ⟨rfl, rfl⟩
theorem take_next {l m : List Int} {k : Nat} (h1 : k < l.length) (h2 : k < m.length) (e : l.take k = m.take k) (x : l[k] = m[k]) : l.take (k + 1) = m.take (k + 1) := by
  rw [List.take_succ_eq_append_getElem h1, List.take_succ_eq_append_getElem h2, e, x]
end Go.Proofs.YtlmacaenbililaaGreatDoor
