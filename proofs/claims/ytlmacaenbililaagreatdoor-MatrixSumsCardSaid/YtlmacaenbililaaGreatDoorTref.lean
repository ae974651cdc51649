/- The reference's functions on sets (package forepeakref01): what they return. No conditions. -/
import Derived.Test.YtlmacaenbililaaGreatDoorTfun
import Derived.Test.YtlmacaenbililaaGreatDoorTlawb
import Derived.Lib.QuoteBits
namespace Go.Proofs.YtlmacaenbililaaGreatDoor
open Go.RowKit Go.Shelf
set_option linter.unusedSimpArgs false
set_option linter.unusedVariables false
attribute [local go_sem] Oper.semAt_some

namespace Tag
theorem half_bit (s k : Nat) : ((s / 2 ^ k) % 2 = 1) ↔ s.testBit k = true := by
  rw [Nat.testBit_eq_decide_div_mod_eq]; simp
theorem or_add {s j : Nat} (hs : s < 65536) (hj : j < 16) (hb : s.testBit j = false) : s ||| 2 ^ j = s + 2 ^ j := by
  have hp : 2 ^ j < 65536 := Nat.pow_lt_pow_right (n := 16) (a := 2) (by omega) hj
  have hz : BitVec.ofNat 18 s &&& BitVec.ofNat 18 (2 ^ j) = 0#18 := by
    apply BitVec.eq_of_toNat_eq
    rw [BitVec.toNat_and, BitVec.toNat_ofNat, BitVec.toNat_ofNat, Nat.mod_eq_of_lt (by omega), Nat.mod_eq_of_lt (by omega)]
    apply Nat.eq_of_testBit_eq
    intro i
    rw [Nat.testBit_and, Nat.testBit_two_pow]
    by_cases e : j = i
    · subst e; simp [hb]
    · simp [e]
  have h := congrArg BitVec.toNat (BitVec.add_eq_or_of_and_eq_zero _ _ hz)
  rw [BitVec.toNat_add, BitVec.toNat_or, BitVec.toNat_ofNat, BitVec.toNat_ofNat, Nat.mod_eq_of_lt (show s < 2 ^ 18 by omega), Nat.mod_eq_of_lt (show 2 ^ j < 2 ^ 18 by omega), Nat.mod_eq_of_lt (by omega)] at h
  exact h.symm
end Tag
theorem rhas_ok (s : Nat) (hs : s < 65536) (t : Int) (w : World) : Calls Tryz.prog 100 #[.int .u16 (s : Int), .int .i64 t] w fun e w' => e = .returned (.bool (Tag.has s t)) ∧ w' = w := by
  by_cases hin : 0 ≤ t ∧ t < 16
  · obtain ⟨h0, h1⟩ := hin
    obtain ⟨j, rfl⟩ : ∃ j : Nat, t = j := ⟨t.toNat, by omega⟩
    have hj : j < 16 := by omega
    have hn1 : ¬ (j : Int) < 0 := by omega
    have hn2 : ¬ (j : Int) > 15 := by omega
    have hn3 : ¬ (15 : Int) < (j : Int) := by omega
    go_enter Tryz.func100, Tryz.ntmps100
    go_wp2_with fail
    go_loopw [0, 5] (fun x i wr => ∃ (k : Nat), i = .int .i64 (k : Int) ∧ x = .int .u16 ((s / 2 ^ k : Nat) : Int) ∧ k ≤ j ∧ wr = w) (fun x i _ => j - (intOf i).toNat)
    case atStart => exact ⟨0, rfl, by simp, by omega, rfl⟩
    case round =>
      obtain ⟨k, rfl, rfl, hk, rfl⟩ := hrel
      obtain ⟨v, hv⟩ : ∃ v, v = s / 2 ^ k := ⟨_, rfl⟩
      have hv2 : v / 2 = s / 2 ^ (k + 1) := by rw [hv, Nat.div_div_eq_div_mul, Nat.pow_succ]
      have hv3 : v < 65536 := by rw [hv]; exact Nat.lt_of_le_of_lt (Nat.div_le_self _ _) hs
      rw [← hv]
      by_cases hkj : k = j
      · subst hkj
        have hb : (v % 2 = 1) ↔ s.testBit k = true := by rw [hv]; exact Tag.half_bit s k
        have hh : Tag.has s (k : Int) = decide (v % 2 = 1) := by
          unfold Tag.has
          rw [Int.toNat_natCast]
          by_cases hx : v % 2 = 1
          · simp [hx, hb.1 hx]; omega
          · have : s.testBit k = false := by
              cases h : s.testBit k with
              | false => rfl
              | true => exact absurd (hb.2 h) hx
            simp [hx, this]
        have HH := Lib.hid hh
        clear hv hv2 hb hh
        have hlt : ¬ (k : Int) < (k : Int) := by omega
        by_cases hx : v % 2 = 1
        · have hxi : (v : Int) % 2 = 1 := by omega
          go_wp2_with fail
          go_ret
          refine ⟨?_, rfl⟩
          rw [HH.out]
          simp [hx]
        · have hxi : (v : Int) % 2 = 0 := by omega
          go_wp2_with fail
          go_ret
          refine ⟨?_, rfl⟩
          rw [HH.out]
          simp [hx]
      · have hlt : (k : Int) < (j : Int) := by omega
        have HV := Lib.hid hv2
        clear hv hv2
        go_wp2_with fail
        go_roundw
        case rel => exact ⟨k + 1, by go_num, by rw [← HV.out]; simp, by omega, trivial⟩
        case measure => simp [intOf]; omega
  · have hno : Tag.has s t = false := by unfold Tag.has; rw [decide_eq_false hin]; rfl
    rw [hno]
    by_cases h0 : t < 0
    · go_enter Tryz.func100, Tryz.ntmps100
      go_wp2_with fail
      go_ret
      exact ⟨rfl, rfl⟩
    · have h1 : 15 < t := by omega
      go_enter Tryz.func100, Tryz.ntmps100
      go_wp2_with fail
      go_ret
      exact ⟨rfl, rfl⟩
theorem rwith_ok (s : Nat) (hs : s < 65536) (t : Int) (w : World) : Calls Tryz.prog 103 #[.int .u16 (s : Int), .int .i64 t] w fun e w' => e = .returned (.int .u16 (Tag.add s t : Int)) ∧ w' = w := by
  have HP := Lib.hid (fun w => rhas_ok s hs t w)
  by_cases hin : 0 ≤ t ∧ t < 16
  · obtain ⟨h0, h1⟩ := hin
    obtain ⟨j, rfl⟩ : ∃ j : Nat, t = j := ⟨t.toNat, by omega⟩
    have hj : j < 16 := by omega
    have hn1 : ¬ (j : Int) < 0 := by omega
    have hn2 : ¬ (15 : Int) < (j : Int) := by omega
    have hhas : Tag.has s (j : Int) = s.testBit j := by unfold Tag.has; rw [Int.toNat_natCast]; simp; omega
    rw [hhas] at HP
    have hadd : Tag.add s (j : Int) = s ||| 2 ^ j := by unfold Tag.add; rw [if_pos ⟨h0, h1⟩, Int.toNat_natCast]
    cases hb : s.testBit j with
    | true =>
      rw [hb] at HP
      have he : Tag.add s (j : Int) = s := by
        rw [hadd]
        apply Nat.eq_of_testBit_eq
        intro i
        rw [Tag.bit_add hj]
        by_cases e : j = i
        · subst e; rw [hb]; rfl
        · simp [e]
      rw [he]
      clear he hadd hb hhas
      go_enter Tryz.func103, Tryz.ntmps103
      go_wp2_with (go_at_call 100; refine (HP.out _).mono ?_; rintro e w1 ⟨rfl, hw1⟩; obtain rfl := hw1.symm)
      go_ret
      exact ⟨rfl, rfl⟩
    | false =>
      rw [hb] at HP
      have he : s ||| 2 ^ j = s + 2 ^ j := by
        exact Tag.or_add hs hj hb
      have hlt : s + 2 ^ j < 65536 := by rw [← he, ← hadd]; exact Tag.add_lt hs _
      rw [hadd, he]
      clear he hadd hb hhas
      go_enter Tryz.func103, Tryz.ntmps103
      go_wp2_with (go_at_call 100; refine (HP.out _).mono ?_; rintro e w1 ⟨rfl, hw1⟩; obtain rfl := hw1.symm)
      go_loopw [5, 6] (fun x i wr => ∃ (k : Nat), i = .int .i64 (k : Int) ∧ x = .int .u16 ((2 ^ k : Nat) : Int) ∧ k ≤ j ∧ wr = w) (fun x i _ => j - (intOf i).toNat)
      case atStart => exact ⟨0, rfl, rfl, by omega, rfl⟩
      case round =>
        obtain ⟨k, rfl, rfl, hk, rfl⟩ := hrel
        by_cases hkj : k = j
        · subst hkj
          have hlk : ¬ (k : Int) < (k : Int) := by omega
          have hw2 : IntKind.u16.wrap ((s : Int) + ((2 ^ k : Nat) : Int)) = ((s + 2 ^ k : Nat) : Int) := by
            rw [← Int.natCast_add]; exact wraps_u16 _ (Int.natCast_nonneg _) (Int.ofNat_lt.2 hlt)
          obtain ⟨p, hp⟩ : ∃ p, p = 2 ^ k := ⟨_, rfl⟩
          have e : ((s : Int) + (p : Int)) = ((s + 2 ^ k : Nat) : Int) := by rw [hp]; simp
          rw [← hp] at hw2 ⊢
          have hw3 : IntKind.u16.wrap ((s : Int) + (p : Int)) = (s : Int) + (p : Int) := by rw [hw2]; simp
          have HE := Lib.hid e
          clear hp e hw2
          go_wp2_with fail
          go_ret
          exact ⟨congrArg (fun x => Ending.returned (.int .u16 x)) HE.out, rfl⟩
        · have hlk : (k : Int) < (j : Int) := by omega
          have hp2 : 2 ^ (k + 1) ≤ 2 ^ 15 := Nat.pow_le_pow_right (by omega) (by omega)
          obtain ⟨v, hv⟩ : ∃ v, v = 2 ^ k := ⟨_, rfl⟩
          have hv2 : 2 ^ (k + 1) = v * 2 := by rw [Nat.pow_succ, hv]
          have hv3 : v * 2 < 65536 := by omega
          rw [← hv]
          have HV := Lib.hid hv2
          have hw2 : IntKind.u16.wrap ((v : Int) * 2) = ((v * 2 : Nat) : Int) := by
            rw [show (v : Int) * 2 = ((v * 2 : Nat) : Int) by simp]; exact wraps_u16 _ (Int.natCast_nonneg _) (Int.ofNat_lt.2 hv3)
          clear hv hv2 hp2
          go_wp2_with fail
          go_roundw
          case rel => exact ⟨k + 1, by go_num, by rw [HV.out]; simp, by omega, trivial⟩
          case measure => simp [intOf]; omega
  · have hno : Tag.add s t = s := by unfold Tag.add; rw [if_neg hin]
    rw [hno]
    by_cases h0 : t < 0
    · go_enter Tryz.func103, Tryz.ntmps103
      go_wp2_with fail
      go_ret
      exact ⟨rfl, rfl⟩
    · have h1 : 15 < t := by omega
      go_enter Tryz.func103, Tryz.ntmps103
      go_wp2_with fail
      go_ret
      exact ⟨rfl, rfl⟩
end Go.Proofs.YtlmacaenbililaaGreatDoor
