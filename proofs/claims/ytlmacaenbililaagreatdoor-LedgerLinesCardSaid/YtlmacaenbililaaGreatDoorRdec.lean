/- The document's numbers, digits and words of a line: what they return. No conditions. -/
import Derived.Test.YtlmacaenbililaaGreatDoorTrlawc
import Derived.Test.YtlmacaenbililaaGreatDoorTrhex
namespace Go.Proofs.YtlmacaenbililaaGreatDoor
open Go.RowKit Go.Shelf
set_option linter.unusedSimpArgs false
set_option linter.unusedVariables false
attribute [local go_sem] cell_over frozen_over

theorem digit_of : ∀ d : Fin 10, (⟨#[48, 49, 50, 51, 52, 53, 54, 55, 56, 57]⟩ : ByteArray).extract d.val (d.val + 1) = ⟨#[UInt8.ofNat (48 + d.val)]⟩ := by decide
theorem slice_digit (u : Nat) (W : World) : (Instr.slice 9 (.string ⟨#[48, 49, 50, 51, 52, 53, 54, 55, 56, 57]⟩) (some (.int .i64 ((u % 10 : Nat) : Int))) (some (.int .i64 (((u % 10 : Nat) : Int) + 1))) none).run Tryz.prog W = .ok (.string ⟨#[UInt8.ofNat (48 + u % 10)]⟩) W := by
  have h : u % 10 < 10 := Nat.mod_lt _ (by omega)
  rw [run_slice_string W 9 _ .i64 .i64 ((u % 10 : Nat) : Int) (((u % 10 : Nat) : Int) + 1) Tryz.underlying9 (by omega) (by omega) (by show (((u % 10 : Nat) : Int) + 1) ≤ 10; omega)]
  have := digit_of ⟨u % 10, h⟩
  rw [Int.toNat_natCast, show (((u % 10 : Nat) : Int) + 1).toNat = u % 10 + 1 by omega, this]
set_option maxRecDepth 100000 in
theorem rdec_ok : ∀ (n u : Nat), u < 10 ^ (n + 1) → u ≤ 9223372036854775807 → n ≤ 18 → ∀ w : World, Calls Tryz.prog 85 #[.int .i64 (u : Int)] w fun e w' => e = .returned (.string ⟨(Lib.decDigits u).toArray⟩) ∧ w' = w := by
  intro n
  induction n with
  | zero =>
    intro u hu hb hn w
    have h10 : u < 10 := by simpa using hu
    have hi : (u : Int) < 10 := by omega
    have hm : u % 10 = u := Nat.mod_eq_of_lt h10
    have hs := slice_digit u
    rw [hm] at hs
    have ht : (u : Int).tmod 10 = (u : Int) := by rw [Int.tmod_eq_emod_of_nonneg (by omega)]; omega
    rw [Lib.decDigits_one h10]
    generalize UInt8.ofNat (48 + u) = c at hs ⊢
    clear hu hm
    go_enter Tryz.func85, Tryz.ntmps85
    go_wp2_with fail
    go_ret
    exact ⟨rfl, rfl⟩
  | succ n ih =>
    intro u hu hb hn w
    by_cases h10 : u < 10
    · exact ih u (Nat.lt_of_lt_of_le h10 (Nat.le_self_pow (by omega) 10)) hb (by omega) w
    · have hi : ¬ (u : Int) < 10 := by omega
      have hs := slice_digit u
      have ht : (u : Int).tmod 10 = ((u % 10 : Nat) : Int) := by rw [Int.tmod_eq_emod_of_nonneg (by omega)]; omega
      have hq : (u : Int).tdiv 10 = ((u / 10 : Nat) : Int) := by rw [Int.tdiv_eq_ediv_of_nonneg (by omega)]; omega
      have HI := Lib.hid (fun w => ih (u / 10) (by rw [Nat.pow_succ] at hu; omega) (by omega) (by omega) w)
      have hd : (⟨(Lib.decDigits (u / 10)).toArray⟩ : ByteArray) ++ ⟨#[UInt8.ofNat (48 + u % 10)]⟩ = ⟨(Lib.decDigits u).toArray⟩ := by
        rw [Lib.decDigits.eq_1 u, dif_neg h10]
        exact Tag.bytes_ext (by simp)
      have hl : (⟨(Lib.decDigits (u / 10)).toArray⟩ : ByteArray).size ≤ 19 := by
        have h1 : Lib.nDigits (u / 10) ≤ 19 := Nat.le_of_lt_succ (by
          have key : ∀ k v : Nat, v < 10 ^ (k + 1) → Lib.nDigits v ≤ k + 1 := by
            intro k
            induction k with
            | zero => intro v hv; rw [Lib.nDigits_small (by simpa using hv)]; exact Nat.le_refl _
            | succ k ih =>
              intro v hv
              by_cases h1 : v < 10
              · rw [Lib.nDigits_small h1]; omega
              · rw [Lib.nDigits_big h1]
                have := ih (v / 10) (by rw [Nat.pow_succ] at hv; omega)
                omega
          exact Nat.lt_succ_of_le (key 18 (u / 10) (Nat.lt_of_le_of_lt (show u / 10 ≤ 9223372036854775807 by omega) (by decide))))
        show (Lib.decDigits (u / 10)).toArray.size ≤ 19
        rw [List.size_toArray, Lib.decDigits_length]; exact h1
      have hr : u % 10 < 10 := Nat.mod_lt _ (by omega)
      rw [← hd]
      generalize UInt8.ofNat (48 + u % 10) = c at hs ⊢
      generalize (⟨(Lib.decDigits (u / 10)).toArray⟩ : ByteArray) = D at HI hl ⊢
      generalize u % 10 = r at hs ht hr ⊢
      have hq2 : u / 10 ≤ 922337203685477580 := by omega
      generalize u / 10 = q at HI hq hq2
      have hq3 : wrap64 (q : Int) = (q : Int) := by unfold wrap64; omega
      clear hu ih hd
      go_enter Tryz.func85, Tryz.ntmps85
      go_wp2_with (go_at_call 85; refine (HI.out _).mono ?_; rintro e w1 ⟨rfl, hw1⟩; obtain rfl := hw1.symm)
      go_ret
      exact ⟨rfl, rfl⟩
end Go.Proofs.YtlmacaenbililaaGreatDoor
