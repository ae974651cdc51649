/- The reference's labels (packages forepeakref01, forepeakref02): Or, Less, And, Flows, Cmp, Tags, Text: what they return. No conditions. -/
import Derived.Test.YtlmacaenbililaaGreatDoorLabc
namespace Go.Proofs.YtlmacaenbililaaGreatDoor
open Go.RowKit Go.Shelf
set_option linter.unusedSimpArgs false
set_option linter.unusedVariables false
attribute [local go_sem] cell_over frozen_over

namespace Tag
def orTo (a b : Nat) : Nat → Nat
  | 0 => a
  | k + 1 => if b.testBit k then orTo a b k ||| 2 ^ k else orTo a b k
def lessTo (a b : Nat) : Nat → Nat
  | 0 => 0
  | k + 1 => if a.testBit k && !b.testBit k then lessTo a b k ||| 2 ^ k else lessTo a b k
def less (a b : Nat) : Nat := lessTo a b 16
theorem orTo_bit (a b i : Nat) : ∀ k, k ≤ 16 → (orTo a b k).testBit i = (a.testBit i || (decide (i < k) && b.testBit i))
  | 0, _ => by simp [orTo]
  | k + 1, h => by
    unfold orTo
    have ih := orTo_bit a b i k (by omega)
    by_cases hb : b.testBit k = true
    · rw [if_pos hb, bit_add (by omega), ih]
      by_cases hik : k = i
      · subst hik; simp [hb]
      · have : decide (i < k + 1) = decide (i < k) := by simp; omega
        rw [this]; simp [hik]
    · rw [if_neg hb, ih]
      by_cases hik : k = i
      · subst hik; simp [hb]
      · have : decide (i < k + 1) = decide (i < k) := by simp; omega
        rw [this]
theorem lessTo_bit (a b i : Nat) : ∀ k, k ≤ 16 → (lessTo a b k).testBit i = (decide (i < k) && (a.testBit i && !b.testBit i))
  | 0, _ => by simp [lessTo]
  | k + 1, h => by
    unfold lessTo
    have ih := lessTo_bit a b i k (by omega)
    by_cases hb : (a.testBit k && !b.testBit k) = true
    · rw [if_pos hb, bit_add (by omega), ih]
      by_cases hik : k = i
      · subst hik; simp [hb]
      · have : decide (i < k + 1) = decide (i < k) := by simp; omega
        rw [this]; simp [hik]
    · rw [if_neg hb, ih]
      by_cases hik : k = i
      · subst hik; simp only [Bool.not_eq_true] at hb; rw [hb]; simp
      · have : decide (i < k + 1) = decide (i < k) := by simp; omega
        rw [this]
theorem orTo_lt {a b : Nat} (ha : a < 65536) : ∀ k, k ≤ 16 → orTo a b k < 65536
  | 0, _ => ha
  | k + 1, h => by
    unfold orTo
    split
    · exact Nat.or_lt_two_pow (n := 16) (orTo_lt ha k (by omega)) (Nat.pow_lt_pow_right (by omega) (by omega))
    · exact orTo_lt ha k (by omega)
theorem lessTo_lt {a b : Nat} : ∀ k, k ≤ 16 → lessTo a b k < 65536
  | 0, _ => by unfold lessTo; omega
  | k + 1, h => by
    unfold lessTo
    split
    · exact Nat.or_lt_two_pow (n := 16) (lessTo_lt k (by omega)) (Nat.pow_lt_pow_right (by omega) (by omega))
    · exact lessTo_lt k (by omega)
theorem less_lt (a b : Nat) : less a b < 65536 := lessTo_lt 16 (by omega)
theorem orTo_all {a b : Nat} (ha : a < 65536) (hb : b < 65536) : orTo a b 16 = a ||| b :=
  ext (orTo_lt ha 16 (by omega)) (Nat.or_lt_two_pow (n := 16) ha hb) fun i hi => by rw [orTo_bit a b i 16 (by omega)]; simp [hi]
theorem less_less {a b : Nat} (ha : a < 65536) (hb : b < 65536) : less a (less a b) = a &&& b :=
  ext (less_lt _ _) (Nat.lt_of_le_of_lt Nat.and_le_left ha) fun i hi => by
    unfold less
    rw [lessTo_bit _ _ i 16 (by omega), lessTo_bit _ _ i 16 (by omega)]
    simp [hi]
    cases a.testBit i <;> simp
end Tag
theorem hasb_ok (s : Nat) (hs : s < 65536) (k : Nat) (hk : k < 16) (w : World) : Calls Tryz.prog 100 #[.int .u16 (s : Int), .int .i64 (k : Int)] w fun e w' => e = .returned (.bool (s.testBit k)) ∧ w' = w := by
  have h := rhas_ok s hs (k : Int) w
  rw [Tag.has_small hk] at h
  exact h
theorem withb_ok (s : Nat) (hs : s < 65536) (k : Nat) (hk : k < 16) (w : World) : Calls Tryz.prog 103 #[.int .u16 (s : Int), .int .i64 (k : Int)] w fun e w' => e = .returned (.int .u16 ((s ||| 2 ^ k : Nat) : Int)) ∧ w' = w := by
  have h := rwith_ok s hs (k : Int) w
  rw [Tag.add_nat hk] at h
  exact h
theorem ror_ok (a b : Nat) (ha : a < 65536) (hb : b < 65536) (w : World) : Calls Tryz.prog 220 #[.int .u16 (a : Int), .int .u16 (b : Int)] w fun e w' => e = .returned (.int .u16 ((a ||| b : Nat) : Int)) ∧ w' = w := by
  go_enter Tryz.func220, Tryz.ntmps220
  go_wp2_with fail
  go_loopw [0, 5] (fun v i wr => ∃ (k v' : Nat), i = .int .i64 (k : Int) ∧ v = .int .u16 (v' : Int) ∧ k ≤ 16 ∧ v' < 65536 ∧ Hid (v' = Tag.orTo a b k) ∧ wr = w) (fun _ i _ => 16 - (intOf i).toNat)
  case atStart => exact ⟨0, a, rfl, rfl, by omega, ha, Lib.hid rfl, rfl⟩
  case round =>
    obtain ⟨k, v', rfl, rfl, hk, hv, hf, rfl⟩ := hrel
    by_cases hk16 : k = 16
    · subst hk16
      go_wp2_with fail
      go_ret
      refine ⟨?_, rfl⟩
      rw [← Tag.orTo_all ha hb, ← hf.out]; rfl
    · have hkl : k < 16 := by omega
      have hki : (k : Int) < 16 := by omega
      have HH := Lib.hid (fun w => hasb_ok b hb k hkl w)
      have HW := Lib.hid (fun w => withb_ok v' hv k hkl w)
      have hn : Tag.orTo a b (k + 1) = if b.testBit k then v' ||| 2 ^ k else v' := by rw [hf.out]; rfl
      have hl := Tag.orTo_lt (b := b) ha (k + 1) (by omega)
      generalize b.testBit k = x at HH hn
      clear hk16
      cases x with
      | false =>
        have HN : Hid (Tag.orTo a b (k + 1) = v') := Lib.hid hn
        clear hn hl
        go_wp2_with (go_at_call 100; refine (HH.out _).mono ?_; rintro e w1 ⟨rfl, hw1⟩; obtain rfl := hw1.symm)
        go_roundw
        case rel => exact ⟨k + 1, v', by go_num, rfl, by omega, hv, Lib.hid HN.out.symm, trivial⟩
        case measure => simp [intOf]; omega
      | true =>
        have HN : Hid (Tag.orTo a b (k + 1) = v' ||| 2 ^ k) := Lib.hid hn
        have HL := Lib.hid hl
        clear hn hl
        go_wp2_with (first | (go_at_call 100; refine (HH.out _).mono ?_; rintro e w1 ⟨rfl, hw1⟩; obtain rfl := hw1.symm) | (go_at_call 103; refine (HW.out _).mono ?_; rintro e w1 ⟨rfl, hw1⟩; obtain rfl := hw1.symm))
        go_roundw
        case rel => exact ⟨k + 1, _, by go_num, rfl, by omega, by rw [← HN.out]; exact HL.out, Lib.hid HN.out.symm, trivial⟩
        case measure => simp [intOf]; omega
theorem rless_ok (a b : Nat) (ha : a < 65536) (hb : b < 65536) (w : World) : Calls Tryz.prog 102 #[.int .u16 (a : Int), .int .u16 (b : Int)] w fun e w' => e = .returned (.int .u16 ((Tag.less a b : Nat) : Int)) ∧ w' = w := by
  go_enter Tryz.func102, Tryz.ntmps102
  go_wp2_with fail
  go_loopw [5, 6] (fun v i wr => ∃ (k v' : Nat), i = .int .i64 (k : Int) ∧ v = .int .u16 (v' : Int) ∧ k ≤ 16 ∧ v' < 65536 ∧ Hid (v' = Tag.lessTo a b k) ∧ wr = w) (fun _ i _ => 16 - (intOf i).toNat)
  case atStart => exact ⟨0, 0, rfl, rfl, by omega, by omega, Lib.hid rfl, rfl⟩
  case round =>
    obtain ⟨k, v', rfl, rfl, hk, hv, hf, rfl⟩ := hrel
    by_cases hk16 : k = 16
    · subst hk16
      go_wp2_with fail
      go_ret
      refine ⟨?_, rfl⟩
      rw [show Tag.less a b = v' from hf.out.symm]; rfl
    · have hkl : k < 16 := by omega
      have hki : (k : Int) < 16 := by omega
      have HA := Lib.hid (fun w => hasb_ok a ha k hkl w)
      have HB := Lib.hid (fun w => hasb_ok b hb k hkl w)
      have HW := Lib.hid (fun w => withb_ok v' hv k hkl w)
      have hn : Tag.lessTo a b (k + 1) = if a.testBit k && !b.testBit k then v' ||| 2 ^ k else v' := by rw [hf.out]; rfl
      have HL := Lib.hid (Tag.lessTo_lt (a := a) (b := b) (k + 1) (by omega))
      generalize a.testBit k = x at HA hn
      generalize b.testBit k = y at HB hn
      clear hk16
      cases x with
      | false =>
        have HN : Hid (Tag.lessTo a b (k + 1) = v') := Lib.hid hn
        clear hn
        go_wp2_with (go_at_call 100; refine (HA.out _).mono ?_; rintro e w1 ⟨rfl, hw1⟩; obtain rfl := hw1.symm)
        go_roundw
        case rel => exact ⟨k + 1, v', by go_num, rfl, by omega, hv, Lib.hid HN.out.symm, trivial⟩
        case measure => simp [intOf]; omega
      | true =>
        have HAB := Lib.hid (show ∀ w : World, True from fun _ => trivial)
        cases y with
        | true =>
          have HN : Hid (Tag.lessTo a b (k + 1) = v') := Lib.hid hn
          clear hn
          go_wp2_with (first | (go_at_call 100; have _h := HAB; refine (HA.out _).mono ?_; rintro e w1 ⟨rfl, hw1⟩; obtain rfl := hw1.symm; clear HAB) | (go_at_call 100; refine (HB.out _).mono ?_; rintro e w1 ⟨rfl, hw1⟩; obtain rfl := hw1.symm))
          go_roundw
          case rel => exact ⟨k + 1, v', by go_num, rfl, by omega, hv, Lib.hid HN.out.symm, trivial⟩
          case measure => simp [intOf]; omega
        | false =>
          have HN : Hid (Tag.lessTo a b (k + 1) = v' ||| 2 ^ k) := Lib.hid hn
          clear hn
          go_wp2_with (first | (go_at_call 103; refine (HW.out _).mono ?_; rintro e w1 ⟨rfl, hw1⟩; obtain rfl := hw1.symm) | (go_at_call 100; have _h := HAB; refine (HA.out _).mono ?_; rintro e w1 ⟨rfl, hw1⟩; obtain rfl := hw1.symm; clear HAB) | (go_at_call 100; refine (HB.out _).mono ?_; rintro e w1 ⟨rfl, hw1⟩; obtain rfl := hw1.symm))
          go_roundw
          case rel => exact ⟨k + 1, _, by go_num, rfl, by omega, by rw [← HN.out]; exact HL.out, Lib.hid HN.out.symm, trivial⟩
          case measure => simp [intOf]; omega
theorem rand_ok (a b : Nat) (ha : a < 65536) (hb : b < 65536) (w : World) : Calls Tryz.prog 101 #[.int .u16 (a : Int), .int .u16 (b : Int)] w fun e w' => e = .returned (.int .u16 ((a &&& b : Nat) : Int)) ∧ w' = w := by
  have H1 := Lib.hid (fun w => rless_ok a b ha hb w)
  have hl := Tag.less_lt a b
  have H2 := Lib.hid (fun w => rless_ok a (Tag.less a b) ha hl w)
  rw [Tag.less_less ha hb] at H2
  have HAB := Lib.hid (show ∀ w : World, True from fun _ => trivial)
  generalize Tag.less a b = y at H1 H2
  go_enter Tryz.func101, Tryz.ntmps101
  go_wp2_with (first | (go_at_call 102; have _h := HAB; refine (H1.out _).mono ?_; rintro e w1 ⟨rfl, hw1⟩; obtain rfl := hw1.symm; clear HAB) | (go_at_call 102; refine (H2.out _).mono ?_; rintro e w1 ⟨rfl, hw1⟩; obtain rfl := hw1.symm))
  go_ret
  exact ⟨rfl, rfl⟩
theorem rtags_ok (a : Lab.L) (ha : Lab.ok a) (w : World) : Calls Tryz.prog 184 #[labV a] w fun e w' => e = .returned (.int .u16 ((a.1 ||| a.2 : Nat) : Int)) ∧ Below w.heap.size w w' := by
  have H1 := Lib.hid (fun w => ror_ok a.1 a.2 ha.1 ha.2 w)
  go_enter Tryz.func184, Tryz.ntmps184
  go_wp2_with (go_at_call 220; refine (H1.out _).mono ?_; rintro e w1 ⟨rfl, hw1⟩; obtain rfl := hw1.symm)
  go_ret
  exact ⟨rfl, below_new (Below.refl _ _) _⟩
theorem rbottom_ok (w : World) : Calls Tryz.prog 74 #[] w fun e w' => e = .returned (labV Lab.bot) ∧ Below w.heap.size w w' := by
  go_enter Tryz.func74, Tryz.ntmps74
  go_wp2_with fail
  exact bodyPost_ret (v := labV Lab.bot) (by simp [results, Tryz.results74, go_sem]; exact ⟨rfl, rfl⟩) rfl ⟨rfl, below_new (Below.refl _ _) _⟩
theorem rcmp_ok (a b : Lab.L) (ha : Lab.ok a) (hb : Lab.ok b) (w : World) : Calls Tryz.prog 99 #[labV a, labV b] w fun e w' => e = .returned (.int .i64 (Lab.cmp a b)) ∧ Below w.heap.size w w' := by
  have HC : Hid (Lab.cmp a b = if 65536 * a.1 + a.2 < 65536 * b.1 + b.2 then -1 else if 65536 * b.1 + b.2 < 65536 * a.1 + a.2 then 1 else 0) := Lib.hid rfl
  obtain ⟨a1, a2⟩ := a
  obtain ⟨b1, b2⟩ := b
  obtain ⟨h1, h2⟩ := ha
  obtain ⟨h3, h4⟩ := hb
  simp only at h1 h2 h3 h4 HC
  by_cases c1 : 65536 * a1 + a2 < 65536 * b1 + b2
  · have c1i : 65536 * (a1 : Int) + (a2 : Int) < 65536 * (b1 : Int) + (b2 : Int) := by omega
    have HV : Hid (Lab.cmp (a1, a2) (b1, b2) = -1) := Lib.hid (by rw [HC.out, if_pos c1])
    clear HC
    go_enter Tryz.func99, Tryz.ntmps99
    go_wp2_with fail
    go_ret
    exact ⟨by rw [HV.out]; rfl, below_new (below_new (Below.refl _ _) _) _⟩
  · by_cases c2 : 65536 * b1 + b2 < 65536 * a1 + a2
    · have c1i : ¬ 65536 * (a1 : Int) + (a2 : Int) < 65536 * (b1 : Int) + (b2 : Int) := by omega
      have c2i : 65536 * (b1 : Int) + (b2 : Int) < 65536 * (a1 : Int) + (a2 : Int) := by omega
      have HV : Hid (Lab.cmp (a1, a2) (b1, b2) = 1) := Lib.hid (by rw [HC.out, if_neg c1, if_pos c2])
      clear HC
      go_enter Tryz.func99, Tryz.ntmps99
      go_wp2_with fail
      go_ret
      exact ⟨by rw [HV.out]; rfl, below_new (below_new (Below.refl _ _) _) _⟩
    · have c1i : ¬ 65536 * (a1 : Int) + (a2 : Int) < 65536 * (b1 : Int) + (b2 : Int) := by omega
      have c2i : ¬ 65536 * (b1 : Int) + (b2 : Int) < 65536 * (a1 : Int) + (a2 : Int) := by omega
      have HV : Hid (Lab.cmp (a1, a2) (b1, b2) = 0) := Lib.hid (by rw [HC.out, if_neg c1, if_neg c2])
      clear HC
      go_enter Tryz.func99, Tryz.ntmps99
      go_wp2_with fail
      go_ret
      exact ⟨by rw [HV.out]; rfl, below_new (below_new (Below.refl _ _) _) _⟩
set_option maxRecDepth 100000 in
set_option maxHeartbeats 1000000 in
theorem rltext_ok (a : Lab.L) (ha : Lab.ok a) (w : World) : Calls Tryz.prog 84 #[labV a] w fun e w' => e = .returned (.string ⟨(Lab.text a).toArray⟩) ∧ Below w.heap.size w w' := by
  have HX := Lib.hid (fun w => rtext_ok a.1 ha.1 w)
  have HY := Lib.hid (fun w => rtext_ok a.2 ha.2 w)
  have HS := Lib.hid (lab_bytes a)
  have h1 := text_size a.1
  have h2 := text_size a.2
  generalize (⟨(Tag.text a.1).toArray⟩ : ByteArray) = x at HX HS h1
  generalize (⟨(Tag.text a.2).toArray⟩ : ByteArray) = y at HY HS h2
  have hc1 : ¬ 9223372036854775807 < x.size + 1 := by omega
  have hc2 : ¬ 9223372036854775807 < x.size + 1 + y.size := by omega
  go_enter Tryz.func84, Tryz.ntmps84
  go_wp2_with fail
  refine wp_region_over (by kernel_rfl) (by kernel_rfl) ?_
  repeat (go_big_quiet_step (first
    | ((go_at_call 127; with_reducible exact Calls.over_of (HX.out _)))
    | ((go_at_call 127; with_reducible exact Calls.over_of (HY.out _)))))
  refine wpQuiet_nil ?_
  intro W7 hW7
  have hb7 := below_of_over hW7
  clear hW7
  go_wp2_with fail
  go_ret
  exact ⟨by rw [HS.out]; rfl, below_here (below_new (Below.refl _ _) _) hb7⟩
end Go.Proofs.YtlmacaenbililaaGreatDoor
