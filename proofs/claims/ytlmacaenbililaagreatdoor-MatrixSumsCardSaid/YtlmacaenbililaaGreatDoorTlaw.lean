/- Sets of tags, in plain words: the tags of a number below 65536, its least one, what is left without it. No program, no conditions. -/
import Derived.Test.YtlmacaenbililaaGreatDoorBase
namespace Go.Proofs.YtlmacaenbililaaGreatDoor.Tag
set_option linter.unusedSimpArgs false
set_option linter.unusedVariables false

def tags (s : Nat) : List Nat := (List.range 16).filter (fun t => s.testBit t)
def tab : List Nat := [0, 1, 28, 2, 29, 14, 24, 3, 30, 22, 20, 15, 25, 17, 4, 8, 31, 27, 13, 23, 21, 19, 16, 7, 26, 12, 18, 6, 11, 5, 10, 9]
def tz (s : Nat) : Nat := tab.getD ((((s &&& (65536 - s)) * 125613361) % 4294967296) / 134217728) 0
theorem odd_form : ∀ (n t : Nat), t ≤ n → 0 < t → ∃ k m, t = 2 ^ k * (2 * m + 1)
  | 0, t, h, h0 => by omega
  | n + 1, t, h, h0 => by
    by_cases hp : t % 2 = 1
    · exact ⟨0, t / 2, by omega⟩
    · obtain ⟨k, m, e⟩ := odd_form n (t / 2) (by omega) (by omega)
      refine ⟨k + 1, m, ?_⟩
      have : t = 2 * (t / 2) := by omega
      rw [this, e, Nat.pow_succ, Nat.mul_comm (2 ^ k) 2, Nat.mul_assoc]
theorem bit_odd (m i : Nat) : (2 * m + 1).testBit i = (decide (i = 0) || (2 * m).testBit i) := by
  cases i with
  | zero => simp [Nat.testBit]
  | succ i => rw [Nat.testBit_succ, Nat.testBit_succ, show (2 * m + 1) / 2 = m from by omega, show 2 * m / 2 = m from by omega]; simp
theorem bit_even0 (m : Nat) : (2 * m).testBit 0 = false := by simp [Nat.testBit]
theorem pred_form (k m : Nat) : 2 ^ k * (2 * m + 1) - 1 = 2 ^ k * (2 * m) + (2 ^ k - 1) := by
  have h : 0 < 2 ^ k := Nat.two_pow_pos k
  rw [Nat.mul_add, Nat.mul_one]
  omega
theorem and_pred (k m : Nat) : (2 ^ k * (2 * m + 1)) &&& (2 ^ k * (2 * m + 1) - 1) = 2 ^ k * (2 * m) := by
  apply Nat.eq_of_testBit_eq
  intro i
  have h : 0 < 2 ^ k := Nat.two_pow_pos k
  rw [Nat.testBit_and, pred_form, Nat.testBit_two_pow_mul_add _ (by omega), Nat.testBit_two_pow_mul, Nat.testBit_two_pow_mul, bit_odd]
  by_cases hi : i < k
  · simp [show ¬ k ≤ i from by omega]
  · rw [if_neg hi]
    by_cases h0 : i - k = 0
    · rw [h0, bit_even0]; simp
    · simp [h0]
theorem tags_cut (s k : Nat) (hk : k < 16) (hlo : ∀ i, i < k → s.testBit i = false) : tags s = (if s.testBit k then [k] else []) ++ (List.range' (k + 1) (15 - k)).filter (fun t => s.testBit t) := by
  unfold tags
  have e : List.range 16 = List.range k ++ k :: List.range' (k + 1) (15 - k) := by
    rw [List.range_eq_range', List.range_eq_range', show (16 : Nat) = k + (15 - k + 1) from by omega, ← List.range'_append_1, Nat.zero_add, List.range'_succ]
  rw [e, List.filter_append, List.filter_eq_nil_iff.2 (fun i hi => by rw [hlo i (List.mem_range.1 hi)]; simp), List.nil_append, List.filter_cons]
  split <;> rfl
theorem tags_step (k m : Nat) (h : 2 ^ k * (2 * m + 1) < 65536) : tags (2 ^ k * (2 * m + 1)) = k :: tags (2 ^ k * (2 * m)) := by
  have hk : k < 16 := by
    rcases Nat.lt_or_ge k 16 with h1 | h1
    · exact h1
    · have h2 := Nat.pow_le_pow_right (n := 2) (by omega) h1
      have h3 : 2 ^ k * 1 ≤ 2 ^ k * (2 * m + 1) := Nat.mul_le_mul_left _ (by omega)
      omega
  rw [tags_cut _ k hk (fun i hi => by rw [Nat.testBit_two_pow_mul]; simp [show ¬ k ≤ i from by omega]), tags_cut (2 ^ k * (2 * m)) k hk (fun i hi => by rw [Nat.testBit_two_pow_mul]; simp [show ¬ k ≤ i from by omega])]
  have h1 : (2 ^ k * (2 * m + 1)).testBit k = true := by rw [Nat.testBit_two_pow_mul, bit_odd]; simp
  have h2 : (2 ^ k * (2 * m)).testBit k = false := by rw [Nat.testBit_two_pow_mul, Nat.sub_self, bit_even0]; simp
  rw [h1, h2, if_pos rfl, if_neg (by simp), List.nil_append, List.singleton_append]
  congr 1
  refine List.filter_congr fun i hi => ?_
  have := List.mem_range'_1.1 hi
  rw [Nat.testBit_two_pow_mul, Nat.testBit_two_pow_mul, bit_odd]
  simp [show ¬ i - k = 0 from by omega]
theorem and_neg (k m : Nat) (h : 2 ^ k * (2 * m + 1) < 65536) (hk : k < 16) : (2 ^ k * (2 * m + 1)) &&& (65536 - 2 ^ k * (2 * m + 1)) = 2 ^ k := by
  have hp : (65536 : Nat) = 2 ^ k * (2 * 2 ^ (15 - k)) := by
    rw [← Nat.pow_succ', ← Nat.pow_add, show k + (15 - k).succ = 16 from by omega]
  have hm : m < 2 ^ (15 - k) := by
    rcases Nat.lt_or_ge m (2 ^ (15 - k)) with h1 | h1
    · exact h1
    · have := Nat.mul_le_mul_left (2 ^ k) (show 2 * 2 ^ (15 - k) ≤ 2 * m + 1 from by omega)
      omega
  have e : 65536 - 2 ^ k * (2 * m + 1) = 2 ^ k * (2 * (2 ^ (15 - k) - (m + 1)) + 1) := by
    rw [hp, ← Nat.mul_sub]
    congr 1
    omega
  rw [e]
  apply Nat.eq_of_testBit_eq
  intro i
  rw [Nat.testBit_and, Nat.testBit_two_pow_mul, Nat.testBit_two_pow_mul, bit_odd, bit_odd, Nat.testBit_two_pow]
  by_cases hi : i < k
  · simp [show ¬ k ≤ i from by omega, show ¬ k = i from by omega]
  · by_cases h0 : i - k = 0
    · have : i = k := by omega
      subst this; simp
    · obtain ⟨j, hj⟩ : ∃ j, i - k = j + 1 := ⟨i - k - 1, by omega⟩
      rw [hj, Nat.testBit_succ, Nat.testBit_succ, show 2 * m / 2 = m from by omega, show 2 * (2 ^ (15 - k) - (m + 1)) / 2 = 2 ^ (15 - k) - (m + 1) from by omega, Nat.testBit_two_pow_sub_succ hm]
      simp [show ¬ k = i from by omega]
      intro _ h1 _ _
      exact h1
theorem tz_at : ∀ k, k < 16 → tab.getD (((2 ^ k * 125613361) % 4294967296) / 134217728) 0 = k := by decide
/-- The least tag, and what is left without it. -/
theorem step {t : Nat} (h0 : 0 < t) (h : t < 65536) : tz t < 16 ∧ tags t = tz t :: tags (t &&& (t - 1)) ∧ t &&& (t - 1) < t := by
  obtain ⟨k, m, rfl⟩ := odd_form t t (Nat.le_refl _) h0
  have hk : k < 16 := by
    rcases Nat.lt_or_ge k 16 with h1 | h1
    · exact h1
    · have h2 := Nat.pow_le_pow_right (n := 2) (by omega) h1
      have h3 : 2 ^ k * 1 ≤ 2 ^ k * (2 * m + 1) := Nat.mul_le_mul_left _ (by omega)
      omega
  have hz : tz (2 ^ k * (2 * m + 1)) = k := by unfold tz; rw [and_neg k m h hk, tz_at k hk]
  rw [hz, and_pred]
  refine ⟨hk, tags_step k m h, ?_⟩
  rw [Nat.mul_add]
  have := Nat.two_pow_pos k
  omega
theorem tags_zero : tags 0 = [] := by decide
theorem tags_lt (s : Nat) : ∀ t ∈ tags s, t < 16 ∧ s.testBit t = true := fun t ht => by
  obtain ⟨h1, h2⟩ := List.mem_filter.1 ht
  exact ⟨List.mem_range.1 h1, h2⟩
theorem mem_tags {s t : Nat} : t ∈ tags s ↔ t < 16 ∧ s.testBit t = true := by
  unfold tags
  rw [List.mem_filter, List.mem_range]
theorem tags_le (s : Nat) : (tags s).length ≤ 16 := Nat.le_trans (List.length_filter_le _ _) (by simp)
theorem tags_sorted (s : Nat) : (tags s).Pairwise (· < ·) := List.Pairwise.filter _ List.pairwise_lt_range
theorem ext {x y : Nat} (hx : x < 65536) (hy : y < 65536) (h : ∀ i, i < 16 → x.testBit i = y.testBit i) : x = y := by
  apply Nat.eq_of_testBit_eq
  intro i
  by_cases hi : i < 16
  · exact h i hi
  · rw [Nat.testBit_lt_two_pow (Nat.lt_of_lt_of_le hx (Nat.pow_le_pow_right (n := 2) (by omega) (show 16 ≤ i from by omega))), Nat.testBit_lt_two_pow (Nat.lt_of_lt_of_le hy (Nat.pow_le_pow_right (n := 2) (by omega) (show 16 ≤ i from by omega)))]
theorem tags_inj {x y : Nat} (hx : x < 65536) (hy : y < 65536) (h : tags x = tags y) : x = y := ext hx hy fun i hi => by
  have : i ∈ tags x ↔ i ∈ tags y := by rw [h]
  rw [mem_tags, mem_tags] at this
  cases hb : x.testBit i <;> cases hc : y.testBit i <;> simp_all
end Go.Proofs.YtlmacaenbililaaGreatDoor.Tag
