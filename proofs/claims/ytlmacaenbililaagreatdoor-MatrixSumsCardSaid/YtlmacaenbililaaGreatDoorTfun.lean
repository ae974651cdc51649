/- Package tagset: Has, Sub, Count, Least, Of: what they return. No conditions. -/
import Derived.Test.YtlmacaenbililaaGreatDoorTeach
namespace Go.Proofs.YtlmacaenbililaaGreatDoor
open Go.RowKit
set_option linter.unusedSimpArgs false
set_option linter.unusedVariables false

namespace Tag
def has (s : Nat) (t : Int) : Bool := decide (0 ≤ t ∧ t < 16) && s.testBit t.toNat
def sub (a b : Nat) : Bool := (tags a).all (fun t => b.testBit t)
def add (s : Nat) (t : Int) : Nat := if 0 ≤ t ∧ t < 16 then s ||| 2 ^ t.toNat else s
def of (l : List Int) : Nat := l.foldl add 0
theorem add_lt {s : Nat} (h : s < 65536) (t : Int) : add s t < 65536 := by
  unfold add
  split
  · exact Nat.or_lt_two_pow (n := 16) h (Nat.pow_lt_pow_right (by omega) (by omega))
  · exact h
theorem fold_lt : ∀ (l : List Int) (s : Nat), s < 65536 → l.foldl add s < 65536
  | [], s, h => h
  | t :: l, s, h => fold_lt l _ (add_lt h t)
theorem of_lt (l : List Int) : of l < 65536 := fold_lt l 0 (by omega)
end Tag
theorem has_ok (s : Nat) (hs : s < 65536) (t : Int) (w : World) : Calls Tryz.prog 118 #[.int .u16 (s : Int), .int .i64 t] w fun e w' => e = .returned (.bool (Tag.has s t)) ∧ w' = w := by
  by_cases h0 : 0 ≤ t
  · by_cases h1 : t < 16
    · obtain ⟨k, rfl⟩ : ∃ k : Nat, t = k := ⟨t.toNat, by omega⟩
      have hk : k < 16 := by omega
      obtain ⟨v, hv⟩ : ∃ v : Nat, v = s / 2 ^ k := ⟨_, rfl⟩
      have hdiv : ((s : Int) / 2 ^ k) = (v : Int) := by rw [hv]; simp
      have hvl : v < 65536 := by rw [hv]; exact Nat.lt_of_le_of_lt (Nat.div_le_self _ _) hs
      have hand : bits .and .u16 (v : Int) 1 = ((v &&& 1 : Nat) : Int) := u16_and v 1 hvl (by omega)
      have hb : (((v &&& 1 : Nat) : Int) == 1) = s.testBit k := by
        rw [hv]
        have h3 : (s / 2 ^ k) &&& 1 = s / 2 ^ k % 2 := Nat.and_one_is_mod _
        rw [h3, Nat.testBit_eq_decide_div_mod_eq]
        by_cases h4 : s / 2 ^ k % 2 = 1
        · rw [h4]; simp
        · have h5 : s / 2 ^ k % 2 = 0 := by omega
          rw [h5]; simp
      have hH : Tag.has s (k : Int) = s.testBit k := by unfold Tag.has; rw [Int.toNat_natCast]; simp; omega
      rw [hH]
      obtain ⟨y, hy⟩ : ∃ y : Int, y = ((v &&& 1 : Nat) : Int) := ⟨_, rfl⟩
      rw [← hy] at hand hb
      generalize s.testBit k = bb at hb
      clear hH hv hy hvl
      go_enter Tryz.func118, Tryz.ntmps118
      go_wp2_with fail
      go_ret
      exact ⟨rfl, rfl⟩
    · have hH : Tag.has s t = false := by unfold Tag.has; simp; omega
      rw [hH]
      clear hH
      go_enter Tryz.func118, Tryz.ntmps118
      go_wp2_with fail
      go_ret
      exact ⟨rfl, rfl⟩
  · have hH : Tag.has s t = false := by unfold Tag.has; simp; omega
    rw [hH]
    clear hH
    go_enter Tryz.func118, Tryz.ntmps118
    go_wp2_with fail
    go_ret
    exact ⟨rfl, rfl⟩
theorem u16_andNot (a b : Nat) (ha : a < 65536) (hb : b < 65536) : bits .andNot .u16 (a : Int) (b : Int) = ((a &&& (65535 - b) : Nat) : Int) := by
  have key : (BitVec.ofInt 16 (a : Int) &&& ~~~(BitVec.ofInt 16 (b : Int))).toNat = a &&& (65535 - b) := by
    rw [BitVec.ofInt_natCast, BitVec.ofInt_natCast, BitVec.toNat_and, BitVec.toNat_not, BitVec.toNat_ofNat, BitVec.toNat_ofNat, Nat.mod_eq_of_lt (show a < 2 ^ 16 from ha), Nat.mod_eq_of_lt (show b < 2 ^ 16 from hb)]
  show IntKind.u16.wrap (((BitVec.ofInt 16 (a : Int) &&& ~~~(BitVec.ofInt 16 (b : Int))).toNat : Nat) : Int) = _
  rw [key]
  have : a &&& (65535 - b) < 2 ^ 16 := Nat.and_lt_two_pow _ (by omega)
  exact wraps_u16 _ (by omega) (by omega)
theorem sub_iff (a b : Nat) (ha : a < 65536) (hb : b < 65536) : (a &&& (65535 - b) = 0) ↔ Tag.sub a b = true := by
  have hbit : ∀ i, (a &&& (65535 - b)).testBit i = (a.testBit i && (decide (i < 16) && !b.testBit i)) := fun i => by
    rw [Nat.testBit_and, show 65535 - b = 2 ^ 16 - (b + 1) from by omega, Nat.testBit_two_pow_sub_succ (n := 16) (by omega)]
  unfold Tag.sub
  rw [List.all_eq_true]
  constructor
  · intro h t ht
    obtain ⟨h1, h2⟩ := Tag.tags_lt a t ht
    have := hbit t
    rw [h, h2] at this
    simpa [h1] using this.symm
  · intro h
    apply Nat.eq_of_testBit_eq
    intro i
    rw [hbit]
    cases h1 : a.testBit i with
    | false => simp
    | true =>
      by_cases h2 : i < 16
      · rw [h i (Tag.mem_tags.2 ⟨h2, h1⟩)]; simp
      · simp [h2]
theorem sub_ok (a b : Nat) (ha : a < 65536) (hb : b < 65536) (w : World) : Calls Tryz.prog 218 #[.int .u16 (a : Int), .int .u16 (b : Int)] w fun e w' => e = .returned (.bool (Tag.sub a b)) ∧ w' = w := by
  have hn := u16_andNot a b ha hb
  have hi := sub_iff a b ha hb
  obtain ⟨y, hy⟩ : ∃ y : Nat, y = a &&& (65535 - b) := ⟨_, rfl⟩
  rw [← hy] at hn hi
  have hb2 : ((y : Int) == 0) = Tag.sub a b := by
    cases h : Tag.sub a b with
    | true => rw [hi.2 h]; rfl
    | false =>
      have : y ≠ 0 := fun e => by rw [hi.1 e] at h; cases h
      simp; omega
  generalize Tag.sub a b = bb at hb2
  clear hi hy
  go_enter Tryz.func218, Tryz.ntmps218
  go_wp2_with fail
  go_ret
  exact ⟨rfl, rfl⟩
/-- The least tag, or 0. -/
def Tag.least (s : Nat) : Nat := if s = 0 then 0 else Tag.tz s
/-- A row of ints that is read. -/
def IntsAt (w : World) (A : Option Addr) (l : List Int) : Prop := l = [] ∨ ∃ b off, A = some ⟨b, off, none⟩ ∧ ∀ i (h : i < l.length), w.cell? ⟨b, off + i, none⟩ = some (.int .i64 l[i])
theorem u16_or (a b : Nat) (ha : a < 65536) (hb : b < 65536) : bits .or .u16 (a : Int) (b : Int) = ((a ||| b : Nat) : Int) := (bits_nat .u16 16 (by decide) wraps_u16 a b (by omega) (by omega)).2
theorem of_ok (A : Option Addr) (c : Nat) (l : List Int) (hl : l.length ≤ 4611686018427387904) (w : World) (hA : IntsAt w A l) : Calls Tryz.prog 106 #[.slice A l.length c] w fun e w' => e = .returned (.int .u16 (Tag.of l : Int)) ∧ w' = w := by
  have HA := Lib.hid hA
  clear hA
  go_enter Tryz.func106, Tryz.ntmps106
  go_wp2_with fail
  go_loopw [3, 8] (fun s i wr => ∃ (k : Nat) (v : Nat), i = .int .i64 (k : Int) ∧ s = .int .u16 (v : Int) ∧ k ≤ l.length ∧ v < 65536 ∧ Hid (v = (l.take k).foldl Tag.add 0) ∧ wr = w) (fun s i _ => l.length - (intOf i).toNat)
  case atStart => exact ⟨0, 0, rfl, rfl, by omega, by omega, Lib.hid rfl, rfl⟩
  case round =>
    obtain ⟨k, v, rfl, rfl, hk, hv, hf, rfl⟩ := hrel
    by_cases hkl : k = l.length
    · subst hkl
      go_wp2_with fail
      go_ret
      refine ⟨?_, rfl⟩
      rw [hf.out, List.take_length]; rfl
    · have hkn : k < l.length := by omega
      have hki : (k : Int) < (l.length : Int) := by omega
      obtain ⟨b, off, rfl, hc⟩ : ∃ b off, A = some ⟨b, off, none⟩ ∧ wr.cell? ⟨b, off + k, none⟩ = some (.int .i64 l[k]) := by
        rcases HA.out with h | ⟨b, off, h1, h2⟩
        · rw [h] at hkn; simp at hkn
        · exact ⟨b, off, h1, h2 k hkn⟩
      have hnext : (l.take (k + 1)).foldl Tag.add 0 = Tag.add ((l.take k).foldl Tag.add 0) l[k] := by
        rw [List.take_succ_eq_append_getElem hkn, List.foldl_append]; rfl
      rw [← hf.out] at hnext
      generalize l[k] = t at hc hnext
      have HN := Lib.hid hnext
      clear hkl hnext
      by_cases hin : 0 ≤ t ∧ t < 16
      · obtain ⟨h0, h1⟩ := hin
        obtain ⟨j, rfl⟩ : ∃ j : Nat, t = j := ⟨t.toNat, by omega⟩
        have hj : j < 16 := by omega
        obtain ⟨v', hv'⟩ : ∃ v', v' = Tag.add v j := ⟨_, rfl⟩
        have hlt' : v' < 65536 := by rw [hv']; exact Tag.add_lt hv _
        have hpj : 2 ^ j < 65536 := Nat.pow_lt_pow_right (n := 16) (a := 2) (by omega) hj
        have hor : bits .or .u16 (v : Int) (IntKind.u16.wrap ((2 : Int) ^ j)) = (v' : Int) := by
          have e : ((2 : Int) ^ j) = ((2 ^ j : Nat) : Int) := by simp
          have hw := wraps_u16 ((2 ^ j : Nat) : Int) (Int.natCast_nonneg _) (by have h : ((2 ^ j : Nat) : Int) < ((65536 : Nat) : Int) := Int.ofNat_lt.2 hpj; exact h)
          rw [e, hw, u16_or v (2 ^ j) hv hpj, hv']
          unfold Tag.add
          rw [if_pos ⟨h0, h1⟩, Int.toNat_natCast]
        rw [← hv'] at HN
        have HOR := Lib.hid hor
        clear hv' hor hpj
        go_wp2_with fail
        go_roundw
        case rel => exact ⟨k + 1, v', by go_num, congrArg (Value.int IntKind.u16) HOR.out, by omega, hlt', Lib.hid HN.out.symm, trivial⟩
        case measure => simp [intOf]; omega
      · have hne : Tag.add v t = v := by unfold Tag.add; rw [if_neg hin]
        rw [hne] at HN
        clear hne
        by_cases h0 : 0 ≤ t
        · have h1 : ¬ t < 16 := fun h => hin ⟨h0, h⟩
          clear hin
          go_wp2_with fail
          go_roundw
          case rel => exact ⟨k + 1, v, by go_num, rfl, by omega, hv, Lib.hid HN.out.symm, trivial⟩
          case measure => simp [intOf]; omega
        · clear hin
          go_wp2_with fail
          go_roundw
          case rel => exact ⟨k + 1, v, by go_num, rfl, by omega, hv, Lib.hid HN.out.symm, trivial⟩
          case measure => simp [intOf]; omega
end Go.Proofs.YtlmacaenbililaaGreatDoor
