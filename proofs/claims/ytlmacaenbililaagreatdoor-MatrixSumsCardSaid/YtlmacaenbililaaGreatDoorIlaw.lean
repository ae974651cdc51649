/- Names of objects: whether one is fine, its lane, its order, its text: plain laws. No conditions. -/
import Derived.Test.YtlmacaenbililaaGreatDoorLabc
namespace Go.Proofs.YtlmacaenbililaaGreatDoor
open Go.RowKit Go.Shelf
set_option linter.unusedSimpArgs false
set_option linter.unusedVariables false

namespace Idn
abbrev I := Lab.L × Int × Int
def zero : I := ((0, 0), 0, 0)
def fine (x : I) : Bool := decide (1 ≤ x.2.1 ∧ x.2.1 ≤ 3 ∧ 0 ≤ x.2.2 ∧ x.2.2 < 4)
def lane (x : I) : Int := if fine x = true then (x.2.1 - 1) * 4 + x.2.2 else -1
def mk (b : Lab.L) (j : Int) : I := if 0 ≤ j ∧ j < 12 then (b, j / 4 + 1, j % 4) else zero
def cmp (x y : I) : Int := if x = y then 0 else orOf [Lab.cmp x.1 y.1, cmpI x.2.1 y.2.1, cmpI x.2.2 y.2.2]
def letters : List UInt8 := [32, 112, 109, 102]
def letter (k : Int) : UInt8 := if k = 1 then 112 else if k = 2 then 109 else 102
def text (x : I) : List UInt8 := if fine x = true then letter x.2.1 :: (Lab.text x.1 ++ [46, (48 + x.2.2.toNat).toUInt8]) else []
def mid (s : List UInt8) : List UInt8 := (s.take (s.length - 2)).drop 1
def pre (s : List UInt8) : I := ((Lab.parse (mid s)).1, Lib.indexByte letters (s.getD 0 0), ((s.getD (s.length - 1) 0).toNat : Int) - 48)
def parse (s : List UInt8) : I × Int := if s.length < 3 then (zero, 3) else if (Lab.parse (mid s)).2 ≠ 0 then (zero, 3) else if text (pre s) = s then (pre s, 0) else (zero, 3)

theorem fine_iff {x : I} : fine x = true ↔ 1 ≤ x.2.1 ∧ x.2.1 ≤ 3 ∧ 0 ≤ x.2.2 ∧ x.2.2 < 4 := by unfold fine; simp
theorem mk_in (b : Lab.L) {j : Int} (h0 : 0 ≤ j) (h1 : j < 12) : mk b j = (b, j / 4 + 1, j % 4) := if_pos ⟨h0, h1⟩
theorem fine_mk (b : Lab.L) {j : Int} (h0 : 0 ≤ j) (h1 : j < 12) : fine (mk b j) = true := by
  rw [mk_in b h0 h1]; exact fine_iff.2 ⟨by show 1 ≤ j / 4 + 1; omega, by show j / 4 + 1 ≤ 3; omega, by show 0 ≤ j % 4; omega, by show j % 4 < 4; omega⟩
theorem lane_mk (b : Lab.L) {j : Int} (h0 : 0 ≤ j) (h1 : j < 12) : lane (mk b j) = j := by
  unfold lane; rw [if_pos (fine_mk b h0 h1), mk_in b h0 h1]; show (j / 4 + 1 - 1) * 4 + j % 4 = j; omega
theorem lane_fine {x : I} (h : fine x = true) : lane x = (x.2.1 - 1) * 4 + x.2.2 := if_pos h
theorem mk_lane {x : I} (h : fine x = true) : mk x.1 (lane x) = x := by
  obtain ⟨b, k, n⟩ := x
  obtain ⟨h1, h2, h3, h4⟩ := fine_iff.1 h
  simp only at h1 h2 h3 h4
  rw [lane_fine h]
  show mk b ((k - 1) * 4 + n) = _
  rw [mk_in b (by omega) (by omega)]
  exact Prod.ext rfl (Prod.ext (by show ((k - 1) * 4 + n) / 4 + 1 = k; omega) (by show ((k - 1) * 4 + n) % 4 = n; omega))
theorem mk_inj {p q : Lab.L} {i j : Int} (i0 : 0 ≤ i) (i1 : i < 12) (j0 : 0 ≤ j) (j1 : j < 12) : mk p i = mk q j ↔ p = q ∧ i = j := by
  rw [mk_in p i0 i1, mk_in q j0 j1]
  constructor
  · intro h
    have h1 := congrArg Prod.fst h
    have h2 := congrArg (fun x => x.2.1) h
    have h3 := congrArg (fun x => x.2.2) h
    simp only at h1 h2 h3
    exact ⟨h1, by omega⟩
  · rintro ⟨rfl, rfl⟩; rfl
theorem cmpI_anti (a b : Int) : cmpI a b = -cmpI b a := by unfold cmpI; split <;> split <;> omega
theorem cmpI_zero {a b : Int} : cmpI a b = 0 ↔ a = b := by unfold cmpI; split <;> (try split) <;> omega
theorem cmpI_neg {a b : Int} : cmpI a b < 0 ↔ a < b := by unfold cmpI; split <;> (try split) <;> omega
theorem cmpI_in (a b : Int) : -1 ≤ cmpI a b ∧ cmpI a b ≤ 1 := by unfold cmpI; split <;> (try split) <;> omega
theorem labcmp_in (a b : Lab.L) : -1 ≤ Lab.cmp a b ∧ Lab.cmp a b ≤ 1 := by unfold Lab.cmp; split <;> (try split) <;> omega
theorem or_in : ∀ l : List Int, (∀ x ∈ l, -1 ≤ x ∧ x ≤ 1) → -1 ≤ orOf l ∧ orOf l ≤ 1
  | [], _ => by simp [orOf]
  | x :: l, h => by
    unfold orOf
    split
    · exact or_in l fun y hy => h y (by simp [hy])
    · exact h x (by simp)
theorem cmp_in (x y : I) : -1 ≤ cmp x y ∧ cmp x y ≤ 1 := by
  unfold cmp
  split
  · omega
  · refine or_in _ fun z hz => ?_
    rcases List.mem_cons.1 hz with rfl | hz
    · exact labcmp_in _ _
    · rcases List.mem_cons.1 hz with rfl | hz
      · exact cmpI_in _ _
      · rw [List.mem_singleton.1 hz]; exact cmpI_in _ _
theorem or_three (a b c : Int) : orOf [a, b, c] = if a ≠ 0 then a else if b ≠ 0 then b else c := by
  simp only [orOf]; split <;> (try split) <;> (try split) <;> simp_all
theorem cmp_anti (x y : I) : cmp x y = -cmp y x := by
  unfold cmp
  by_cases h : x = y
  · rw [if_pos h, if_pos h.symm]; rfl
  · rw [if_neg h, if_neg (Ne.symm h), or_three, or_three, Lab.cmp_anti x.1 y.1, cmpI_anti x.2.1, cmpI_anti x.2.2]
    split <;> split <;> (try split) <;> (try split) <;> omega
theorem cmp_zero {x y : I} (hx : Lab.ok x.1) (hy : Lab.ok y.1) : cmp x y = 0 ↔ x = y := by
  unfold cmp
  by_cases h : x = y
  · rw [if_pos h]; simp [h]
  · rw [if_neg h, or_three]
    constructor
    · intro h0
      have e1 : Lab.cmp x.1 y.1 = 0 := by
        by_cases e : Lab.cmp x.1 y.1 = 0
        · exact e
        · rw [if_pos e] at h0; exact h0
      rw [if_neg (by omega)] at h0
      have e2 : cmpI x.2.1 y.2.1 = 0 := by
        by_cases e : cmpI x.2.1 y.2.1 = 0
        · exact e
        · rw [if_pos e] at h0; exact h0
      rw [if_neg (by omega)] at h0
      exact Prod.ext ((Lab.cmp_zero hx hy).1 e1) (Prod.ext (cmpI_zero.1 e2) (cmpI_zero.1 h0))
    · intro e; exact absurd e h
theorem cmp_mk (p : Lab.L) (hp : Lab.ok p) {i j : Int} (i0 : 0 ≤ i) (i1 : i < 12) (j0 : 0 ≤ j) (j1 : j < 12) : (cmp (mk p i) (mk p j) < 0) ↔ i < j := by
  unfold cmp
  by_cases h : mk p i = mk p j
  · rw [if_pos h]
    have := ((mk_inj i0 i1 j0 j1).1 h).2
    omega
  · rw [if_neg h, mk_in p i0 i1, mk_in p j0 j1, or_three]
    show (if Lab.cmp p p ≠ 0 then Lab.cmp p p else if cmpI (i / 4 + 1) (j / 4 + 1) ≠ 0 then cmpI (i / 4 + 1) (j / 4 + 1) else cmpI (i % 4) (j % 4)) < 0 ↔ i < j
    rw [(Lab.cmp_zero hp hp).2 rfl, if_neg (by omega)]
    unfold cmpI
    split <;> split <;> (try split) <;> (try split) <;> omega
theorem letter_inj {a b : Int} (a1 : 1 ≤ a) (a2 : a ≤ 3) (b1 : 1 ≤ b) (b2 : b ≤ 3) (h : letter a = letter b) : a = b := by
  obtain rfl | rfl | rfl : a = 1 ∨ a = 2 ∨ a = 3 := by omega
  all_goals (obtain rfl | rfl | rfl : b = 1 ∨ b = 2 ∨ b = 3 := by omega) <;> first | rfl | (exfalso; revert h; decide)
theorem digit_inj {a b : Int} (a1 : 0 ≤ a) (a2 : a < 4) (b1 : 0 ≤ b) (b2 : b < 4) (h : (48 + a.toNat).toUInt8 = (48 + b.toNat).toUInt8) : a = b := by
  obtain rfl | rfl | rfl | rfl : a = 0 ∨ a = 1 ∨ a = 2 ∨ a = 3 := by omega
  all_goals (obtain rfl | rfl | rfl | rfl : b = 0 ∨ b = 1 ∨ b = 2 ∨ b = 3 := by omega) <;> first | rfl | (exfalso; revert h; decide)
theorem labtext_inj {a b : Lab.L} (ha : Lab.ok a) (hb : Lab.ok b) (h : Lab.text a = Lab.text b) : a = b := by
  have h1 := Lab.rparse_text a ha
  rw [h, Lab.rparse_text b hb] at h1
  exact (Option.some.inj h1).symm
theorem text_fine {x : I} (h : fine x = true) : text x = letter x.2.1 :: (Lab.text x.1 ++ [46, (48 + x.2.2.toNat).toUInt8]) := if_pos h
theorem text_inj {x y : I} (hx : Lab.ok x.1) (hy : Lab.ok y.1) (fx : fine x = true) (fy : fine y = true) : text x = text y ↔ x = y := by
  constructor
  · intro h
    rw [text_fine fx, text_fine fy] at h
    obtain ⟨x1, x2, x3, x4⟩ := fine_iff.1 fx
    obtain ⟨y1, y2, y3, y4⟩ := fine_iff.1 fy
    obtain ⟨h1, h2⟩ := List.cons.inj h
    have h3 := List.append_inj' h2 rfl
    have h4 : (48 + x.2.2.toNat).toUInt8 = (48 + y.2.2.toNat).toUInt8 := by simpa using h3.2
    exact Prod.ext (labtext_inj hx hy h3.1) (Prod.ext (letter_inj x1 x2 y1 y2 h1) (digit_inj x3 x4 y3 y4 h4))
  · rintro rfl; rfl
/-! ### A name is read from its text -/
theorem letter_index {k : Int} (h1 : 1 ≤ k) (h2 : k ≤ 3) : Lib.indexByte letters (letter k) = k := by
  obtain rfl | rfl | rfl : k = 1 ∨ k = 2 ∨ k = 3 := by omega
  all_goals decide
theorem mid_text (c : UInt8) (l : List UInt8) (a b : UInt8) : mid (c :: (l ++ [a, b])) = l := by
  unfold mid
  have e : (c :: (l ++ [a, b])).length - 2 = l.length + 1 := by simp
  rw [e, List.take_succ_cons, List.drop_succ_cons, List.drop_zero, List.take_left']
  rfl
theorem last_text (c : UInt8) (l : List UInt8) (a b : UInt8) : (c :: (l ++ [a, b])).getD ((c :: (l ++ [a, b])).length - 1) 0 = b := by
  have e : (c :: (l ++ [a, b])).length - 1 = (l.length + 1) + 1 := by simp
  rw [e, List.getD_cons_succ, List.getD_eq_getElem?_getD, List.getElem?_append_right (by omega)]
  simp
theorem pre_text {x : I} (hx : Lab.ok x.1) (h : fine x = true) : pre (text x) = x := by
  obtain ⟨x1, x2, x3, x4⟩ := fine_iff.1 h
  rw [text_fine h]
  unfold pre
  rw [mid_text, last_text, Lab.parse_text _ hx, List.getD_cons_zero, letter_index x1 x2]
  refine Prod.ext rfl (Prod.ext rfl ?_)
  show ((((48 + x.2.2.toNat).toUInt8).toNat : Nat) : Int) - 48 = x.2.2
  obtain ⟨n, hn⟩ : ∃ n, n = x.2.2 := ⟨_, rfl⟩
  rw [← hn] at x3 x4 ⊢
  clear hn
  obtain rfl | rfl | rfl | rfl : n = 0 ∨ n = 1 ∨ n = 2 ∨ n = 3 := by omega
  all_goals rfl
theorem parse_text {x : I} (hx : Lab.ok x.1) (h : fine x = true) : parse (text x) = (x, 0) := by
  have hp := pre_text hx h
  have hl : ¬ (text x).length < 3 := by rw [text_fine h]; simp
  have hm : (Lab.parse (mid (text x))).2 = 0 := by rw [text_fine h, mid_text, Lab.parse_text _ hx]
  unfold parse
  rw [if_neg hl, hm, if_neg (by simp), hp, if_pos rfl]
theorem parse_nofine {x : I} (h : fine x = false) : parse (text x) = (zero, 3) := by
  have e : text x = [] := by unfold text; rw [h]; rfl
  rw [e]; rfl
theorem parse_fine {s : List UInt8} (h : (parse s).2 = 0) : text (parse s).1 = s ∧ fine (parse s).1 = true ∧ Lab.ok (parse s).1.1 := by
  unfold parse at h ⊢
  by_cases h1 : s.length < 3
  · rw [if_pos h1] at h; simp at h
  · rw [if_neg h1] at h ⊢
    by_cases h2 : (Lab.parse (mid s)).2 ≠ 0
    · rw [if_pos h2] at h; simp at h
    · rw [if_neg h2] at h ⊢
      by_cases h3 : text (pre s) = s
      · rw [if_pos h3]
        refine ⟨h3, ?_, ?_⟩
        · by_cases hf : fine (pre s) = true
          · exact hf
          · have e : text (pre s) = [] := by unfold text; rw [if_neg hf]
            rw [e] at h3
            rw [← h3] at h1
            simp at h1
        · show Lab.ok (Lab.parse (mid s)).1
          unfold Lab.parse
          split
          · rename_i a ha; exact Lab.rparse_ok' ha
          · exact ⟨by simp, by simp⟩
      · rw [if_neg h3] at h; simp at h
end Idn
/-- A name's four cells. -/
abbrev idV (x : Idn.I) : Value := .agg #[.int .u16 (x.1.1 : Int), .int .u16 (x.1.2 : Int), .int .i64 x.2.1, .int .i64 x.2.2]
abbrev idC (x : Idn.I) : List Value := [.int .u16 (x.1.1 : Int), .int .u16 (x.1.2 : Int), .int .i64 x.2.1, .int .i64 x.2.2]
end Go.Proofs.YtlmacaenbililaaGreatDoor
