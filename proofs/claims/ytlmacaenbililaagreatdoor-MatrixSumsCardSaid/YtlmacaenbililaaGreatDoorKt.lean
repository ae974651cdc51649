/- Package trace: Line: what it returns. Package trace: Parse: what it returns. Lines of entries: which texts are such lines, and of which entries: plain laws. No conditions. -/
import Derived.Test.YtlmacaenbililaaGreatDoorKh
import Derived.Test.YtlmacaenbililaaGreatDoorShc
import Derived.Lib.ItoaLen
import Derived.Test.YtlmacaenbililaaGreatDoorIparse
import Derived.Lib.AtoiAllCases
import Derived.Lib.AtoiTie
namespace Go.Proofs.YtlmacaenbililaaGreatDoor
open Go.RowKit Go.Shelf
set_option linter.unusedSimpArgs false
set_option linter.unusedVariables false
attribute [local go_sem] cell_over frozen_over

theorem itoa_ok (n : Int) (h0 : -9223372036854775808 ≤ n) (h1 : n ≤ 9223372036854775807) (w : World) (hW : PowAt w) : Calls Tryz.prog 79 #[.int .i64 n] w fun e w' => e = .returned (.string ⟨(Lib.itoa n).toArray⟩) ∧ Below w.heap.size w w' :=
  (Tryz.strconv_Itoa n h0 h1 w (hW w (Below.refl _ _))).mono fun e w' ⟨h1, k, os, h2⟩ => ⟨h1, by
    rw [h2]
    exact ⟨rfl, rfl, rfl, (by show w.heap.size ≤ ((w.drewN k).heap ++ os).size; rw [Array.size_append]; exact Nat.le_add_right _ _), fun i hi => by
      show ((w.drewN k).heap ++ os)[i]? = _
      rw [Array.getElem?_append_left (by show i < w.heap.size; omega)]
      rfl⟩⟩
namespace Tr
def ok (e : E) : Prop := (-9223372036854775808 ≤ e.1 ∧ e.1 ≤ 9223372036854775807) ∧ Lab.ok e.2.1.1 ∧ Lab.ok e.2.2.1 ∧ (-9223372036854775808 ≤ e.2.2.2.1 ∧ e.2.2.2.1 ≤ 9223372036854775807)
end Tr
theorem idtext_len (x : Idn.I) : (Idn.text x).length ≤ 102 := by
  unfold Idn.text
  split
  · have := labtext_size x.1
    have e : (Lab.text x.1).length ≤ 99 := by simpa [ByteArray.size] using this
    simp; omega
  · simp
theorem join5_len (a b c d e : List UInt8) : (Lib.join [a, b, c, d, e] [32]).length = a.length + b.length + c.length + d.length + e.length + 4 := by
  simp [Lib.join, List.intercalate]; omega
theorem cells5_str (w : World) (t : TypeId) (xs : List ByteArray) (a b c d e : ByteArray) (h : xs = [a, b, c, d, e]) : ∀ (j : Nat) x, xs[j]? = some x → (w.alloc (.cells #[.string a, .string b, .string c, .string d, .string e] t)).cell? ⟨w.heap.size, 0 + j, none⟩ = some (.string x) := by
  subst h
  intro j x hj
  rw [cell_of_row _ _ _ _ _ _ (heap_alloc_new w _), Nat.zero_add]
  match j, hj with
  | 0, hj => simp at hj; subst hj; rfl
  | 1, hj => simp at hj; subst hj; rfl
  | 2, hj => simp at hj; subst hj; rfl
  | 3, hj => simp at hj; subst hj; rfl
  | 4, hj => simp at hj; subst hj; rfl
end Go.Proofs.YtlmacaenbililaaGreatDoor
namespace Go.Proofs.YtlmacaenbililaaGreatDoor
open Go.RowKit Go.Shelf
set_option linter.unusedSimpArgs false
set_option linter.unusedVariables false
attribute [local go_sem] cell_over frozen_over

namespace Tr
def sp : ByteArray := ⟨#[32]⟩
def words (s : ByteArray) : List ByteArray := Lib.splitB sp 0 (Lib.countB s sp) s
def cand5 (a b c d e : ByteArray) : Option E :=
  if a.size ≤ 6 ∧ d.size ≤ 6 ∧ e.size ≤ 510 then
    match Lib.atoiAll a.data.toList, Lib.atoiAll d.data.toList with
    | .ok x, .ok y => if (Idn.parse b.data.toList).2 = 0 ∧ (Lab.parse c.data.toList).2 = 0 ∧ 0 ≤ x ∧ 0 ≤ y then some (x, (Idn.parse b.data.toList).1, (Lab.parse c.data.toList).1, y, ⟨(unhex e.data.toList).toArray⟩) else none
    | _, _ => none
  else none
def cand (s : ByteArray) : Option E := match words s with
  | [a, b, c, d, e] => cand5 a b c d e
  | _ => none
def fin (s : ByteArray) : Option E → E × Int
  | some x => if line x = s.data.toList then (x, 0) else (zero, 3)
  | none => (zero, 3)
def parse (s : ByteArray) : E × Int := fin s (cand s)
theorem words_len (s : ByteArray) : (words s).length = Lib.countB s sp + 1 := Lib.splitB_all sp (by decide) 0 _ s rfl
theorem words_size (s : ByteArray) : ∀ p ∈ words s, p.size ≤ s.size := fun p hp => Tag.splitB_size sp _ s p hp
end Tr
theorem words_ok (s : ByteArray) (hs : s.size ≤ 1000000) (w : World) (hL : LaidAt w) : Calls Tryz.prog 75 #[.string s, .string ⟨#[32]⟩] w fun e w' => ∃ b, e = .returned (.slice (some ⟨b, 0, none⟩) (Tr.words s).length (Tr.words s).length) ∧ w'.heap[b]? = some (.cells ((Tr.words s).map Value.string).toArray 9 (0, 0)) ∧ Below w.heap.size w w' := by
  obtain ⟨m, hm⟩ := hL.max
  exact (Tryz.strings_Split s Tr.sp m w (by omega) hm (by decide)).mono fun e w' ⟨h1, h2⟩ => ⟨w.heap.size, by rw [h1, Tr.words_len], by rw [h2]; exact heap_alloc_new _ _, by rw [h2]; exact below_fresh _ _⟩
theorem set_nine (W : World) (b : Nat) (t : TypeId) (x0 x1 x2 x3 x4 x5 x6 x7 x8 y0 y1 y2 y3 y4 y5 y6 y7 y8 : Value) (h : W.heap[b]? = some (.cells #[x0, x1, x2, x3, x4, x5, x6, x7, x8] t (0, 0))) : (((((((((W.setCell ⟨b, 0, none⟩ y0).setCell ⟨b, 1, none⟩ y1).setCell ⟨b, 2, none⟩ y2).setCell ⟨b, 3, none⟩ y3).setCell ⟨b, 4, none⟩ y4).setCell ⟨b, 5, none⟩ y5).setCell ⟨b, 6, none⟩ y6).setCell ⟨b, 7, none⟩ y7).setCell ⟨b, 8, none⟩ y8).heap[b]? = some (.cells #[y0, y1, y2, y3, y4, y5, y6, y7, y8] t (0, 0)) :=
  heap_setCells_same b t [y0, y1, y2, y3, y4, y5, y6, y7, y8] 0 W [x0, x1, x2, x3, x4, x5, x6, x7, x8] h (by simp)
theorem keep_nine {W : World} {k b : Nat} {o : Obj} (h : k ≠ b) (y0 y1 y2 y3 y4 y5 y6 y7 y8 : Value) (hk : W.heap[k]? = some o) : (((((((((W.setCell ⟨b, 0, none⟩ y0).setCell ⟨b, 1, none⟩ y1).setCell ⟨b, 2, none⟩ y2).setCell ⟨b, 3, none⟩ y3).setCell ⟨b, 4, none⟩ y4).setCell ⟨b, 5, none⟩ y5).setCell ⟨b, 6, none⟩ y6).setCell ⟨b, 7, none⟩ y7).setCell ⟨b, 8, none⟩ y8).heap[k]? = some o := (heap_setCells_other b [y0, y1, y2, y3, y4, y5, y6, y7, y8] 0 W k h).trans hk
theorem below_nine {B : Nat} {w W : World} (h : Below B w W) {b : Nat} (hb : B ≤ b) (y0 y1 y2 y3 y4 y5 y6 y7 y8 : Value) : Below B w (((((((((W.setCell ⟨b, 0, none⟩ y0).setCell ⟨b, 1, none⟩ y1).setCell ⟨b, 2, none⟩ y2).setCell ⟨b, 3, none⟩ y3).setCell ⟨b, 4, none⟩ y4).setCell ⟨b, 5, none⟩ y5).setCell ⟨b, 6, none⟩ y6).setCell ⟨b, 7, none⟩ y7).setCell ⟨b, 8, none⟩ y8) := below_setCells h hb 0 [y0, y1, y2, y3, y4, y5, y6, y7, y8]
theorem nine_cells {W : World} {b : Nat} {t : TypeId} {x0 x1 x2 x3 x4 x5 x6 x7 x8 : Value} (h : W.heap[b]? = some (.cells #[x0, x1, x2, x3, x4, x5, x6, x7, x8] t (0, 0))) : (W.cell? ⟨b, 0, none⟩ = some x0 ∧ W.cell? ⟨b, 1, none⟩ = some x1 ∧ W.cell? ⟨b, 2, none⟩ = some x2 ∧ W.cell? ⟨b, 3, none⟩ = some x3 ∧ W.cell? ⟨b, 4, none⟩ = some x4 ∧ W.cell? ⟨b, 5, none⟩ = some x5 ∧ W.cell? ⟨b, 6, none⟩ = some x6 ∧ W.cell? ⟨b, 7, none⟩ = some x7 ∧ W.cell? ⟨b, 8, none⟩ = some x8) ∧ (W.frozen? ⟨b, 0, none⟩ = false ∧ W.frozen? ⟨b, 1, none⟩ = false ∧ W.frozen? ⟨b, 2, none⟩ = false ∧ W.frozen? ⟨b, 3, none⟩ = false ∧ W.frozen? ⟨b, 4, none⟩ = false ∧ W.frozen? ⟨b, 5, none⟩ = false ∧ W.frozen? ⟨b, 6, none⟩ = false ∧ W.frozen? ⟨b, 7, none⟩ = false ∧ W.frozen? ⟨b, 8, none⟩ = false) ∧ b < W.heap.size :=
  ⟨⟨cell_of_row W b 0 _ t (0, 0) h, cell_of_row W b 1 _ t (0, 0) h, cell_of_row W b 2 _ t (0, 0) h, cell_of_row W b 3 _ t (0, 0) h, cell_of_row W b 4 _ t (0, 0) h, cell_of_row W b 5 _ t (0, 0) h, cell_of_row W b 6 _ t (0, 0) h, cell_of_row W b 7 _ t (0, 0) h, cell_of_row W b 8 _ t (0, 0) h⟩, ⟨by simp [World.frozen?, h], by simp [World.frozen?, h], by simp [World.frozen?, h], by simp [World.frozen?, h], by simp [World.frozen?, h], by simp [World.frozen?, h], by simp [World.frozen?, h], by simp [World.frozen?, h], by simp [World.frozen?, h]⟩, (Array.getElem?_eq_some_iff.1 h).1⟩
theorem five_cells {W : World} {b : Nat} {t : TypeId} {x0 x1 x2 x3 x4 : Value} (h : W.heap[b]? = some (.cells #[x0, x1, x2, x3, x4] t (0, 0))) : W.cell? ⟨b, 0, none⟩ = some x0 ∧ W.cell? ⟨b, 1, none⟩ = some x1 ∧ W.cell? ⟨b, 2, none⟩ = some x2 ∧ W.cell? ⟨b, 3, none⟩ = some x3 ∧ W.cell? ⟨b, 4, none⟩ = some x4 ∧ b < W.heap.size :=
  ⟨cell_of_row W b 0 _ t (0, 0) h, cell_of_row W b 1 _ t (0, 0) h, cell_of_row W b 2 _ t (0, 0) h, cell_of_row W b 3 _ t (0, 0) h, cell_of_row W b 4 _ t (0, 0) h, (Array.getElem?_eq_some_iff.1 h).1⟩
/-- What Atoi tells of a text. -/
def AtoiP (p : ByteArray) (v : Int) (ev : Value) : Prop := (Lib.atoiAll p.data.toList = .ok v ∧ ev = .nilIface ∧ v ≤ 9223372036854775807) ∨ ((∀ u, Lib.atoiAll p.data.toList ≠ .ok u) ∧ ∃ t N, ev = .iface t (.pointer (some ⟨N, 0, none⟩)))
theorem atoi_any (p : ByteArray) (hp : p.size ≤ 1000) (w : World) (hL : LaidAt w) : Calls Tryz.prog 78 #[.string p] w fun e w' => ∃ v ev, e = .returned (.tuple #[.int .i64 v, ev]) ∧ AtoiP p v ev ∧ Below w.heap.size w w' := by
  by_cases h : ∃ v, Lib.atoiAll p.data.toList = .ok v
  · obtain ⟨v, hv⟩ := h
    exact (atoi_ok p hp v hv w).mono fun e w' ⟨h1, h2⟩ => ⟨v, _, h1, .inl ⟨hv, rfl, (Lib.atoiAll_bounds hv).2⟩, h2⟩
  · have h' : ∀ u, Lib.atoiAll p.data.toList ≠ .ok u := fun u hu => h ⟨u, hu⟩
    exact (atoi_bad p hp h' w hL).mono fun e w' ⟨v, t, N, h1, h2⟩ => ⟨v, _, h1, .inr ⟨h', t, N, rfl⟩, h2⟩
theorem idn_parse_e (l : List UInt8) : (Idn.parse l).2 = 0 ∨ (Idn.parse l).2 = 3 := by unfold Idn.parse; split <;> (try split) <;> (try split) <;> simp
theorem idn_parse_lab (l : List UInt8) : Lab.ok (Idn.parse l).1.1 := by
  unfold Idn.parse
  split
  · exact ⟨by decide, by decide⟩
  · split
    · exact ⟨by decide, by decide⟩
    · split
      · exact lab_parse_lab _
      · exact ⟨by decide, by decide⟩
/-- The seven ways at the test behind the calls. -/
theorem tr_ways {a b c d e : ByteArray} (ha : a.size ≤ 6) (hd : d.size ≤ 6) (he : e.size ≤ 510) {v1 v2 : Int} {ev1 ev2 : Value} (h1 : AtoiP a v1 ev1) (h2 : AtoiP d v2 ev2) :
    (Tr.cand5 a b c d e = none ∧ ((∃ t N, ev1 = .iface t (.pointer (some ⟨N, 0, none⟩))) ∨ (ev1 = .nilIface ∧ ∃ t N, ev2 = .iface t (.pointer (some ⟨N, 0, none⟩))) ∨ (ev1 = .nilIface ∧ ev2 = .nilIface ∧ (Idn.parse b.data.toList).2 = 3) ∨ (ev1 = .nilIface ∧ ev2 = .nilIface ∧ (Idn.parse b.data.toList).2 = 0 ∧ (Lab.parse c.data.toList).2 = 3) ∨ (ev1 = .nilIface ∧ ev2 = .nilIface ∧ (Idn.parse b.data.toList).2 = 0 ∧ (Lab.parse c.data.toList).2 = 0 ∧ v1 < 0) ∨ (ev1 = .nilIface ∧ ev2 = .nilIface ∧ (Idn.parse b.data.toList).2 = 0 ∧ (Lab.parse c.data.toList).2 = 0 ∧ 0 ≤ v1 ∧ v2 < 0))) ∨
    (Tr.cand5 a b c d e = some (v1, (Idn.parse b.data.toList).1, (Lab.parse c.data.toList).1, v2, ⟨(Tr.unhex e.data.toList).toArray⟩) ∧ ev1 = .nilIface ∧ ev2 = .nilIface ∧ (Idn.parse b.data.toList).2 = 0 ∧ (Lab.parse c.data.toList).2 = 0 ∧ 0 ≤ v1 ∧ 0 ≤ v2 ∧ v1 ≤ 9223372036854775807 ∧ v2 ≤ 9223372036854775807) := by
  unfold Tr.cand5
  rw [if_pos ⟨ha, hd, he⟩]
  rcases h1 with ⟨h1, rfl, b1⟩ | ⟨h1, t, N, rfl⟩
  · rcases h2 with ⟨h2, rfl, b2⟩ | ⟨h2, t, N, rfl⟩
    · rw [h1, h2]
      dsimp only
      rcases idn_parse_e b.data.toList with e1 | e1
      · rcases lab_parse_e c.data.toList with e2 | e2
        · by_cases hv1 : 0 ≤ v1
          · by_cases hv2 : 0 ≤ v2
            · rw [if_pos ⟨e1, e2, hv1, hv2⟩]; exact .inr ⟨rfl, rfl, rfl, e1, e2, hv1, hv2, b1, b2⟩
            · rw [if_neg (fun h => hv2 h.2.2.2)]; exact .inl ⟨rfl, .inr (.inr (.inr (.inr (.inr ⟨rfl, rfl, e1, e2, hv1, by omega⟩))))⟩
          · rw [if_neg (fun h => hv1 h.2.2.1)]; exact .inl ⟨rfl, .inr (.inr (.inr (.inr (.inl ⟨rfl, rfl, e1, e2, by omega⟩))))⟩
        · rw [if_neg (fun h => by rw [e2] at h; exact absurd h.2.1 (by decide))]; exact .inl ⟨rfl, .inr (.inr (.inr (.inl ⟨rfl, rfl, e1, e2⟩)))⟩
      · rw [if_neg (fun h => by rw [e1] at h; exact absurd h.1 (by decide))]; exact .inl ⟨rfl, .inr (.inr (.inl ⟨rfl, rfl, e1⟩))⟩
    · refine .inl ⟨?_, .inr (.inl ⟨rfl, t, N, rfl⟩)⟩
      rw [h1]
      cases e3 : Lib.atoiAll d.data.toList with
      | ok u => exact absurd e3 (h2 u)
      | range => rfl
      | _ => rfl
  · refine .inl ⟨?_, .inl ⟨t, N, rfl⟩⟩
    cases e3 : Lib.atoiAll a.data.toList with
    | ok u => exact absurd e3 (h1 u)
    | range => rfl
    | _ => rfl
end Go.Proofs.YtlmacaenbililaaGreatDoor
namespace Go.Proofs.YtlmacaenbililaaGreatDoor
open Go.RowKit Go.Shelf
set_option linter.unusedSimpArgs false
set_option linter.unusedVariables false

namespace Tr
/-! Numbers -/
theorem digitVal_dig {d : Nat} (h : d < 10) : Lib.digitVal (UInt8.ofNat (48 + d)) = some d := by
  have e : (UInt8.ofNat (48 + d)).toNat = 48 + d := by simp; omega
  unfold Lib.digitVal; rw [e, if_pos (by omega)]; simp
theorem decFrom_append : ∀ (l m : List UInt8) (acc : Nat), Lib.decFrom acc (l ++ m) = (Lib.decFrom acc l).bind fun n => Lib.decFrom n m
  | [], m, acc => rfl
  | b :: l, m, acc => by
    simp only [List.cons_append, Lib.decFrom]
    cases Lib.digitVal b with
    | none => rfl
    | some d => exact decFrom_append l m _
theorem decFrom_dec (u : Nat) : Lib.decFrom 0 (Lib.decDigits u) = some u := by
  induction u using Nat.strongRecOn with
  | _ u ih =>
    by_cases h : u < 10
    · rw [Lib.decDigits_one h]
      simp only [Lib.decFrom, digitVal_dig h]; congr 1; omega
    · rw [Lib.decDigits, dif_neg h, decFrom_append, ih _ (by omega)]
      simp only [Option.bind_some, Lib.decFrom, digitVal_dig (show u % 10 < 10 by omega)]
      congr 1; omega
theorem dec_ne (u : Nat) : Lib.decDigits u ≠ [] := fun h => by
  have := decFrom_dec u
  have h1 := Lib.decDigits_length u
  have h2 := Lib.nDigits_pos u
  rw [h] at h1; simp at h1; omega
theorem dec_digit (u : Nat) : ∀ b ∈ Lib.decDigits u, 48 ≤ b.toNat ∧ b.toNat ≤ 57 := fun b hb => by
  obtain ⟨k, hk⟩ := List.getElem?_of_mem hb
  obtain ⟨d, hd⟩ := Lib.digit_of_decFrom _ _ _ (decFrom_dec u) k b hk
  have := Lib.digitVal_eq hd
  omega
theorem atoi_digits {l : List UInt8} {n : Nat} (hne : l ≠ []) (h : Lib.decFrom 0 l = some n) : Lib.atoi l = some (n : Int) := by
  cases l with
  | nil => exact absurd rfl hne
  | cons b r =>
    obtain ⟨d, hd⟩ := Lib.digit_of_decFrom _ _ _ h 0 b rfl
    obtain ⟨h1, h2, _⟩ := Lib.digitVal_eq hd
    have h45 : (b == 45) = false := by
      rw [beq_eq_false_iff_ne]; intro e; rw [e] at h1; revert h1; decide
    have h43 : (b == 43) = false := by
      rw [beq_eq_false_iff_ne]; intro e; rw [e] at h1; revert h1; decide
    simp only [Lib.atoi, h45, h43, Bool.false_eq_true, if_false]
    unfold Lib.decNat
    rw [h]; rfl
theorem itoa_nat (u : Nat) : Lib.itoa (u : Int) = Lib.decDigits u := by unfold Lib.itoa; rw [if_neg (by omega)]; simp
theorem dec_short {u : Nat} : (Lib.decDigits u).length ≤ 6 ↔ u < 1000000 := by
  rw [Lib.decDigits_length]
  constructor
  · intro h
    have h1 := Lib.lt_pow_nDigits u
    have h2 : 10 ^ Lib.nDigits u ≤ 10 ^ 6 := Nat.pow_le_pow_right (by decide) h
    omega
  · intro h
    have key : ∀ k v : Nat, v < 10 ^ (k + 1) → Lib.nDigits v ≤ k + 1 := by
      intro k
      induction k with
      | zero => intro v hv; rw [Lib.nDigits_small (by simpa using hv)]; exact Nat.le_refl _
      | succ k ih =>
        intro v hv
        by_cases h1 : v < 10
        · rw [Lib.nDigits_small h1]; omega
        · rw [Lib.nDigits_big h1]
          have := ih (v / 10) (by rw [Nat.pow_succ] at hv; omega)
          omega
    exact key 5 u h
theorem atoiAll_dec {u : Nat} (h : u < 1000000) : Lib.atoiAll (Lib.decDigits u) = .ok (u : Int) := by
  rw [Lib.atoiAll_short _ (by have := (dec_short (u := u)).2 h; omega), atoi_digits (dec_ne u) (decFrom_dec u)]
  rfl
theorem dec_inj {u v : Nat} (h : Lib.decDigits u = Lib.decDigits v) : u = v := by
  have h1 := decFrom_dec u
  rw [h, decFrom_dec v] at h1
  exact (Option.some.inj h1).symm
/-- A number of at most six digits, as the document reads it; -1: none. -/
def number (l : List UInt8) : Int := if l.length ≤ 6 then (match Lib.decFrom 0 l with | some n => if Lib.decDigits n = l then (n : Int) else -1 | none => -1) else -1
theorem number_dec {u : Nat} (h : u < 1000000) : number (Lib.decDigits u) = (u : Int) := by
  unfold number
  rw [if_pos (dec_short.2 h), decFrom_dec]
  simp
theorem number_in {l : List UInt8} (h : 0 ≤ number l) : ∃ u : Nat, u < 1000000 ∧ number l = (u : Int) ∧ l = Lib.decDigits u := by
  unfold number at h ⊢
  by_cases h1 : l.length ≤ 6
  · rw [if_pos h1] at h ⊢
    cases h2 : Lib.decFrom 0 l with
    | none => rw [h2] at h; simp at h
    | some n =>
      rw [h2] at h
      simp only at h ⊢
      by_cases h3 : Lib.decDigits n = l
      · rw [if_pos h3]
        exact ⟨n, dec_short.1 (by rw [h3]; exact h1), rfl, h3.symm⟩
      · rw [if_neg h3] at h; simp at h
  · rw [if_neg h1] at h; simp at h
/-! Words -/
def wordsL : List UInt8 → List (List UInt8)
  | [] => [[]]
  | c :: l => if c = 32 then [] :: wordsL l else match wordsL l with
    | w :: r => (c :: w) :: r
    | [] => [[c]]
def pre (x : List UInt8) : List (List UInt8) → List (List UInt8)
  | w :: r => (x ++ w) :: r
  | [] => [x]
theorem wordsL_ne (l : List UInt8) : ∃ w r, wordsL l = w :: r := by
  cases l with
  | nil => exact ⟨[], [], rfl⟩
  | cons c l =>
    unfold wordsL
    split
    · exact ⟨_, _, rfl⟩
    · split
      · exact ⟨_, _, rfl⟩
      · exact ⟨_, _, rfl⟩
theorem wordsL_sp (l : List UInt8) : wordsL (32 :: l) = [] :: wordsL l := by rw [wordsL, if_pos rfl]
theorem wordsL_no {c : UInt8} (h : c ≠ 32) (l : List UInt8) : wordsL (c :: l) = pre [c] (wordsL l) := by
  obtain ⟨w, r, e⟩ := wordsL_ne l
  rw [wordsL, if_neg h, e]; rfl
/-- One byte more, as the document cuts a line. -/
def wstep (acc : List (List UInt8)) (c : UInt8) : List (List UInt8) := if c = 32 then acc ++ [[]] else acc.dropLast ++ [acc.getLast?.getD [] ++ [c]]
theorem fold_words : ∀ (l : List UInt8) (acc : List (List UInt8)) (x : List UInt8), l.foldl wstep (acc ++ [x]) = acc ++ pre x (wordsL l)
  | [], acc, x => by simp [wordsL, pre]
  | c :: l, acc, x => by
    rw [List.foldl_cons]
    by_cases h : c = 32
    · subst h
      have e : wstep (acc ++ [x]) 32 = (acc ++ [x]) ++ [[]] := if_pos rfl
      rw [e, fold_words l, wordsL_sp]
      obtain ⟨w, r, e2⟩ := wordsL_ne l
      rw [e2]; simp [pre]
    · have e : wstep (acc ++ [x]) c = acc ++ [x ++ [c]] := by unfold wstep; rw [if_neg h]; simp
      rw [e, fold_words l, wordsL_no h]
      obtain ⟨w, r, e2⟩ := wordsL_ne l
      rw [e2]; simp [pre]
theorem fold_words0 (l : List UInt8) : l.foldl wstep [[]] = wordsL l := by
  have := fold_words l [] []
  rw [List.nil_append] at this
  rw [this]
  obtain ⟨w, r, e⟩ := wordsL_ne l
  rw [e]; rfl
theorem wordsL_app : ∀ (x l : List UInt8), (∀ b ∈ x, b ≠ 32) → wordsL (x ++ l) = pre x (wordsL l)
  | [], l, _ => by obtain ⟨w, r, e⟩ := wordsL_ne l; rw [List.nil_append, e]; rfl
  | c :: x, l, h => by
    rw [List.cons_append, wordsL_no (h c List.mem_cons_self), wordsL_app x l fun b hb => h b (List.mem_cons_of_mem _ hb)]
    obtain ⟨w, r, e⟩ := wordsL_ne l
    rw [e]; rfl
theorem wordsL_one {x : List UInt8} (h : ∀ b ∈ x, b ≠ 32) : wordsL x = [x] := by
  have := wordsL_app x [] h
  rw [List.append_nil] at this
  rw [this]; simp [wordsL, pre]
theorem wordsL_cut {x : List UInt8} (h : ∀ b ∈ x, b ≠ 32) (l : List UInt8) : wordsL (x ++ 32 :: l) = x :: wordsL l := by
  rw [wordsL_app x _ h, wordsL_sp]; simp [pre]
theorem join_two (x y : List UInt8) (r : List (List UInt8)) : Lib.join (x :: y :: r) [32] = x ++ 32 :: Lib.join (y :: r) [32] := by
  rw [Lib.join_cons, Lib.join_cons]; simp [Lib.joinTail]
theorem wordsL_join : ∀ (xs : List (List UInt8)), xs ≠ [] → (∀ x ∈ xs, ∀ b ∈ x, b ≠ 32) → wordsL (Lib.join xs [32]) = xs
  | [], h, _ => absurd rfl h
  | [x], _, h => by rw [Lib.join_one]; exact wordsL_one (h x List.mem_cons_self)
  | x :: y :: r, _, h => by
    rw [join_two, wordsL_cut (h x List.mem_cons_self), wordsL_join (y :: r) (by simp) fun z hz => h z (List.mem_cons_of_mem _ hz)]
theorem join_pre (c : UInt8) (w : List UInt8) (r : List (List UInt8)) : Lib.join ((c :: w) :: r) [32] = c :: Lib.join (w :: r) [32] := by
  rw [Lib.join_cons, Lib.join_cons]; rfl
theorem join_words : ∀ l : List UInt8, Lib.join (wordsL l) [32] = l
  | [] => rfl
  | c :: l => by
    have ih := join_words l
    obtain ⟨w, r, e⟩ := wordsL_ne l
    by_cases h : c = 32
    · subst h
      rw [wordsL_sp, e, join_two, ← e, ih]; rfl
    · rw [wordsL_no h, e]
      show Lib.join ((c :: w) :: r) [32] = c :: l
      rw [join_pre, ← e, ih]
theorem cut_first : ∀ s : List UInt8, (∀ b ∈ s, b ≠ 32) ∨ ∃ l r, s = l ++ 32 :: r ∧ ∀ b ∈ l, b ≠ 32
  | [] => .inl fun b hb => by cases hb
  | c :: s => by
    by_cases h : c = 32
    · exact .inr ⟨[], s, by rw [h]; rfl, fun b hb => by cases hb⟩
    · rcases cut_first s with h1 | ⟨l, r, h1, h2⟩
      · exact .inl fun b hb => by
          rcases List.mem_cons.1 hb with rfl | h3
          · exact h
          · exact h1 b h3
      · exact .inr ⟨c :: l, r, by rw [h1]; rfl, fun b hb => by
          rcases List.mem_cons.1 hb with rfl | h3
          · exact h
          · exact h2 b h3⟩
theorem words_data : ∀ (n : Nat) (s : ByteArray), s.size ≤ n → (words s).map (·.data.toList) = wordsL s.data.toList := fun n => by
  induction n with
  | zero =>
    intro s hs
    have h0 : s.data.toList = [] := by
      have : s.data.toList.length = s.size := by rw [Array.length_toList]; rfl
      exact List.length_eq_zero_iff.1 (by omega)
    have hm : Lib.indexB s sp = -1 := by
      show Lib.index s.data.toList sp.data.toList = -1
      rw [h0]; rfl
    unfold words
    rw [Lib.splitB_miss _ _ _ _ hm, List.map_singleton, h0]; rfl
  | succ n ih =>
    intro s hs
    rcases cut_first s.data.toList with h | ⟨l, r, h1, h2⟩
    · have hm : Lib.indexB s sp = -1 := Lab.index_no 32 _ h
      unfold words
      rw [Lib.splitB_miss _ _ _ _ hm, List.map_singleton, wordsL_one h]
    · have hi : Lib.indexB s sp = (l.length : Int) := by
        show Lib.index s.data.toList sp.data.toList = _
        rw [h1]; exact Lab.index_at 32 l r h2
      have hsz : s.data.toList.length = s.size := by rw [Array.length_toList]; rfl
      rw [h1] at hsz
      have hc := Lib.countB_hit s sp l.length (by decide) hi
      have e : words s = s.extract 0 l.length :: words (s.extract (l.length + 1) s.size) := by
        unfold words
        rw [hc, Nat.add_comm 1, Lib.splitB_hit _ _ _ _ _ hi]; rfl
      have e1 : (s.extract 0 l.length).data.toList = l := by rw [Lib.extract_from_zero, h1]; simp
      have e2 : (s.extract (l.length + 1) s.size).data.toList = r := by
        rw [Lib.extract_to_end, h1]; simp
      rw [e, List.map_cons, e1, ih _ (by
        have : (s.extract (l.length + 1) s.size).data.toList.length = (s.extract (l.length + 1) s.size).size := by rw [Array.length_toList]; rfl
        rw [e2] at this
        simp at hsz; omega), e2, h1, wordsL_cut h2]
theorem words_is (s : ByteArray) : (words s).map (·.data.toList) = wordsL s.data.toList := words_data s.size s (Nat.le_refl _)
/-! Data -/
theorem hexd_in : ∀ n : Fin 16, hexd n.val ≠ 32 ∧ hexd n.val ≠ 45 := by decide
theorem hexl_no (l : List UInt8) : ∀ b ∈ hexl l, b ≠ 32 ∧ b ≠ 45 := fun b hb => by
  obtain ⟨c, _, hc⟩ := List.mem_flatMap.1 hb
  have h1 := UInt8.toNat_lt c
  simp only [List.mem_cons, List.not_mem_nil, or_false] at hc
  rcases hc with rfl | rfl
  · exact hexd_in ⟨c.toNat / 16, by omega⟩
  · exact hexd_in ⟨c.toNat % 16, by omega⟩
theorem hex_no (l : List UInt8) : ∀ b ∈ hex l, b ≠ 32 := fun b hb => by
  unfold hex at hb
  split at hb
  · simp at hb; rw [hb]; decide
  · exact (hexl_no l b hb).1
theorem hex_inj {l m : List UInt8} (h : hex l = hex m) : l = m := by rw [← unhex_hex l, h, unhex_hex]
theorem hexl_one (c : UInt8) : hexl [c] = [hexd (c.toNat / 16), hexd (c.toNat % 16)] := rfl
/-- The bytes whose digits two bytes are. -/
def rpair (x y : UInt8) (k : Nat) : List UInt8 := ((List.range k).filter fun n => hexl [n.toUInt8] = [x, y]).map Nat.toUInt8
def rpairs : List UInt8 → List UInt8
  | x :: y :: r => rpair x y 256 ++ rpairs r
  | _ => []
theorem rpair_succ (x y : UInt8) (k : Nat) : rpair x y (k + 1) = rpair x y k ++ if hexl [k.toUInt8] = [x, y] then [k.toUInt8] else [] := by
  unfold rpair
  rw [List.range_succ, List.filter_append, List.map_append]
  congr 1
  by_cases h : hexl [k.toUInt8] = [x, y]
  · simp [h]
  · simp [h]
theorem rpair_of {x y : UInt8} (c : Fin 256) (h : hexl [c.val.toUInt8] = [x, y]) : ∀ k, k ≤ 256 → rpair x y k = if c.val < k then [c.val.toUInt8] else []
  | 0, _ => rfl
  | k + 1, hk => by
    rw [rpair_succ, rpair_of c h k (by omega)]
    have hck : hexl [k.toUInt8] = [x, y] ↔ k = c.val := by
      constructor
      · intro h1
        have := hexl_inj (h1.trans h.symm)
        have h2 : k.toUInt8 = c.val.toUInt8 := by simpa using this
        have h3 := congrArg UInt8.toNat h2
        have h4 := c.isLt
        simp at h3
        omega
      · rintro rfl; exact h
    by_cases h1 : k = c.val
    · rw [if_neg (by omega), if_pos (hck.2 h1), if_pos (by omega), h1]; rfl
    · rw [if_neg (fun h2 => h1 (hck.1 h2)), List.append_nil]
      by_cases h2 : c.val < k
      · rw [if_pos h2, if_pos (by omega)]
      · rw [if_neg h2, if_neg (by omega)]
theorem rpairs_hexl : ∀ d : List UInt8, rpairs (hexl d) = d
  | [] => rfl
  | c :: d => by
    show rpairs (hexd (c.toNat / 16) :: hexd (c.toNat % 16) :: hexl d) = c :: d
    unfold rpairs
    have hc : c.toNat.toUInt8 = c := by simp
    rw [rpairs_hexl d, rpair_of ⟨c.toNat, UInt8.toNat_lt c⟩ (by simp only [hc]; rfl) 256 (Nat.le_refl _), if_pos (UInt8.toNat_lt c)]
    simp
theorem hexl_take : ∀ (k : Nat) (d : List UInt8), (hexl d).take (2 * k) = hexl (d.take k)
  | 0, d => by simp [hexl]
  | k + 1, [] => rfl
  | k + 1, c :: d => by
    have ih := hexl_take k d
    show (hexd (c.toNat / 16) :: hexd (c.toNat % 16) :: hexl d).take (2 * (k + 1)) = hexd (c.toNat / 16) :: hexd (c.toNat % 16) :: hexl (d.take k)
    rw [show 2 * (k + 1) = 2 * k + 1 + 1 by omega, List.take_succ_cons, List.take_succ_cons, ih]
/-- The bytes of digits, as the document reads them. -/
def rdata (w : List UInt8) : Option (List UInt8) := if w = [45] then some [] else if rpairs (w.take 510) ≠ [] ∧ hexl (rpairs (w.take 510)) = w then some (rpairs (w.take 510)) else none
theorem rdata_hex {d : List UInt8} (h : d.length ≤ 255) : rdata (hex d) = some d := by
  unfold rdata hex
  by_cases h0 : d = []
  · rw [if_pos h0, if_pos rfl, h0]
  · have e : (hexl d).take 510 = hexl d := List.take_of_length_le (by rw [hexl_len]; omega)
    rw [if_neg h0, if_neg (hexl_no45 d), e, rpairs_hexl, if_pos ⟨h0, rfl⟩]
theorem rdata_in {w d : List UInt8} (h : rdata w = some d) : w = hex d ∧ d.length ≤ 255 := by
  unfold rdata at h
  split at h
  · rename_i h1
    obtain rfl := Option.some.inj h
    exact ⟨by rw [h1]; rfl, by simp⟩
  · split at h
    · rename_i h1 h2
      obtain ⟨h3, h4⟩ := h2
      have h5 := Option.some.inj h
      rw [h5] at h3 h4
      refine ⟨by rw [hex_ne h3, h4], ?_⟩
      have h6 : w.take 510 = hexl (d.take 255) := by rw [← h4]; exact hexl_take 255 d
      rw [h6, rpairs_hexl] at h5
      have := congrArg List.length h5
      rw [List.length_take] at this
      omega
    · cases h
/-! Entries -/
/-- The entries that have lines which are read. -/
def can (e : E) : Prop := (0 ≤ e.1 ∧ e.1 < 1000000) ∧ (Idn.fine e.2.1 = true ∧ Lab.ok e.2.1.1) ∧ Lab.ok e.2.2.1 ∧ (0 ≤ e.2.2.2.1 ∧ e.2.2.2.1 < 1000000) ∧ e.2.2.2.2.size ≤ 255
theorem itoa_no (n : Int) (h : 0 ≤ n) : ∀ b ∈ Lib.itoa n, b ≠ 32 := fun b hb => by
  obtain ⟨u, rfl⟩ : ∃ u : Nat, n = (u : Int) := ⟨n.toNat, by omega⟩
  rw [itoa_nat] at hb
  have := dec_digit u b hb
  intro e; rw [e] at this; revert this; decide
theorem labtext_no (a : Lab.L) : ∀ b ∈ Lab.text a, b ≠ 32 := fun b hb => by
  unfold Lab.text at hb
  rcases List.mem_append.1 hb with h | h
  · exact (Lab.text_no a.1 b h).2.2
  · rcases List.mem_cons.1 h with rfl | h
    · decide
    · exact (Lab.text_no a.2 b h).2.2
theorem idtext_no (x : Idn.I) (h : Idn.fine x = true) : ∀ b ∈ Idn.text x, b ≠ 32 := fun b hb => by
  rw [Idn.text_fine h] at hb
  obtain ⟨h1, h2, h3, h4⟩ := Idn.fine_iff.1 h
  rcases List.mem_cons.1 hb with rfl | hb
  · unfold Idn.letter; split <;> (try split) <;> decide
  · rcases List.mem_append.1 hb with hb | hb
    · exact labtext_no _ b hb
    · simp only [List.mem_cons, List.not_mem_nil, or_false] at hb
      rcases hb with rfl | rfl
      · decide
      · have : x.2.2 = 0 ∨ x.2.2 = 1 ∨ x.2.2 = 2 ∨ x.2.2 = 3 := by omega
        rcases this with e | e | e | e <;> rw [e] <;> decide
theorem words5_no {e : E} (h1 : 0 ≤ e.1) (h2 : Idn.fine e.2.1 = true) (h3 : 0 ≤ e.2.2.2.1) : ∀ x ∈ words5 e, ∀ b ∈ x, b ≠ 32 := fun x hx => by
  unfold words5 at hx
  simp only [List.mem_cons, List.not_mem_nil, or_false] at hx
  rcases hx with rfl | rfl | rfl | rfl | rfl
  · exact itoa_no _ h1
  · exact idtext_no _ h2
  · exact labtext_no _
  · exact itoa_no _ h3
  · exact hex_no _
theorem line_words {e : E} (h1 : 0 ≤ e.1) (h2 : Idn.fine e.2.1 = true) (h3 : 0 ≤ e.2.2.2.1) : wordsL (line e) = words5 e := wordsL_join _ (by simp [words5]) (words5_no h1 h2 h3)
theorem itoa_inj {m n : Int} (hm : 0 ≤ m) (hn : 0 ≤ n) (h : Lib.itoa m = Lib.itoa n) : m = n := by
  obtain ⟨u, rfl⟩ : ∃ u : Nat, m = (u : Int) := ⟨m.toNat, by omega⟩
  obtain ⟨v, rfl⟩ : ∃ v : Nat, n = (v : Int) := ⟨n.toNat, by omega⟩
  rw [itoa_nat, itoa_nat] at h
  rw [dec_inj h]
theorem words5_inj {e f : E} (e1 : 0 ≤ e.1) (e2 : Idn.fine e.2.1 = true ∧ Lab.ok e.2.1.1) (e3 : Lab.ok e.2.2.1) (e4 : 0 ≤ e.2.2.2.1) (f1 : 0 ≤ f.1) (f2 : Idn.fine f.2.1 = true ∧ Lab.ok f.2.1.1) (f3 : Lab.ok f.2.2.1) (f4 : 0 ≤ f.2.2.2.1) (h : words5 e = words5 f) : e = f := by
  obtain ⟨a, b, c, d, x⟩ := e
  obtain ⟨a', b', c', d', x'⟩ := f
  simp only [words5, List.cons.injEq, and_true] at h
  obtain ⟨h1, h2, h3, h4, h5⟩ := h
  have g1 := itoa_inj e1 f1 h1
  have g2 := (Idn.text_inj e2.2 f2.2 e2.1 f2.1).1 h2
  have g3 := Lab.text_inj e3 f3 h3
  have g4 := itoa_inj e4 f4 h4
  have g5 := Tag.bytes_ext (hex_inj h5)
  simp only at g1 g2 g3 g4 g5
  rw [g1, g2, g3, g4, g5]
/-- What the document reads out of a line. -/
def rcand (l : List (List UInt8)) : Option E := match l with
  | [a, b, c, d, e] => match rdata e with
    | some x => if 0 ≤ number a ∧ 0 ≤ number d ∧ (Idn.parse b).2 = 0 ∧ (Lab.parse c).2 = 0 then some (number a, (Idn.parse b).1, (Lab.parse c).1, number d, ⟨x.toArray⟩) else none
    | none => none
  | _ => none
def rparse (s : List UInt8) : Option E := rcand (wordsL s)
theorem cut_c (k : UInt8) : ∀ s : List UInt8, (∀ b ∈ s, b ≠ k) ∨ ∃ l r, s = l ++ k :: r ∧ ∀ b ∈ l, b ≠ k
  | [] => .inl fun b hb => by cases hb
  | c :: s => by
    by_cases h : c = k
    · exact .inr ⟨[], s, by rw [h]; rfl, fun b hb => by cases hb⟩
    · rcases cut_c k s with h1 | ⟨l, r, h1, h2⟩
      · exact .inl fun b hb => by
          rcases List.mem_cons.1 hb with rfl | h3
          · exact h
          · exact h1 b h3
      · exact .inr ⟨c :: l, r, by rw [h1]; rfl, fun b hb => by
          rcases List.mem_cons.1 hb with rfl | h3
          · exact h
          · exact h2 b h3⟩
theorem tag_sound {s : List UInt8} {x : Nat} (h : Tag.rparse s = some x) : s = Tag.text x := by
  unfold Tag.rparse at h
  split at h
  · rename_i h1
    obtain rfl := Option.some.inj h
    rw [h1]; rfl
  · obtain ⟨l, h1, h2, h3, h4⟩ := Tag.rp_sound 16 0 s 0 x rfl (by decide) h
    rw [Tag.tags_zero, List.nil_append] at h2
    have hx0 : x ≠ 0 := fun e => by subst e; rw [Tag.tags_zero] at h2; exact h1 h2.symm
    unfold Tag.text
    rw [if_neg hx0, h2, h3]
theorem lab_sound {s : List UInt8} {a : Lab.L} (h : Lab.rparse s = some a) : s = Lab.text a := by
  unfold Lab.rparse at h
  rcases cut_c 47 s with h1 | ⟨l, r, h1, h2⟩
  · rw [Lab.cut_no 47 s h1] at h; simp at h
  · rw [h1, Lab.cut_at 47 l r h2] at h
    simp only [if_true] at h
    cases hx : Tag.rparse l with
    | none => rw [hx] at h; simp at h
    | some x =>
      cases hy : Tag.rparse r with
      | none => rw [hx, hy] at h; simp at h
      | some y =>
        rw [hx, hy] at h
        obtain rfl := Option.some.inj h
        rw [h1, tag_sound hx, tag_sound hy]; rfl
theorem labparse_in {c : List UInt8} (h : (Lab.parse c).2 = 0) : Lab.ok (Lab.parse c).1 ∧ c = Lab.text (Lab.parse c).1 := by
  refine ⟨Lab.parse_lt c, ?_⟩
  unfold Lab.parse at h ⊢
  cases hr : Lab.rparse c with
  | none => rw [hr] at h; simp at h
  | some a => exact lab_sound hr
theorem len_data (s : ByteArray) : s.data.toList.length = s.size := by rw [Array.length_toList]; rfl
theorem hex_len (d : List UInt8) : (hex d).length ≤ 510 ↔ d.length ≤ 255 := by
  unfold hex
  split
  · rename_i h; rw [h]; simp
  · rw [hexl_len]; omega
theorem cand_in {s : ByteArray} {x : E} (h : cand s = some x) : ∃ a b c d e, words s = [a, b, c, d, e] ∧ (a.size ≤ 6 ∧ d.size ≤ 6 ∧ e.size ≤ 510) ∧ (0 ≤ x.1 ∧ Idn.fine x.2.1 = true ∧ Lab.ok x.2.1.1 ∧ Lab.ok x.2.2.1 ∧ 0 ≤ x.2.2.2.1) := by
  unfold cand at h
  split at h
  · rename_i a b c d e hw
    refine ⟨a, b, c, d, e, hw, ?_⟩
    unfold cand5 at h
    split at h
    · rename_i hz
      refine ⟨hz, ?_⟩
      split at h
      · split at h
        · rename_i u v _ _ h4
          obtain ⟨h5, h6, h7, h8⟩ := h4
          obtain rfl := Option.some.inj h
          obtain ⟨_, g2, g3⟩ := Idn.parse_fine h5
          exact ⟨h7, g2, g3, (labparse_in h6).1, h8⟩
        · cases h
      · cases h
    · cases h
  · cases h
theorem parse_can {s : ByteArray} (h : (parse s).2 = 0) : can (parse s).1 ∧ s.data.toList = line (parse s).1 := by
  unfold parse at h ⊢
  cases hc : cand s with
  | none => rw [hc] at h; simp [fin] at h
  | some x =>
    rw [hc] at h
    unfold fin at h ⊢
    by_cases hl : line x = s.data.toList
    · simp only
      rw [if_pos hl]
      obtain ⟨a, b, c, d, e, hw, ⟨z1, z2, z3⟩, y1, y2, y3, y4, y5⟩ := cand_in hc
      have h1 := words_is s
      rw [hw, ← hl, line_words y1 y2 y5] at h1
      simp only [words5, List.map_cons, List.map_nil, List.cons.injEq, and_true] at h1
      obtain ⟨g1, g2, g3, g4, g5⟩ := h1
      have k1 : x.1 < 1000000 := by
        obtain ⟨u, hu⟩ : ∃ u : Nat, x.1 = (u : Int) := ⟨x.1.toNat, by omega⟩
        rw [hu, itoa_nat] at g1
        have := dec_short.1 (by rw [← g1, len_data]; exact z1)
        omega
      have k2 : x.2.2.2.1 < 1000000 := by
        obtain ⟨u, hu⟩ : ∃ u : Nat, x.2.2.2.1 = (u : Int) := ⟨x.2.2.2.1.toNat, by omega⟩
        rw [hu, itoa_nat] at g4
        have := dec_short.1 (by rw [← g4, len_data]; exact z2)
        omega
      have k3 : x.2.2.2.2.size ≤ 255 := by
        have := (hex_len x.2.2.2.2.data.toList).1 (by rw [← g5, len_data]; exact z3)
        rw [len_data] at this; exact this
      exact ⟨⟨⟨y1, k1⟩, ⟨y2, y3⟩, y4, ⟨y5, k2⟩, k3⟩, hl.symm⟩
    · simp only at h
      rw [if_neg hl] at h; simp at h
theorem words_of {s : ByteArray} {e : E} (h1 : 0 ≤ e.1) (h2 : Idn.fine e.2.1 = true) (h3 : 0 ≤ e.2.2.2.1) (h : s.data.toList = line e) : words s = (words5 e).map fun l => ⟨l.toArray⟩ := by
  have h4 := words_is s
  rw [h, line_words h1 h2 h3] at h4
  rw [← h4, List.map_map]
  have : ((fun l : List UInt8 => (⟨l.toArray⟩ : ByteArray)) ∘ fun x : ByteArray => x.data.toList) = id := by
    funext x; exact Tag.bytes_ext (by simp)
  rw [this, List.map_id]
theorem parse_line {e : E} (h : can e) {s : ByteArray} (hs : s.data.toList = line e) : parse s = (e, 0) := by
  obtain ⟨⟨a0, a1⟩, ⟨b0, b1⟩, c0, ⟨d0, d1⟩, e1⟩ := h
  have hw := words_of a0 b0 d0 hs
  have hc : cand s = some e := by
    unfold cand
    rw [hw]
    obtain ⟨at', who, lb, er, da⟩ := e
    simp only at a0 a1 b0 b1 c0 d0 d1 e1
    obtain ⟨u, rfl⟩ : ∃ u : Nat, at' = (u : Int) := ⟨at'.toNat, by omega⟩
    obtain ⟨v, rfl⟩ : ∃ v : Nat, er = (v : Int) := ⟨er.toNat, by omega⟩
    simp only [words5, List.map_cons, List.map_nil]
    unfold cand5
    have z1 : (⟨(Lib.itoa (u : Int)).toArray⟩ : ByteArray).size ≤ 6 := by
      rw [itoa_nat]; show (Lib.decDigits u).toArray.size ≤ 6
      rw [List.size_toArray]; exact dec_short.2 (by omega)
    have z2 : (⟨(Lib.itoa (v : Int)).toArray⟩ : ByteArray).size ≤ 6 := by
      rw [itoa_nat]; show (Lib.decDigits v).toArray.size ≤ 6
      rw [List.size_toArray]; exact dec_short.2 (by omega)
    have z3 : (⟨(hex da.data.toList).toArray⟩ : ByteArray).size ≤ 510 := by
      show (hex da.data.toList).toArray.size ≤ 510
      rw [List.size_toArray]; exact (hex_len _).2 (by rw [len_data]; exact e1)
    rw [if_pos ⟨z1, z2, z3⟩]
    simp only [List.toList_toArray]
    rw [itoa_nat, itoa_nat, atoiAll_dec (by omega), atoiAll_dec (by omega), Idn.parse_text b1 b0, Lab.parse_text lb c0, unhex_hex]
    simp only
    rw [if_pos ⟨trivial, trivial, by omega, by omega⟩]
  unfold parse
  rw [hc]
  unfold fin
  simp only
  rw [if_pos hs.symm]
theorem rcand_in {l : List (List UInt8)} {x : E} (h : rcand l = some x) : can x ∧ l = words5 x := by
  unfold rcand at h
  split at h
  · rename_i a b c d e
    split at h
    · rename_i y hy
      split at h
      · rename_i h1
        obtain ⟨n1, n2, n3, n4⟩ := h1
        obtain rfl := Option.some.inj h
        obtain ⟨u, u1, u2, u3⟩ := number_in n1
        obtain ⟨v, v1, v2, v3⟩ := number_in n2
        obtain ⟨g1, g2, g3⟩ := Idn.parse_fine n3
        obtain ⟨k1, k2⟩ := labparse_in n4
        obtain ⟨m1, m2⟩ := rdata_in hy
        refine ⟨⟨⟨n1, by simp only; omega⟩, ⟨g2, g3⟩, k1, ⟨n2, by simp only; omega⟩, by show y.toArray.size ≤ 255; rw [List.size_toArray]; exact m2⟩, ?_⟩
        simp only [words5]
        rw [g1, ← k2, u2, v2, itoa_nat, itoa_nat, ← u3, ← v3, ← m1]
      · cases h
    · cases h
  · cases h
theorem rparse_is (s : ByteArray) : rparse s.data.toList = if (parse s).2 = 0 then some (parse s).1 else none := by
  by_cases h : (parse s).2 = 0
  · rw [if_pos h]
    obtain ⟨hc, hl⟩ := parse_can h
    generalize (parse s).1 = e at hc hl
    obtain ⟨⟨a0, a1⟩, ⟨b0, b1⟩, c0, ⟨d0, d1⟩, e1⟩ := hc
    unfold rparse
    rw [hl, line_words a0 b0 d0]
    obtain ⟨at', who, lb, er, da⟩ := e
    simp only at a0 a1 b0 b1 c0 d0 d1 e1
    obtain ⟨u, rfl⟩ : ∃ u : Nat, at' = (u : Int) := ⟨at'.toNat, by omega⟩
    obtain ⟨v, rfl⟩ : ∃ v : Nat, er = (v : Int) := ⟨er.toNat, by omega⟩
    simp only [words5]
    unfold rcand
    simp only
    rw [rdata_hex (by rw [len_data]; exact e1), itoa_nat, itoa_nat, number_dec (by omega), number_dec (by omega), Idn.parse_text b1 b0, Lab.parse_text lb c0]
    simp only
    rw [if_pos ⟨by omega, by omega, trivial, trivial⟩]
  · rw [if_neg h]
    cases hr : rparse s.data.toList with
    | none => rfl
    | some e =>
      exfalso
      obtain ⟨hc, hw⟩ := rcand_in hr
      have hl : s.data.toList = line e := by rw [← join_words s.data.toList, hw]; rfl
      rw [parse_line hc hl] at h
      exact h rfl
theorem parse_e (s : ByteArray) : (parse s).2 = 0 ∨ parse s = (zero, 3) := by
  unfold parse fin
  split
  · split
    · exact .inl rfl
    · exact .inr rfl
  · exact .inr rfl
/-- Which lines are read again. -/
theorem reads {e : E} (h1 : 0 ≤ e.1) (h2 : Idn.fine e.2.1 = true ∧ Lab.ok e.2.1.1) (h3 : Lab.ok e.2.2.1) (h4 : 0 ≤ e.2.2.2.1) {s : ByteArray} (hs : s.data.toList = line e) :
    parse s = if e.1 < 1000000 ∧ e.2.2.2.1 < 1000000 ∧ e.2.2.2.2.size < 256 then (e, 0) else (zero, 3) := by
  by_cases h : e.1 < 1000000 ∧ e.2.2.2.1 < 1000000 ∧ e.2.2.2.2.size < 256
  · rw [if_pos h]
    exact parse_line ⟨⟨h1, h.1⟩, h2, h3, ⟨h4, h.2.1⟩, by omega⟩ hs
  · rw [if_neg h]
    rcases parse_e s with h5 | h5
    · exfalso
      obtain ⟨hc, hl⟩ := parse_can h5
      generalize (parse s).1 = f at hc hl
      obtain ⟨⟨a0, a1⟩, b, c0, ⟨d0, d1⟩, e1⟩ := hc
      have hw := line_words a0 b.1 d0
      rw [← hl, hs, line_words h1 h2.1 h4] at hw
      have := words5_inj h1 h2 h3 h4 a0 b c0 d0 hw
      subst this
      exact h ⟨a1, d1, by omega⟩
    · exact h5
/-! Entries that are seen -/
end Tr
end Go.Proofs.YtlmacaenbililaaGreatDoor
