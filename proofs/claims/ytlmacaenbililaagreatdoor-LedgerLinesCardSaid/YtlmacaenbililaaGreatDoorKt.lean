/- Package trace: Line: what it returns. Package trace: Parse: what it returns. No conditions. -/
import Derived.Test.YtlmacaenbililaaGreatDoorTrhex
import Derived.Test.YtlmacaenbililaaGreatDoorShc
import Derived.Lib.ItoaLen
import Derived.Test.YtlmacaenbililaaGreatDoorTrunhex
import Derived.Test.YtlmacaenbililaaGreatDoorIparse
import Derived.Lib.AtoiAllCases
namespace Go.Proofs.YtlmacaenbililaaGreatDoor
open Go.RowKit Go.Shelf
set_option linter.unusedSimpArgs false
set_option linter.unusedVariables false
attribute [local go_sem] cell_over frozen_over

theorem itoa_ok (n : Int) (h0 : -9223372036854775808 ≤ n) (h1 : n ≤ 9223372036854775807) (w : World) (hW : PowAt w) : Calls Tryz.prog 79 #[.int .i64 n] w fun e w' => e = .returned (.string ⟨(Lib.itoa n).toArray⟩) ∧ Below w.heap.size w w' :=
  (Tryz.strconv_Itoa n h0 h1 w (hW w (Below.refl _ _))).mono fun e w' ⟨h1, k, os, h2⟩ => ⟨h1, by
    rw [h2]
    exact ⟨rfl, rfl, rfl, (by show w.heap.size ≤ ((w.drewN k).heap ++ os).size; rw [Array.size_append]; exact Nat.le_add_right _ _), fun i hi => by
      show ((w.drewN k).heap ++ os)[i]? = _
      rw [Array.getElem?_append_left (by show i < w.heap.size; omega)]
      rfl⟩⟩
namespace Tr
def ok (e : E) : Prop := (-9223372036854775808 ≤ e.1 ∧ e.1 ≤ 9223372036854775807) ∧ Lab.ok e.2.1.1 ∧ Lab.ok e.2.2.1 ∧ (-9223372036854775808 ≤ e.2.2.2.1 ∧ e.2.2.2.1 ≤ 9223372036854775807)
end Tr
theorem idtext_len (x : Idn.I) : (Idn.text x).length ≤ 102 := by
  unfold Idn.text
  split
  · have := labtext_size x.1
    have e : (Lab.text x.1).length ≤ 99 := by simpa [ByteArray.size] using this
    simp; omega
  · simp
theorem join5_len (a b c d e : List UInt8) : (Lib.join [a, b, c, d, e] [32]).length = a.length + b.length + c.length + d.length + e.length + 4 := by
  simp [Lib.join, List.intercalate]; omega
theorem cells5_str (w : World) (t : TypeId) (xs : List ByteArray) (a b c d e : ByteArray) (h : xs = [a, b, c, d, e]) : ∀ (j : Nat) x, xs[j]? = some x → (w.alloc (.cells #[.string a, .string b, .string c, .string d, .string e] t)).cell? ⟨w.heap.size, 0 + j, none⟩ = some (.string x) := by
  subst h
  intro j x hj
  rw [cell_of_row _ _ _ _ _ _ (heap_alloc_new w _), Nat.zero_add]
  match j, hj with
  | 0, hj => simp at hj; subst hj; rfl
  | 1, hj => simp at hj; subst hj; rfl
  | 2, hj => simp at hj; subst hj; rfl
  | 3, hj => simp at hj; subst hj; rfl
  | 4, hj => simp at hj; subst hj; rfl
end Go.Proofs.YtlmacaenbililaaGreatDoor
namespace Go.Proofs.YtlmacaenbililaaGreatDoor
open Go.RowKit Go.Shelf
set_option linter.unusedSimpArgs false
set_option linter.unusedVariables false
attribute [local go_sem] cell_over frozen_over

namespace Tr
def sp : ByteArray := ⟨#[32]⟩
def words (s : ByteArray) : List ByteArray := Lib.splitB sp 0 (Lib.countB s sp) s
def cand5 (a b c d e : ByteArray) : Option E :=
  if a.size ≤ 6 ∧ d.size ≤ 6 ∧ e.size ≤ 510 then
    match Lib.atoiAll a.data.toList, Lib.atoiAll d.data.toList with
    | .ok x, .ok y => if (Idn.parse b.data.toList).2 = 0 ∧ (Lab.parse c.data.toList).2 = 0 ∧ 0 ≤ x ∧ 0 ≤ y then some (x, (Idn.parse b.data.toList).1, (Lab.parse c.data.toList).1, y, ⟨(unhex e.data.toList).toArray⟩) else none
    | _, _ => none
  else none
def cand (s : ByteArray) : Option E := match words s with
  | [a, b, c, d, e] => cand5 a b c d e
  | _ => none
def fin (s : ByteArray) : Option E → E × Int
  | some x => if line x = s.data.toList then (x, 0) else (zero, 3)
  | none => (zero, 3)
def parse (s : ByteArray) : E × Int := fin s (cand s)
theorem words_len (s : ByteArray) : (words s).length = Lib.countB s sp + 1 := Lib.splitB_all sp (by decide) 0 _ s rfl
theorem words_size (s : ByteArray) : ∀ p ∈ words s, p.size ≤ s.size := fun p hp => Tag.splitB_size sp _ s p hp
end Tr
theorem words_ok (s : ByteArray) (hs : s.size ≤ 1000000) (w : World) (hL : LaidAt w) : Calls Tryz.prog 75 #[.string s, .string ⟨#[32]⟩] w fun e w' => ∃ b, e = .returned (.slice (some ⟨b, 0, none⟩) (Tr.words s).length (Tr.words s).length) ∧ w'.heap[b]? = some (.cells ((Tr.words s).map Value.string).toArray 9 (0, 0)) ∧ Below w.heap.size w w' := by
  obtain ⟨m, hm⟩ := hL.max
  exact (Tryz.strings_Split s Tr.sp m w (by omega) hm (by decide)).mono fun e w' ⟨h1, h2⟩ => ⟨w.heap.size, by rw [h1, Tr.words_len], by rw [h2]; exact heap_alloc_new _ _, by rw [h2]; exact below_fresh _ _⟩
theorem set_nine (W : World) (b : Nat) (t : TypeId) (x0 x1 x2 x3 x4 x5 x6 x7 x8 y0 y1 y2 y3 y4 y5 y6 y7 y8 : Value) (h : W.heap[b]? = some (.cells #[x0, x1, x2, x3, x4, x5, x6, x7, x8] t (0, 0))) : (((((((((W.setCell ⟨b, 0, none⟩ y0).setCell ⟨b, 1, none⟩ y1).setCell ⟨b, 2, none⟩ y2).setCell ⟨b, 3, none⟩ y3).setCell ⟨b, 4, none⟩ y4).setCell ⟨b, 5, none⟩ y5).setCell ⟨b, 6, none⟩ y6).setCell ⟨b, 7, none⟩ y7).setCell ⟨b, 8, none⟩ y8).heap[b]? = some (.cells #[y0, y1, y2, y3, y4, y5, y6, y7, y8] t (0, 0)) :=
  heap_setCells_same b t [y0, y1, y2, y3, y4, y5, y6, y7, y8] 0 W [x0, x1, x2, x3, x4, x5, x6, x7, x8] h (by simp)
theorem keep_nine {W : World} {k b : Nat} {o : Obj} (h : k ≠ b) (y0 y1 y2 y3 y4 y5 y6 y7 y8 : Value) (hk : W.heap[k]? = some o) : (((((((((W.setCell ⟨b, 0, none⟩ y0).setCell ⟨b, 1, none⟩ y1).setCell ⟨b, 2, none⟩ y2).setCell ⟨b, 3, none⟩ y3).setCell ⟨b, 4, none⟩ y4).setCell ⟨b, 5, none⟩ y5).setCell ⟨b, 6, none⟩ y6).setCell ⟨b, 7, none⟩ y7).setCell ⟨b, 8, none⟩ y8).heap[k]? = some o := (heap_setCells_other b [y0, y1, y2, y3, y4, y5, y6, y7, y8] 0 W k h).trans hk
theorem below_nine {B : Nat} {w W : World} (h : Below B w W) {b : Nat} (hb : B ≤ b) (y0 y1 y2 y3 y4 y5 y6 y7 y8 : Value) : Below B w (((((((((W.setCell ⟨b, 0, none⟩ y0).setCell ⟨b, 1, none⟩ y1).setCell ⟨b, 2, none⟩ y2).setCell ⟨b, 3, none⟩ y3).setCell ⟨b, 4, none⟩ y4).setCell ⟨b, 5, none⟩ y5).setCell ⟨b, 6, none⟩ y6).setCell ⟨b, 7, none⟩ y7).setCell ⟨b, 8, none⟩ y8) := below_setCells h hb 0 [y0, y1, y2, y3, y4, y5, y6, y7, y8]
theorem nine_cells {W : World} {b : Nat} {t : TypeId} {x0 x1 x2 x3 x4 x5 x6 x7 x8 : Value} (h : W.heap[b]? = some (.cells #[x0, x1, x2, x3, x4, x5, x6, x7, x8] t (0, 0))) : (W.cell? ⟨b, 0, none⟩ = some x0 ∧ W.cell? ⟨b, 1, none⟩ = some x1 ∧ W.cell? ⟨b, 2, none⟩ = some x2 ∧ W.cell? ⟨b, 3, none⟩ = some x3 ∧ W.cell? ⟨b, 4, none⟩ = some x4 ∧ W.cell? ⟨b, 5, none⟩ = some x5 ∧ W.cell? ⟨b, 6, none⟩ = some x6 ∧ W.cell? ⟨b, 7, none⟩ = some x7 ∧ W.cell? ⟨b, 8, none⟩ = some x8) ∧ (W.frozen? ⟨b, 0, none⟩ = false ∧ W.frozen? ⟨b, 1, none⟩ = false ∧ W.frozen? ⟨b, 2, none⟩ = false ∧ W.frozen? ⟨b, 3, none⟩ = false ∧ W.frozen? ⟨b, 4, none⟩ = false ∧ W.frozen? ⟨b, 5, none⟩ = false ∧ W.frozen? ⟨b, 6, none⟩ = false ∧ W.frozen? ⟨b, 7, none⟩ = false ∧ W.frozen? ⟨b, 8, none⟩ = false) ∧ b < W.heap.size :=
  ⟨⟨cell_of_row W b 0 _ t (0, 0) h, cell_of_row W b 1 _ t (0, 0) h, cell_of_row W b 2 _ t (0, 0) h, cell_of_row W b 3 _ t (0, 0) h, cell_of_row W b 4 _ t (0, 0) h, cell_of_row W b 5 _ t (0, 0) h, cell_of_row W b 6 _ t (0, 0) h, cell_of_row W b 7 _ t (0, 0) h, cell_of_row W b 8 _ t (0, 0) h⟩, ⟨by simp [World.frozen?, h], by simp [World.frozen?, h], by simp [World.frozen?, h], by simp [World.frozen?, h], by simp [World.frozen?, h], by simp [World.frozen?, h], by simp [World.frozen?, h], by simp [World.frozen?, h], by simp [World.frozen?, h]⟩, (Array.getElem?_eq_some_iff.1 h).1⟩
theorem five_cells {W : World} {b : Nat} {t : TypeId} {x0 x1 x2 x3 x4 : Value} (h : W.heap[b]? = some (.cells #[x0, x1, x2, x3, x4] t (0, 0))) : W.cell? ⟨b, 0, none⟩ = some x0 ∧ W.cell? ⟨b, 1, none⟩ = some x1 ∧ W.cell? ⟨b, 2, none⟩ = some x2 ∧ W.cell? ⟨b, 3, none⟩ = some x3 ∧ W.cell? ⟨b, 4, none⟩ = some x4 ∧ b < W.heap.size :=
  ⟨cell_of_row W b 0 _ t (0, 0) h, cell_of_row W b 1 _ t (0, 0) h, cell_of_row W b 2 _ t (0, 0) h, cell_of_row W b 3 _ t (0, 0) h, cell_of_row W b 4 _ t (0, 0) h, (Array.getElem?_eq_some_iff.1 h).1⟩
/-- What Atoi tells of a text. -/
def AtoiP (p : ByteArray) (v : Int) (ev : Value) : Prop := (Lib.atoiAll p.data.toList = .ok v ∧ ev = .nilIface ∧ v ≤ 9223372036854775807) ∨ ((∀ u, Lib.atoiAll p.data.toList ≠ .ok u) ∧ ∃ t N, ev = .iface t (.pointer (some ⟨N, 0, none⟩)))
theorem atoi_any (p : ByteArray) (hp : p.size ≤ 1000) (w : World) (hL : LaidAt w) : Calls Tryz.prog 78 #[.string p] w fun e w' => ∃ v ev, e = .returned (.tuple #[.int .i64 v, ev]) ∧ AtoiP p v ev ∧ Below w.heap.size w w' := by
  by_cases h : ∃ v, Lib.atoiAll p.data.toList = .ok v
  · obtain ⟨v, hv⟩ := h
    exact (atoi_ok p hp v hv w).mono fun e w' ⟨h1, h2⟩ => ⟨v, _, h1, .inl ⟨hv, rfl, (Lib.atoiAll_bounds hv).2⟩, h2⟩
  · have h' : ∀ u, Lib.atoiAll p.data.toList ≠ .ok u := fun u hu => h ⟨u, hu⟩
    exact (atoi_bad p hp h' w hL).mono fun e w' ⟨v, t, N, h1, h2⟩ => ⟨v, _, h1, .inr ⟨h', t, N, rfl⟩, h2⟩
theorem idn_parse_e (l : List UInt8) : (Idn.parse l).2 = 0 ∨ (Idn.parse l).2 = 3 := by unfold Idn.parse; split <;> (try split) <;> (try split) <;> simp
theorem idn_parse_lab (l : List UInt8) : Lab.ok (Idn.parse l).1.1 := by
  unfold Idn.parse
  split
  · exact ⟨by decide, by decide⟩
  · split
    · exact ⟨by decide, by decide⟩
    · split
      · exact lab_parse_lab _
      · exact ⟨by decide, by decide⟩
/-- The seven ways at the test behind the calls. -/
theorem tr_ways {a b c d e : ByteArray} (ha : a.size ≤ 6) (hd : d.size ≤ 6) (he : e.size ≤ 510) {v1 v2 : Int} {ev1 ev2 : Value} (h1 : AtoiP a v1 ev1) (h2 : AtoiP d v2 ev2) :
    (Tr.cand5 a b c d e = none ∧ ((∃ t N, ev1 = .iface t (.pointer (some ⟨N, 0, none⟩))) ∨ (ev1 = .nilIface ∧ ∃ t N, ev2 = .iface t (.pointer (some ⟨N, 0, none⟩))) ∨ (ev1 = .nilIface ∧ ev2 = .nilIface ∧ (Idn.parse b.data.toList).2 = 3) ∨ (ev1 = .nilIface ∧ ev2 = .nilIface ∧ (Idn.parse b.data.toList).2 = 0 ∧ (Lab.parse c.data.toList).2 = 3) ∨ (ev1 = .nilIface ∧ ev2 = .nilIface ∧ (Idn.parse b.data.toList).2 = 0 ∧ (Lab.parse c.data.toList).2 = 0 ∧ v1 < 0) ∨ (ev1 = .nilIface ∧ ev2 = .nilIface ∧ (Idn.parse b.data.toList).2 = 0 ∧ (Lab.parse c.data.toList).2 = 0 ∧ 0 ≤ v1 ∧ v2 < 0))) ∨
    (Tr.cand5 a b c d e = some (v1, (Idn.parse b.data.toList).1, (Lab.parse c.data.toList).1, v2, ⟨(Tr.unhex e.data.toList).toArray⟩) ∧ ev1 = .nilIface ∧ ev2 = .nilIface ∧ (Idn.parse b.data.toList).2 = 0 ∧ (Lab.parse c.data.toList).2 = 0 ∧ 0 ≤ v1 ∧ 0 ≤ v2 ∧ v1 ≤ 9223372036854775807 ∧ v2 ≤ 9223372036854775807) := by
  unfold Tr.cand5
  rw [if_pos ⟨ha, hd, he⟩]
  rcases h1 with ⟨h1, rfl, b1⟩ | ⟨h1, t, N, rfl⟩
  · rcases h2 with ⟨h2, rfl, b2⟩ | ⟨h2, t, N, rfl⟩
    · rw [h1, h2]
      dsimp only
      rcases idn_parse_e b.data.toList with e1 | e1
      · rcases lab_parse_e c.data.toList with e2 | e2
        · by_cases hv1 : 0 ≤ v1
          · by_cases hv2 : 0 ≤ v2
            · rw [if_pos ⟨e1, e2, hv1, hv2⟩]; exact .inr ⟨rfl, rfl, rfl, e1, e2, hv1, hv2, b1, b2⟩
            · rw [if_neg (fun h => hv2 h.2.2.2)]; exact .inl ⟨rfl, .inr (.inr (.inr (.inr (.inr ⟨rfl, rfl, e1, e2, hv1, by omega⟩))))⟩
          · rw [if_neg (fun h => hv1 h.2.2.1)]; exact .inl ⟨rfl, .inr (.inr (.inr (.inr (.inl ⟨rfl, rfl, e1, e2, by omega⟩))))⟩
        · rw [if_neg (fun h => by rw [e2] at h; exact absurd h.2.1 (by decide))]; exact .inl ⟨rfl, .inr (.inr (.inr (.inl ⟨rfl, rfl, e1, e2⟩)))⟩
      · rw [if_neg (fun h => by rw [e1] at h; exact absurd h.1 (by decide))]; exact .inl ⟨rfl, .inr (.inr (.inl ⟨rfl, rfl, e1⟩))⟩
    · refine .inl ⟨?_, .inr (.inl ⟨rfl, t, N, rfl⟩)⟩
      rw [h1]
      cases e3 : Lib.atoiAll d.data.toList with
      | ok u => exact absurd e3 (h2 u)
      | range => rfl
      | _ => rfl
  · refine .inl ⟨?_, .inl ⟨t, N, rfl⟩⟩
    cases e3 : Lib.atoiAll a.data.toList with
    | ok u => exact absurd e3 (h1 u)
    | range => rfl
    | _ => rfl
end Go.Proofs.YtlmacaenbililaaGreatDoor
