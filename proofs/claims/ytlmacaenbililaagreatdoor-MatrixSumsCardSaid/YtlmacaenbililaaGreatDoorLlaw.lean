/- Labels: which flow into which, their order, joins, meets, texts: plain laws. No conditions. -/
import Derived.Test.YtlmacaenbililaaGreatDoorTlawb
import Derived.Test.YtlmacaenbililaaGreatDoorTrefd
namespace Go.Proofs.YtlmacaenbililaaGreatDoor
set_option linter.unusedSimpArgs false
set_option linter.unusedVariables false

namespace Lab
abbrev L := Nat × Nat
def ok (a : L) : Prop := a.1 < 65536 ∧ a.2 < 65536
def flows (a b : L) : Bool := Tag.sub a.1 b.1 && Tag.sub b.2 a.2
def key (a : L) : Nat := 65536 * a.1 + a.2
def cmp (a b : L) : Int := if key a < key b then -1 else if key b < key a then 1 else 0
def bot : L := (0, 65535)
def top : L := (65535, 0)
def joinTo (o a : L) : L := (o.1 ||| a.1, o.2 &&& a.2)
def meetTo (o a : L) : L := (o.1 &&& a.1, o.2 ||| a.2)
def join (l : List L) : L := l.foldl joinTo bot
def meet (l : List L) : L := l.foldl meetTo top
def text (a : L) : List UInt8 := Tag.text a.1 ++ 47 :: Tag.text a.2
theorem bot_ok : ok bot := ⟨by decide, by decide⟩
theorem top_ok : ok top := ⟨by decide, by decide⟩
theorem or16 {a b : Nat} (ha : a < 65536) (hb : b < 65536) : a ||| b < 65536 := Nat.or_lt_two_pow (n := 16) ha hb
theorem and16 {a b : Nat} (ha : a < 65536) : a &&& b < 65536 := Nat.lt_of_le_of_lt Nat.and_le_left ha
theorem joinTo_ok {o a : L} (ho : ok o) (ha : ok a) : ok (joinTo o a) := ⟨or16 ho.1 ha.1, and16 ho.2⟩
theorem meetTo_ok {o a : L} (ho : ok o) (ha : ok a) : ok (meetTo o a) := ⟨and16 ho.1, or16 ho.2 ha.2⟩
theorem fold_ok {f : L → L → L} (hf : ∀ o a, ok o → ok a → ok (f o a)) : ∀ (l : List L) (o : L), ok o → (∀ a ∈ l, ok a) → ok (l.foldl f o)
  | [], _, h, _ => h
  | a :: l, o, h, hl => fold_ok hf l _ (hf o a h (hl a (by simp))) (fun x hx => hl x (by simp [hx]))
theorem sub_spec {a b : Nat} : Tag.sub a b = true ↔ ∀ t, t < 16 → a.testBit t = true → b.testBit t = true := by
  unfold Tag.sub
  rw [List.all_eq_true]
  constructor
  · intro h t ht ha; exact h t (Tag.mem_tags.2 ⟨ht, ha⟩)
  · intro h t ht; obtain ⟨h1, h2⟩ := Tag.mem_tags.1 ht; exact h t h1 h2
theorem flows_spec {a b : L} : flows a b = true ↔ (∀ t, t < 16 → a.1.testBit t = true → b.1.testBit t = true) ∧ (∀ t, t < 16 → b.2.testBit t = true → a.2.testBit t = true) := by
  unfold flows; rw [Bool.and_eq_true, sub_spec, sub_spec]
theorem flows_refl (a : L) : flows a a = true := flows_spec.2 ⟨fun _ _ h => h, fun _ _ h => h⟩
theorem flows_anti {a b : L} (ha : ok a) (hb : ok b) (h : flows a b = true) (k : flows b a = true) : a = b := by
  obtain ⟨h1, h2⟩ := flows_spec.1 h
  obtain ⟨k1, k2⟩ := flows_spec.1 k
  refine Prod.ext (Tag.ext ha.1 hb.1 fun i hi => ?_) (Tag.ext ha.2 hb.2 fun i hi => ?_)
  · rw [Bool.eq_iff_iff]; exact ⟨h1 i hi, k1 i hi⟩
  · rw [Bool.eq_iff_iff]; exact ⟨k2 i hi, h2 i hi⟩
theorem flows_trans {a b c : L} (h : flows a b = true) (k : flows b c = true) : flows a c = true := by
  obtain ⟨h1, h2⟩ := flows_spec.1 h
  obtain ⟨k1, k2⟩ := flows_spec.1 k
  exact flows_spec.2 ⟨fun t ht x => k1 t ht (h1 t ht x), fun t ht x => h2 t ht (k2 t ht x)⟩
theorem all_bit {t : Nat} (ht : t < 16) : (65535 : Nat).testBit t = true := by
  have : (65535 : Nat) = 2 ^ 16 - 1 := rfl
  rw [this, Nat.testBit_two_pow_sub_one]; simpa using ht
theorem flows_bot (a : L) : flows bot a = true := flows_spec.2 ⟨fun t _ h => by simp [bot] at h, fun t ht _ => all_bit ht⟩
theorem flows_top (a : L) : flows a top = true := flows_spec.2 ⟨fun t ht _ => all_bit ht, fun t _ h => by simp [top] at h⟩
theorem key_inj {a b : L} (ha : ok a) (hb : ok b) (h : key a = key b) : a = b := by
  unfold key at h
  obtain ⟨h1, h2⟩ := ha
  obtain ⟨h3, h4⟩ := hb
  exact Prod.ext (by omega) (by omega)
theorem cmp_anti (a b : L) : cmp a b = -cmp b a := by
  unfold cmp
  split <;> split <;> first | omega | (split <;> omega) | skip
  all_goals first | omega | (simp_all) | skip
theorem cmp_neg {a b : L} : cmp a b < 0 ↔ key a < key b := by
  unfold cmp; split
  · simp_all
  · split <;> simp_all
theorem cmp_trans {a b c : L} (h : cmp a b < 0) (k : cmp b c < 0) : cmp a c < 0 := cmp_neg.2 (Nat.lt_trans (cmp_neg.1 h) (cmp_neg.1 k))
theorem cmp_zero {a b : L} (ha : ok a) (hb : ok b) : cmp a b = 0 ↔ a = b := by
  constructor
  · intro h
    refine key_inj ha hb ?_
    unfold cmp at h
    split at h
    · omega
    · split at h
      · omega
      · omega
  · rintro rfl; unfold cmp; simp
/-- How the two halves stand, one behind the other. -/
theorem cmp_parts {a b : L} (ha : ok a) (hb : ok b) : cmp a b = if a.1 < b.1 then -1 else if b.1 < a.1 then 1 else if a.2 < b.2 then -1 else if b.2 < a.2 then 1 else 0 := by
  obtain ⟨h1, h2⟩ := ha
  obtain ⟨h3, h4⟩ := hb
  unfold cmp key
  split <;> (try split) <;> (try split) <;> (try split) <;> (try split) <;> (try split) <;> omega
theorem join_bits1 (a b : L) (i : Nat) : (joinTo a b).1.testBit i = (a.1.testBit i || b.1.testBit i) := by simp [joinTo]
theorem join_bits2 (a b : L) (i : Nat) : (joinTo a b).2.testBit i = (a.2.testBit i && b.2.testBit i) := by simp [joinTo]
theorem meet_bits1 (a b : L) (i : Nat) : (meetTo a b).1.testBit i = (a.1.testBit i && b.1.testBit i) := by simp [meetTo]
theorem meet_bits2 (a b : L) (i : Nat) : (meetTo a b).2.testBit i = (a.2.testBit i || b.2.testBit i) := by simp [meetTo]
theorem lab_ext {a b : L} (ha : ok a) (hb : ok b) (h1 : ∀ i, i < 16 → a.1.testBit i = b.1.testBit i) (h2 : ∀ i, i < 16 → a.2.testBit i = b.2.testBit i) : a = b := Prod.ext (Tag.ext ha.1 hb.1 h1) (Tag.ext ha.2 hb.2 h2)
theorem bot_bits {i : Nat} (hi : i < 16) : bot.1.testBit i = false ∧ bot.2.testBit i = true := ⟨by simp [bot], all_bit hi⟩
theorem top_bits {i : Nat} (hi : i < 16) : top.1.testBit i = true ∧ top.2.testBit i = false := ⟨all_bit hi, by simp [top]⟩
theorem join_one {a : L} (ha : ok a) : joinTo bot a = a := lab_ext (joinTo_ok bot_ok ha) ha (fun i hi => by rw [join_bits1, (bot_bits hi).1]; simp) (fun i hi => by rw [join_bits2, (bot_bits hi).2]; simp)
theorem meet_one {a : L} (ha : ok a) : meetTo top a = a := lab_ext (meetTo_ok top_ok ha) ha (fun i hi => by rw [meet_bits1, (top_bits hi).1]; simp) (fun i hi => by rw [meet_bits2, (top_bits hi).2]; simp)
theorem join_two {a b : L} (ha : ok a) : join [a, b] = joinTo a b := by show joinTo (joinTo bot a) b = _; rw [join_one ha]
theorem meet_two {a b : L} (ha : ok a) : meet [a, b] = meetTo a b := by show meetTo (meetTo top a) b = _; rw [meet_one ha]
theorem join_three {a b c : L} (ha : ok a) : join [a, b, c] = joinTo (joinTo a b) c := by show joinTo (joinTo (joinTo bot a) b) c = _; rw [join_one ha]
theorem meet_three {a b c : L} (ha : ok a) : meet [a, b, c] = meetTo (meetTo a b) c := by show meetTo (meetTo (meetTo top a) b) c = _; rw [meet_one ha]
theorem flows_join1 (a b : L) : flows a (joinTo a b) = true := flows_spec.2 ⟨fun t ht h => by rw [join_bits1, h]; rfl, fun t ht h => by rw [join_bits2] at h; simp at h; exact h.1⟩
theorem flows_join2 (a b : L) : flows b (joinTo a b) = true := flows_spec.2 ⟨fun t ht h => by rw [join_bits1, h]; simp, fun t ht h => by rw [join_bits2] at h; simp at h; exact h.2⟩
theorem flows_meet1 (a b : L) : flows (meetTo a b) a = true := flows_spec.2 ⟨fun t ht h => by rw [meet_bits1] at h; simp at h; exact h.1, fun t ht h => by rw [meet_bits2, h]; rfl⟩
theorem flows_meet2 (a b : L) : flows (meetTo a b) b = true := flows_spec.2 ⟨fun t ht h => by rw [meet_bits1] at h; simp at h; exact h.2, fun t ht h => by rw [meet_bits2, h]; simp⟩
theorem join_least (a b c : L) : (flows a c && flows b c) = flows (joinTo a b) c := by
  rw [Bool.eq_iff_iff, Bool.and_eq_true]
  constructor
  · rintro ⟨h, k⟩
    obtain ⟨h1, h2⟩ := flows_spec.1 h
    obtain ⟨k1, k2⟩ := flows_spec.1 k
    refine flows_spec.2 ⟨fun t ht x => ?_, fun t ht x => ?_⟩
    · rw [join_bits1, Bool.or_eq_true] at x
      rcases x with x | x
      · exact h1 t ht x
      · exact k1 t ht x
    · rw [join_bits2, h2 t ht x, k2 t ht x]; rfl
  · intro h; exact ⟨flows_trans (flows_join1 a b) h, flows_trans (flows_join2 a b) h⟩
theorem meet_most (a b c : L) : (flows c a && flows c b) = flows c (meetTo a b) := by
  rw [Bool.eq_iff_iff, Bool.and_eq_true]
  constructor
  · rintro ⟨h, k⟩
    obtain ⟨h1, h2⟩ := flows_spec.1 h
    obtain ⟨k1, k2⟩ := flows_spec.1 k
    refine flows_spec.2 ⟨fun t ht x => ?_, fun t ht x => ?_⟩
    · rw [meet_bits1, h1 t ht x, k1 t ht x]; rfl
    · rw [meet_bits2, Bool.or_eq_true] at x
      rcases x with x | x
      · exact h2 t ht x
      · exact k2 t ht x
  · intro h; exact ⟨flows_trans h (flows_meet1 a b), flows_trans h (flows_meet2 a b)⟩
theorem join_absorb {a b : L} (ha : ok a) (hb : ok b) : joinTo a (meetTo a b) = a := lab_ext (joinTo_ok ha (meetTo_ok ha hb)) ha
  (fun i hi => by rw [join_bits1, meet_bits1]; cases a.1.testBit i <;> simp) (fun i hi => by rw [join_bits2, meet_bits2]; cases a.2.testBit i <;> simp)
theorem meet_absorb {a b : L} (ha : ok a) (hb : ok b) : meetTo a (joinTo a b) = a := lab_ext (meetTo_ok ha (joinTo_ok ha hb)) ha
  (fun i hi => by rw [meet_bits1, join_bits1]; cases a.1.testBit i <;> simp) (fun i hi => by rw [meet_bits2, join_bits2]; cases a.2.testBit i <;> simp)
/-- What a text reads as; none: it is no label's. -/
def rparse (s : List UInt8) : Option L :=
  if (Lib.cut s [47]).2.2 then
    match Tag.rparse (Lib.cut s [47]).1, Tag.rparse (Lib.cut s [47]).2.1 with
    | some a, some b => some (a, b)
    | _, _ => none
  else none
/-- .. with the number of the error. -/
def parse (s : List UInt8) : L × Int := match rparse s with | some a => (a, 0) | none => ((0, 0), 3)
/-! ### texts -/
theorem index_no (c : UInt8) : ∀ l : List UInt8, (∀ b ∈ l, b ≠ c) → Lib.index l [c] = -1
  | [], _ => rfl
  | b :: l, h => by
    unfold Lib.index
    have hb : ([c] : List UInt8).isPrefixOf (b :: l) = false := by
      have := h b List.mem_cons_self
      simp [List.isPrefixOf, Ne.symm this]
    rw [hb, index_no c l (fun x hx => h x (List.mem_cons_of_mem _ hx))]
    rfl
theorem index_at (c : UInt8) : ∀ (l r : List UInt8), (∀ b ∈ l, b ≠ c) → Lib.index (l ++ c :: r) [c] = (l.length : Int)
  | [], r, _ => by
    show Lib.index (c :: r) [c] = 0
    unfold Lib.index
    simp [List.isPrefixOf]
  | b :: l, r, h => by
    rw [List.cons_append]
    unfold Lib.index
    have hb : ([c] : List UInt8).isPrefixOf (b :: (l ++ c :: r)) = false := by
      have := h b List.mem_cons_self
      simp [List.isPrefixOf, Ne.symm this]
    rw [hb, index_at c l r (fun x hx => h x (List.mem_cons_of_mem _ hx))]
    have : ((l.length : Int) == -1) = false := by
      rw [beq_eq_false_iff_ne]
      omega
    rw [this, List.length_cons]
    simp
theorem cut_at (c : UInt8) (l r : List UInt8) (h : ∀ b ∈ l, b ≠ c) : Lib.cut (l ++ c :: r) [c] = (l, r, true) := by
  unfold Lib.cut
  rw [index_at c l r h, if_pos (by omega)]
  simp
theorem cut_no (c : UInt8) (l : List UInt8) (h : ∀ b ∈ l, b ≠ c) : Lib.cut l [c] = (l, [], false) := by
  unfold Lib.cut
  rw [index_no c l h, if_neg (by omega)]
theorem dig_no47 : ∀ t, t < 16 → ∀ b ∈ Tag.dig t, b ≠ 47 ∧ b ≠ 46 ∧ b ≠ 32 := by decide
theorem text_no (s : Nat) : ∀ b ∈ Tag.text s, b ≠ 47 ∧ b ≠ 46 ∧ b ≠ 32 := by
  unfold Tag.text
  split
  · decide
  · have h16 : ∀ t ∈ Tag.tags s, t < 16 := fun t ht => (Tag.tags_lt s t ht).1
    generalize Tag.tags s = l at h16
    cases l with
    | nil => intro b hb; simp [Tag.joinB] at hb
    | cons x r =>
      intro b hb
      simp only [Tag.joinB, List.mem_append, List.mem_flatMap] at hb
      rcases hb with hb | ⟨y, hy, hb⟩
      · exact dig_no47 x (h16 x (by simp)) b hb
      · rcases List.mem_cons.1 hb with rfl | hb
        · decide
        · exact dig_no47 y (h16 y (by simp [hy])) b hb
theorem tag_rparse_text (a : Nat) (ha : a < 65536) : Tag.rparse (Tag.text a) = some a := by
  have h := Tag.parse_text a ha
  rw [Tag.parse_is] at h
  simp only [List.toList_toArray] at h
  generalize Tag.rparse (Tag.text a) = r at h
  cases r with
  | none => simp at h
  | some x => simp at h; rw [h]
theorem cut_text (a : L) : Lib.cut (text a) [47] = (Tag.text a.1, Tag.text a.2, true) := cut_at 47 _ _ fun b hb => (text_no a.1 b hb).1
theorem rparse_text (a : L) (ha : ok a) : rparse (text a) = some a := by
  unfold rparse
  rw [cut_text]
  simp only [if_true]
  rw [tag_rparse_text _ ha.1, tag_rparse_text _ ha.2]
theorem parse_text (a : L) (ha : ok a) : parse (text a) = (a, 0) := by unfold parse; rw [rparse_text a ha]
theorem text_inj {a b : L} (ha : ok a) (hb : ok b) (h : text a = text b) : a = b := by
  have h1 := rparse_text a ha
  rw [h, rparse_text b hb] at h1
  exact (Option.some.inj h1).symm
theorem tag_rparse_lt {s : List UInt8} {x : Nat} (h : Tag.rparse s = some x) : x < 65536 := by
  unfold Tag.rparse at h
  split at h
  · cases h; omega
  · exact (Tag.rp_sound 16 0 s 0 x rfl (by omega) h).elim fun l hl => hl.2.2.2
theorem rparse_ok' {s : List UInt8} {a : L} (h : rparse s = some a) : ok a := by
  unfold rparse at h
  split at h
  · split at h
    · rename_i x y hx hy
      cases h
      exact ⟨tag_rparse_lt hx, tag_rparse_lt hy⟩
    · cases h
  · cases h
theorem parse_lt (s : List UInt8) : ok (parse s).1 := by
  unfold parse
  split
  · rename_i a h; exact rparse_ok' h
  · exact ⟨by decide, by decide⟩
theorem text_len (a : L) : (text a).length ≤ 100 := by
  have h : ∀ s, (Tag.text s).length ≤ 48 := fun s => by
    unfold Tag.text
    split
    · simp
    · have h1 := Tag.join_len (Tag.tags s)
      have h2 := Tag.tags_le s
      omega
  have h1 := h a.1
  have h2 := h a.2
  unfold text
  rw [List.length_append, List.length_cons]
  omega
end Lab
end Go.Proofs.YtlmacaenbililaaGreatDoor
