/- Sets of tags: the set of a set's tags is it; the text of a set is parsed as it. No program, no conditions. -/
import Derived.Test.YtlmacaenbililaaGreatDoorTparse
namespace Go.Proofs.YtlmacaenbililaaGreatDoor.Tag
set_option linter.unusedSimpArgs false
set_option linter.unusedVariables false

theorem bit_add {s t : Nat} (ht : t < 16) (i : Nat) : (s ||| 2 ^ t).testBit i = (s.testBit i || decide (t = i)) := by
  rw [Nat.testBit_or, Nat.testBit_two_pow]
theorem fold_bit : ∀ (l : List Nat), (∀ t ∈ l, t < 16) → ∀ (s i : Nat), (l.foldl (fun o t => o ||| 2 ^ t) s).testBit i = (s.testBit i || decide (i ∈ l))
  | [], _, s, i => by simp
  | t :: l, h, s, i => by
    rw [List.foldl_cons, fold_bit l (fun x hx => h x (List.mem_cons_of_mem _ hx)), bit_add (h t List.mem_cons_self)]
    by_cases e : t = i
    · subst e; simp
    · have e' : ¬ i = t := fun h => e h.symm
      simp [e, e']
theorem fold_lt2 : ∀ (l : List Nat), (∀ t ∈ l, t < 16) → ∀ s, s < 65536 → l.foldl (fun o t => o ||| 2 ^ t) s < 65536
  | [], _, s, hs => hs
  | t :: l, h, s, hs => fold_lt2 l (fun x hx => h x (List.mem_cons_of_mem _ hx)) _ (Nat.or_lt_two_pow (n := 16) hs (Nat.pow_lt_pow_right (by omega) (h t List.mem_cons_self)))
theorem tags_fold (s : Nat) (h : s < 65536) : (tags s).foldl (fun o t => o ||| 2 ^ t) 0 = s := by
  have hl : ∀ t ∈ tags s, t < 16 := fun t ht => (tags_lt s t ht).1
  refine ext (fold_lt2 _ hl _ (by omega)) h fun i hi => ?_
  rw [fold_bit _ hl, Nat.zero_testBit, Bool.false_or]
  cases hb : s.testBit i with
  | true => simp [mem_tags, hi, hb]
  | false => simp [mem_tags, hb]
theorem of_one {t : Nat} (h : t < 16) : of [(t : Int)] = 2 ^ t := by
  show add 0 (t : Int) = _
  unfold add
  rw [if_pos ⟨by omega, by omega⟩, Int.toNat_natCast, Nat.zero_or]
theorem add_nat {s t : Nat} (h : t < 16) : add s (t : Int) = s ||| 2 ^ t := by
  unfold add
  rw [if_pos ⟨by omega, by omega⟩, Int.toNat_natCast]
theorem of_fold : ∀ (l : List Nat), (∀ t ∈ l, t < 16) → ∀ s, (l.map (fun t : Nat => (t : Int))).foldl add s = l.foldl (fun o t => o ||| 2 ^ t) s
  | [], _, s => rfl
  | t :: l, h, s => by
    rw [List.map_cons, List.foldl_cons, List.foldl_cons, add_nat (h t List.mem_cons_self), of_fold l (fun x hx => h x (List.mem_cons_of_mem _ hx))]
theorem of_tags (s : Nat) (h : s < 65536) : of ((tags s).map (fun t : Nat => (t : Int))) = s := by
  unfold of
  rw [of_fold _ (fun t ht => (tags_lt s t ht).1), tags_fold s h]
/-! ### the text -/
theorem dig_no : ∀ t, t < 16 → ∀ b ∈ dig t, b ≠ 44 := by decide
theorem dig_atoi : ∀ t, t < 16 → Lib.atoiAll (dig t) = .ok (t : Int) := by decide
theorem index_no : ∀ l : List UInt8, (∀ b ∈ l, b ≠ 44) → Lib.index l [44] = -1
  | [], _ => rfl
  | b :: l, h => by
    unfold Lib.index
    have hb : ([44] : List UInt8).isPrefixOf (b :: l) = false := by
      have := h b List.mem_cons_self
      simp [List.isPrefixOf, Ne.symm this]
    rw [hb, index_no l (fun x hx => h x (List.mem_cons_of_mem _ hx))]
    rfl
theorem index_at : ∀ (l r : List UInt8), (∀ b ∈ l, b ≠ 44) → Lib.index (l ++ 44 :: r) [44] = (l.length : Int)
  | [], r, _ => by
    show Lib.index (44 :: r) [44] = 0
    unfold Lib.index
    simp [List.isPrefixOf]
  | b :: l, r, h => by
    rw [List.cons_append]
    unfold Lib.index
    have hb : ([44] : List UInt8).isPrefixOf (b :: (l ++ 44 :: r)) = false := by
      have := h b List.mem_cons_self
      simp [List.isPrefixOf, Ne.symm this]
    rw [hb, index_at l r (fun x hx => h x (List.mem_cons_of_mem _ hx))]
    have : ((l.length : Int) == -1) = false := by
      rw [beq_eq_false_iff_ne]
      omega
    rw [this, List.length_cons]
    simp
theorem pieces_miss (s : ByteArray) (h : Lib.indexB s comma = -1) : pieces s = [s] := Lib.splitB_miss comma 0 _ s h
theorem pieces_hit (s : ByteArray) (i : Nat) (h : Lib.indexB s comma = i) : pieces s = s.extract 0 i :: pieces (s.extract (i + 1) s.size) := by
  unfold pieces
  rw [Lib.countB_hit s comma i (by decide) h, Nat.add_comm 1, Lib.splitB_hit comma 0 _ s i h]
  rfl
theorem bytes_ext {a b : ByteArray} (h : a.data.toList = b.data.toList) : a = b := ByteArray.ext (Array.toList_inj.1 h)
theorem fold_text : ∀ (l : List Nat), l ≠ [] → (∀ t ∈ l, t < 16) → ∀ (s : ByteArray) (o : Nat), s.data.toList = joinB l → foldP (pieces s) o = some (l.foldl (fun o t => o ||| 2 ^ t) o)
  | [], h, _, _, _, _ => absurd rfl h
  | [x], _, hx, s, o, hs => by
    have h16 := hx x (List.mem_singleton.2 rfl)
    rw [join_one] at hs
    rw [pieces_miss s (by show Lib.index s.data.toList [44] = -1; rw [hs]; exact index_no _ (dig_no x h16))]
    show (match Lib.atoiAll s.data.toList with | .ok v => foldP [] (o ||| of [v]) | _ => none) = _
    rw [hs, dig_atoi x h16]
    show some (o ||| of [(x : Int)]) = _
    rw [of_one h16]
    rfl
  | x :: y :: r, _, hx, s, o, hs => by
    have h16 := hx x List.mem_cons_self
    have hj : joinB (x :: y :: r) = dig x ++ 44 :: joinB (y :: r) := by simp [joinB, List.flatMap_cons]
    rw [hj] at hs
    have hi : Lib.indexB s comma = ((dig x).length : Int) := by
      show Lib.index s.data.toList [44] = _
      rw [hs]; exact index_at _ _ (dig_no x h16)
    have h1 : (s.extract 0 (dig x).length).data.toList = dig x := by
      rw [Lib.extract_from_zero, hs]; simp
    have h2 : (s.extract ((dig x).length + 1) s.size).data.toList = joinB (y :: r) := by
      rw [Lib.extract_to_end, hs]; simp
    rw [pieces_hit s _ hi]
    show (match Lib.atoiAll (s.extract 0 (dig x).length).data.toList with | .ok v => foldP (pieces (s.extract ((dig x).length + 1) s.size)) (o ||| of [v]) | _ => none) = _
    rw [h1, dig_atoi x h16]
    show foldP _ (o ||| of [(x : Int)]) = _
    rw [of_one h16, fold_text (y :: r) (by simp) (fun t ht => hx t (List.mem_cons_of_mem _ ht)) _ _ h2]
    rfl
theorem tags_ne {s : Nat} (h0 : s ≠ 0) (hs : s < 65536) : tags s ≠ [] := fun e => by
  have := (step (show 0 < s by omega) hs).2.1
  rw [e] at this; cases this
theorem join_first (l : List Nat) (hl : l ≠ []) (h : ∀ t ∈ l, t < 16) : joinB l ≠ [45] := by
  cases l with
  | nil => exact absurd rfl hl
  | cons x r =>
    have : ∀ t, t < 16 → (dig t).head? ≠ some 45 ∧ dig t ≠ [] := by decide
    obtain ⟨h1, h2⟩ := this x (h x List.mem_cons_self)
    intro e
    replace e : dig x ++ r.flatMap (fun y => 44 :: dig y) = [45] := e
    cases hd : dig x with
    | nil => exact h2 hd
    | cons b q =>
      rw [hd] at e h1
      simp at e h1
      exact h1 e.1
/-- A set's text is parsed as the set. -/
theorem parse_text (a : Nat) (ha : a < 65536) : parse ⟨(text a).toArray⟩ = (a, 0) := by
  by_cases h0 : a = 0
  · subst h0; rfl
  · have ht : text a = joinB (tags a) := if_neg h0
    have h16 : ∀ t ∈ tags a, t < 16 := fun t ht => (tags_lt a t ht).1
    have hne := tags_ne h0 ha
    unfold parse
    rw [if_neg (fun e => join_first _ hne h16 (by rw [← ht]; have := congrArg (fun b : ByteArray => b.data.toList) e; simpa using this)), fold_text (tags a) hne h16 _ 0 (by rw [ht]), tags_fold a ha]
    show (if text a = (⟨(text a).toArray⟩ : ByteArray).data.toList then (a, (0 : Int)) else (0, 3)) = _
    rw [if_pos (by simp)]
theorem text_inj {a b : Nat} (ha : a < 65536) (hb : b < 65536) (h : text a = text b) : a = b := by
  have h1 := parse_text a ha
  rw [h, parse_text b hb] at h1
  exact (Prod.mk.inj h1).1.symm
end Go.Proofs.YtlmacaenbililaaGreatDoor.Tag
