/- Package label: Flows, Join, Meet, Cmp, Tags, Text, Parse: what they return. No conditions. -/
import Derived.Test.YtlmacaenbililaaGreatDoorLlaw
namespace Go.Proofs.YtlmacaenbililaaGreatDoor
open Go.RowKit Go.Shelf
set_option linter.unusedSimpArgs false
set_option linter.unusedVariables false

/-- A label's two cells. -/
def labC (a : Lab.L) : List Value := [.int .u16 (a.1 : Int), .int .u16 (a.2 : Int)]
abbrev labV (a : Lab.L) : Value := .agg #[.int .u16 (a.1 : Int), .int .u16 (a.2 : Int)]
theorem flows_ok (a b : Lab.L) (ha : Lab.ok a) (hb : Lab.ok b) (w : World) : Calls Tryz.prog 167 #[labV a, labV b] w fun e w' => e = .returned (.bool (Lab.flows a b)) ∧ Below w.heap.size w w' := by
  have H1 := Lib.hid (fun w => sub_ok a.1 b.1 ha.1 hb.1 w)
  have H2 := Lib.hid (fun w => sub_ok b.2 a.2 hb.2 ha.2 w)
  have HF : Hid (Lab.flows a b = (Tag.sub a.1 b.1 && Tag.sub b.2 a.2)) := Lib.hid rfl
  generalize Tag.sub a.1 b.1 = x at H1 HF
  generalize Tag.sub b.2 a.2 = y at H2 HF
  cases x with
  | false =>
    go_enter Tryz.func167, Tryz.ntmps167
    go_wp2_with (go_at_call 218; refine (H1.out _).mono ?_; rintro e w1 ⟨rfl, hw1⟩; obtain rfl := hw1.symm)
    go_ret
    exact ⟨by rw [HF.out]; rfl, below_new (below_new (Below.refl _ _) _) _⟩
  | true =>
    have HAB := Lib.hid (show ∀ w : World, True from fun _ => trivial)
    go_enter Tryz.func167, Tryz.ntmps167
    go_wp2_with (first | (go_at_call 218; have _h := HAB; refine (H1.out _).mono ?_; rintro e w1 ⟨rfl, hw1⟩; obtain rfl := hw1.symm; clear HAB) | (go_at_call 218; refine (H2.out _).mono ?_; rintro e w1 ⟨rfl, hw1⟩; obtain rfl := hw1.symm))
    go_ret
    exact ⟨by rw [HF.out]; rfl, below_new (below_new (Below.refl _ _) _) _⟩
theorem pair_set0 {W : World} {b : Nat} {x y v : Value} {t : TypeId} (h : W.heap[b]? = some (.cells #[x, y] t (0, 0))) : (W.setCell ⟨b, 0, none⟩ v).heap[b]? = some (.cells #[v, y] t (0, 0)) := by
  simp [World.setCell, Array.getElem?_modify, h]
theorem pair_set1 {W : World} {b : Nat} {x y v : Value} {t : TypeId} (h : W.heap[b]? = some (.cells #[x, y] t (0, 0))) : (W.setCell ⟨b, 1, none⟩ v).heap[b]? = some (.cells #[x, v] t (0, 0)) := by
  simp [World.setCell, Array.getElem?_modify, h]
theorem pair_cells {W : World} {b : Nat} {x y : Value} {t : TypeId} (h : W.heap[b]? = some (.cells #[x, y] t (0, 0))) : W.cell? ⟨b, 0, none⟩ = some x ∧ W.cell? ⟨b, 1, none⟩ = some y ∧ W.frozen? ⟨b, 0, none⟩ = false ∧ W.frozen? ⟨b, 1, none⟩ = false :=
  ⟨cell_of_row W b 0 _ t (0, 0) h, cell_of_row W b 1 _ t (0, 0) h, by simp [World.frozen?, h], by simp [World.frozen?, h]⟩
theorem bottom_ok (w : World) : Calls Tryz.prog 72 #[] w fun e w' => e = .returned (labV Lab.bot) ∧ Below w.heap.size w w' := by
  go_enter Tryz.func72, Tryz.ntmps72
  go_wp2_with fail
  exact bodyPost_ret (v := labV Lab.bot) (by simp [results, Tryz.results72, go_sem]; exact ⟨rfl, rfl⟩) rfl ⟨rfl, below_new (Below.refl _ _) _⟩
theorem ltags_ok (a : Lab.L) (ha : Lab.ok a) (w : World) : Calls Tryz.prog 222 #[labV a] w fun e w' => e = .returned (.int .u16 ((a.1 ||| a.2 : Nat) : Int)) ∧ Below w.heap.size w w' := by
  have hor := u16_or a.1 a.2 ha.1 ha.2
  go_enter Tryz.func222, Tryz.ntmps222
  go_wp2_with fail
  go_ret
  exact ⟨rfl, below_new (Below.refl _ _) _⟩
theorem nan16_ok (a : Int) (w : World) : Calls Tryz.prog 179 #[.int .u16 a] w fun e w' => e = .returned (.bool false) ∧ w' = w := by
  go_enter Tryz.func179, Tryz.ntmps179
  go_wp2_with fail
  go_ret
  exact ⟨rfl, rfl⟩
def cmpI (a b : Int) : Int := if a < b then -1 else if b < a then 1 else 0
theorem compare16_ok (a b : Int) (w : World) : Calls Tryz.prog 129 #[.int .u16 a, .int .u16 b] w fun e w' => e = .returned (.int .i64 (cmpI a b)) ∧ w' = w := by
  by_cases h1 : a < b
  · have e : cmpI a b = -1 := if_pos h1
    rw [e]
    clear e
    go_enter Tryz.func129, Tryz.ntmps129
    go_wp2_with (go_at_call 179; refine (nan16_ok _ _).mono ?_; rintro e w1 ⟨rfl, hw1⟩; obtain rfl := hw1.symm)
    go_ret
    exact ⟨rfl, rfl⟩
  · by_cases h2 : b < a
    · have e : cmpI a b = 1 := by unfold cmpI; rw [if_neg h1, if_pos h2]
      rw [e]
      clear e
      go_enter Tryz.func129, Tryz.ntmps129
      go_wp2_with (go_at_call 179; refine (nan16_ok _ _).mono ?_; rintro e w1 ⟨rfl, hw1⟩; obtain rfl := hw1.symm)
      go_ret
      exact ⟨rfl, rfl⟩
    · have e : cmpI a b = 0 := by unfold cmpI; rw [if_neg h1, if_neg h2]
      rw [e]
      clear e
      go_enter Tryz.func129, Tryz.ntmps129
      go_wp2_with (go_at_call 179; refine (nan16_ok _ _).mono ?_; rintro e w1 ⟨rfl, hw1⟩; obtain rfl := hw1.symm)
      go_ret
      exact ⟨rfl, rfl⟩
/-- The first of some numbers that is not 0; 0, if there is none. -/
def orOf : List Int → Int
  | [] => 0
  | x :: l => if x = 0 then orOf l else x
theorem or_ok (A : Option Addr) (c : Nat) (l : List Int) (hl : l.length ≤ 4611686018427387904) (w : World) (hA : IntsAt w A l) :
    Calls Tryz.prog 97 #[.slice A l.length c] w fun e w' => e = .returned (.int .i64 (orOf l)) ∧ w' = w := by
  have HA := Lib.hid hA
  clear hA
  go_enter Tryz.func97, Tryz.ntmps97
  go_wp2_with fail
  go_loopw [5, 8] (fun _ i wr => ∃ (k : Nat), i = .int .i64 (k : Int) ∧ k ≤ l.length ∧ Hid (orOf (l.drop k) = orOf l) ∧ wr = w) (fun _ i _ => l.length - (intOf i).toNat)
  case atStart => exact ⟨0, rfl, by omega, Lib.hid rfl, rfl⟩
  case round =>
    obtain ⟨k, rfl, hk, hf, rfl⟩ := hrel
    by_cases hkl : k = l.length
    · subst hkl
      go_wp2_with fail
      go_ret
      refine ⟨?_, rfl⟩
      rw [← hf.out, List.drop_length]; rfl
    · have hkn : k < l.length := by omega
      have hki : (k : Int) < (l.length : Int) := by omega
      obtain ⟨b, off, rfl, hc⟩ : ∃ b off, A = some ⟨b, off, none⟩ ∧ wr.cell? ⟨b, off + k, none⟩ = some (.int .i64 l[k]) := by
        rcases HA.out with h | ⟨b, off, h1, h2⟩
        · rw [h] at hkn; simp at hkn
        · exact ⟨b, off, h1, h2 k hkn⟩
      have hnext := hf.out
      rw [List.drop_eq_getElem_cons hkn] at hnext
      generalize l[k] = t at hc hnext
      clear hkl
      by_cases ht : t = 0
      · subst ht
        have HN : Hid (orOf (l.drop (k + 1)) = orOf l) := Lib.hid hnext
        clear hnext
        go_wp2_with fail
        go_roundw
        case rel => exact ⟨k + 1, by go_num, by omega, HN, trivial⟩
        case measure => simp [intOf]; omega
      · have HN : Hid (t = orOf l) := Lib.hid (by rw [← hnext]; show t = if t = 0 then _ else t; rw [if_neg ht])
        have hb : (t != 0) = true := by simp [ht]
        clear hnext
        go_wp2_with fail
        go_ret
        exact ⟨by rw [← HN.out]; rfl, rfl⟩
theorem cmpI_or (a b : Lab.L) (ha : Lab.ok a) (hb : Lab.ok b) : orOf [cmpI (a.1 : Int) (b.1 : Int), cmpI (a.2 : Int) (b.2 : Int)] = Lab.cmp a b := by
  rw [Lab.cmp_parts ha hb]
  unfold cmpI orOf orOf orOf
  split <;> (try split) <;> (try split) <;> (try split) <;> (try split) <;> (try split) <;> (try split) <;> (try split) <;> first | omega | (simp_all; done) | (exfalso; omega)
theorem cells2_new (w : World) (t : TypeId) (x y : Int) (i : Nat) (hi : i < [x, y].length) : (w.alloc (.cells #[.int .i64 x, .int .i64 y] t)).cell? ⟨w.heap.size, 0 + i, none⟩ = some (.int .i64 [x, y][i]) := by
  rw [cell_of_row _ _ _ _ _ _ (heap_alloc_new w _), Nat.zero_add]
  match i, hi with
  | 0, _ => rfl
  | 1, _ => rfl
theorem compare16b (a b : Int) (w : World) : Calls Tryz.prog 129 #[.int .u16 a, .int .u16 b] w fun e w' => e = .returned (.int .i64 (cmpI a b)) ∧ Below w.heap.size w w' :=
  (compare16_ok a b w).mono fun _ _ ⟨h1, h2⟩ => ⟨h1, by rw [h2]; exact Below.refl _ _⟩
attribute [local go_sem] cell_over frozen_over
set_option maxHeartbeats 1000000 in
theorem lcmp_ok (a b : Lab.L) (ha : Lab.ok a) (hb : Lab.ok b) (w : World) : Calls Tryz.prog 58 #[labV a, labV b] w fun e w' => e = .returned (.int .i64 (Lab.cmp a b)) ∧ Below w.heap.size w w' := by
  by_cases hab : a = b
  · subst hab
    have e : Lab.cmp a a = 0 := by unfold Lab.cmp; simp
    rw [e]
    go_enter Tryz.func58, Tryz.ntmps58
    go_wp2_with fail
    go_ret
    exact ⟨rfl, below_new (below_new (Below.refl _ _) _) _⟩
  · have HC := Lib.hid (cmpI_or a b ha hb)
    obtain ⟨a1, a2⟩ := a
    obtain ⟨b1, b2⟩ := b
    by_cases h1 : a1 = b1
    · subst h1
      have h2 : ¬ (a2 : Int) = (b2 : Int) := fun h => hab (by rw [show a2 = b2 by omega])
      clear hab
      go_enter Tryz.func58, Tryz.ntmps58
      go_wp2_with fail
      refine wp_region_over_tail 10 (by kernel_rfl) (by kernel_rfl) ?_
      simp only [List.take_succ_cons, List.take_zero, List.drop_succ_cons, List.drop_zero]
      repeat (go_big_quiet_step ((go_at_call 129; exact Calls.over_of (compare16b _ _ _))))
      refine wpQuiet_nil ?_
      intro W7 hW7
      have hb7 := below_of_over hW7
      clear hW7
      go_wp2_with (go_at_call 97; refine (or_ok _ _ [cmpI (a1 : Int) (a1 : Int), cmpI (a2 : Int) (b2 : Int)] (by simp) _ (.inr ⟨W7.heap.size, 0, rfl, cells2_new W7 _ _ _⟩)).mono ?_; rintro e w8 ⟨rfl, hw8⟩; obtain rfl := hw8.symm)
      go_ret
      exact ⟨by rw [HC.out]; rfl, below_new (below_here (below_new (below_new (Below.refl _ _) _) _) hb7) _⟩
    · have h2 : ¬ (a1 : Int) = (b1 : Int) := fun h => h1 (by omega)
      clear hab h1
      go_enter Tryz.func58, Tryz.ntmps58
      go_wp2_with fail
      refine wp_region_over_tail 10 (by kernel_rfl) (by kernel_rfl) ?_
      simp only [List.take_succ_cons, List.take_zero, List.drop_succ_cons, List.drop_zero]
      repeat (go_big_quiet_step ((go_at_call 129; exact Calls.over_of (compare16b _ _ _))))
      refine wpQuiet_nil ?_
      intro W7 hW7
      have hb7 := below_of_over hW7
      clear hW7
      go_wp2_with (go_at_call 97; refine (or_ok _ _ [cmpI (a1 : Int) (b1 : Int), cmpI (a2 : Int) (b2 : Int)] (by simp) _ (.inr ⟨W7.heap.size, 0, rfl, cells2_new W7 _ _ _⟩)).mono ?_; rintro e w8 ⟨rfl, hw8⟩; obtain rfl := hw8.symm)
      go_ret
      exact ⟨by rw [HC.out]; rfl, below_new (below_here (below_new (below_new (Below.refl _ _) _) _) hb7) _⟩
theorem text_size (s : Nat) : (⟨(Tag.text s).toArray⟩ : ByteArray).size ≤ 49 := by
  have h : (Tag.text s).length ≤ 49 := by
    unfold Tag.text
    split
    · simp
    · have h1 := Tag.join_len (Tag.tags s)
      have h2 := Tag.tags_le s
      omega
  simpa [ByteArray.size] using h
theorem lab_bytes (a : Lab.L) : (⟨(Tag.text a.1).toArray⟩ : ByteArray) ++ (⟨#[47]⟩ : ByteArray) ++ (⟨(Tag.text a.2).toArray⟩ : ByteArray) = ⟨(Lab.text a).toArray⟩ := by
  apply ByteArray.ext
  apply Array.toList_inj.1
  simp [ByteArray.data_append, Lab.text]
set_option maxRecDepth 100000 in
set_option maxHeartbeats 1000000 in
theorem ltext_ok (a : Lab.L) (ha : Lab.ok a) (w : World) (hT : TabAt w) (hW : PowAt w) : Calls Tryz.prog 82 #[labV a] w fun e w' => e = .returned (.string ⟨(Lab.text a).toArray⟩) ∧ Below w.heap.size w w' := by
  have HT := Lib.hid hT
  have HW := Lib.hid hW
  have HX := Lib.hid (fun w => text_ok a.1 ha.1 w)
  have HY := Lib.hid (fun w => text_ok a.2 ha.2 w)
  have HS := Lib.hid (lab_bytes a)
  have h1 := text_size a.1
  have h2 := text_size a.2
  generalize (⟨(Tag.text a.1).toArray⟩ : ByteArray) = x at HX HS h1
  generalize (⟨(Tag.text a.2).toArray⟩ : ByteArray) = y at HY HS h2
  have hc1 : ¬ 9223372036854775807 < x.size + 1 := by omega
  have hc2 : ¬ 9223372036854775807 < x.size + 1 + y.size := by omega
  have hB := below_new (Below.refl w.heap.size w) (.cells #[.int .u16 (a.1 : Int), .int .u16 (a.2 : Int)] 25)
  have HT1 := Lib.hid (HT.out.below hB)
  have HW1 := Lib.hid (HW.out.below hB)
  clear hT hW hB
  go_enter Tryz.func82, Tryz.ntmps82
  go_wp2_with fail
  refine wp_region_over (by kernel_rfl) (by kernel_rfl) ?_
  repeat (go_big_quiet_step (first
    | ((go_at_call 126; with_reducible exact Calls.over_of (HX.out _ (HT1.out.below (over_below _ _)) (HW1.out.below (over_below _ _)))))
    | ((go_at_call 126; exact Calls.over_of (HY.out _ (HT1.out.below (over_below _ _)) (HW1.out.below (over_below _ _)))))))
  refine wpQuiet_nil ?_
  intro W7 hW7
  have hb7 := below_of_over hW7
  clear hW7
  go_wp2_with fail
  go_ret
  exact ⟨by rw [HS.out]; rfl, below_here (below_new (Below.refl _ _) _) hb7⟩
end Go.Proofs.YtlmacaenbililaaGreatDoor
