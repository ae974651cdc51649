/- The reference's Of, Sub, number (package forepeakref01), and the conditions' same: what they return. No conditions. -/
import Derived.Test.YtaapejhoegeimaaDoorTref
import Derived.Test.YtaapejhoegeimaaDoorTparse
namespace Go.Proofs.YtaapejhoegeimaaDoor
open Go.RowKit Go.Shelf
set_option linter.unusedSimpArgs false
set_option linter.unusedVariables false
attribute [local go_sem] Oper.semAt_some cell_over frozen_over

theorem rof_ok (A : Option Addr) (c : Nat) (l : List Int) (hl : l.length ≤ 4611686018427387904) (w : World) (hA : IntsAt w A l) : Calls Tryd.prog 18 #[.slice A l.length c] w fun e w' => e = .returned (.int .u16 (Tag.of l : Int)) ∧ w' = w := by
  have HA := Lib.hid hA
  clear hA
  go_enter Tryd.func18, Tryd.ntmps18
  go_wp2_with fail
  go_loopw [3, 4] (fun s i wr => ∃ (k : Nat) (v : Nat), i = .int .i64 (k : Int) ∧ s = .int .u16 (v : Int) ∧ k ≤ l.length ∧ v < 65536 ∧ Hid (v = (l.take k).foldl Tag.add 0) ∧ wr = w) (fun s i _ => l.length - (intOf i).toNat)
  case atStart => exact ⟨0, 0, rfl, rfl, by omega, by omega, Lib.hid rfl, rfl⟩
  case round =>
    obtain ⟨k, v, rfl, rfl, hk, hv, hf, rfl⟩ := hrel
    by_cases hkl : k = l.length
    · subst hkl
      go_wp2_with fail
      go_ret
      refine ⟨?_, rfl⟩
      rw [hf.out, List.take_length]; rfl
    · have hkn : k < l.length := by omega
      have hki : (k : Int) < (l.length : Int) := by omega
      obtain ⟨b, off, rfl, hc⟩ : ∃ b off, A = some ⟨b, off, none⟩ ∧ wr.cell? ⟨b, off + k, none⟩ = some (.int .i64 l[k]) := by
        rcases HA.out with h | ⟨b, off, h1, h2⟩
        · rw [h] at hkn; simp at hkn
        · exact ⟨b, off, h1, h2 k hkn⟩
      have hnext : (l.take (k + 1)).foldl Tag.add 0 = Tag.add ((l.take k).foldl Tag.add 0) l[k] := by
        rw [List.take_succ_eq_append_getElem hkn, List.foldl_append]; rfl
      rw [← hf.out] at hnext
      generalize l[k] = t at hc hnext
      have HN := Lib.hid hnext
      have HW := Lib.hid (fun w => rwith_ok v hv t w)
      clear hkl hnext
      go_wp2_with (go_at_call 26; refine (HW.out _).mono ?_; rintro e w1 ⟨rfl, hw1⟩; obtain rfl := hw1.symm)
      go_roundw
      case rel => exact ⟨k + 1, Tag.add v t, by go_num, rfl, by omega, Tag.add_lt hv _, Lib.hid HN.out.symm, trivial⟩
      case measure => simp [intOf]; omega
namespace Tag
theorem has_small {s t : Nat} (h : t < 16) : has s (t : Int) = s.testBit t := by
  unfold has; rw [Int.toNat_natCast]; simp; omega
/-- The halves that are looked through. -/
def subTo (a b k : Nat) : Bool := (List.range k).all fun t => !(a.testBit t && !b.testBit t)
theorem subTo_all (a b : Nat) : subTo a b 16 = sub a b := by
  unfold subTo sub
  rw [Bool.eq_iff_iff, List.all_eq_true, List.all_eq_true]
  constructor
  · intro h t ht
    obtain ⟨h1, h2⟩ := mem_tags.1 ht
    have := h t (List.mem_range.2 h1)
    rw [h2] at this
    simpa using this
  · intro h t ht
    cases ha : a.testBit t with
    | false => simp
    | true => simpa using h t (mem_tags.2 ⟨List.mem_range.1 ht, ha⟩)
theorem subTo_succ (a b k : Nat) : subTo a b (k + 1) = (subTo a b k && !(a.testBit k && !b.testBit k)) := by
  unfold subTo
  rw [List.range_succ, List.all_append]
  simp
theorem sub_stop {a b k : Nat} (hk : k < 16) (ha : a.testBit k = true) (hb : b.testBit k = false) : sub a b = false := by
  cases h : sub a b with
  | false => rfl
  | true =>
    have := List.all_eq_true.1 h k (mem_tags.2 ⟨hk, ha⟩)
    rw [hb] at this
    cases this
end Tag
theorem rsub_ok (a b : Nat) (ha : a < 65536) (hb : b < 65536) (w : World) : Calls Tryd.prog 16 #[.int .u16 (a : Int), .int .u16 (b : Int)] w fun e w' => e = .returned (.bool (Tag.sub a b)) ∧ w' = w := by
  go_enter Tryd.func16, Tryd.ntmps16
  go_wp2_with fail
  go_loopw [5] (fun i wr => ∃ (k : Nat), i = .int .i64 (k : Int) ∧ k ≤ 16 ∧ Hid (Tag.subTo a b k = true) ∧ wr = w) (fun i _ => 16 - (intOf i).toNat)
  case atStart => exact ⟨0, rfl, by omega, Lib.hid rfl, rfl⟩
  case round =>
    obtain ⟨k, rfl, hk, hf, rfl⟩ := hrel
    by_cases hk16 : k = 16
    · subst hk16
      go_wp2_with fail
      go_ret
      refine ⟨?_, rfl⟩
      rw [← Tag.subTo_all, hf.out]; rfl
    · have hkl : k < 16 := by omega
      have hki : (k : Int) < 16 := by omega
      have HA := Lib.hid (fun w => rhas_ok a ha (k : Int) w)
      have HB := Lib.hid (fun w => rhas_ok b hb (k : Int) w)
      rw [Tag.has_small hkl] at HA HB
      have HS := Lib.hid (Tag.subTo_succ a b k)
      have HT := Lib.hid (fun h1 h2 => Tag.sub_stop (a := a) (b := b) hkl h1 h2)
      rw [hf.out] at HS
      generalize a.testBit k = x at HA HS HT
      generalize b.testBit k = y at HB HS HT
      clear hk16
      cases x with
      | false =>
        go_wp2_with (go_at_call 14; refine (HA.out _).mono ?_; rintro e w1 ⟨rfl, hw1⟩; obtain rfl := hw1.symm)
        go_roundw
        case rel => exact ⟨k + 1, by go_num, by omega, Lib.hid HS.out, trivial⟩
        case measure => simp [intOf]; omega
      | true =>
        have HAB := Lib.hid (show ∀ w : World, True from fun _ => trivial)
        cases y with
        | true =>
          go_wp2_with (first | (go_at_call 14; have _h := HAB; refine (HA.out _).mono ?_; rintro e w1 ⟨rfl, hw1⟩; obtain rfl := hw1.symm; clear HAB) | (go_at_call 14; refine (HB.out _).mono ?_; rintro e w1 ⟨rfl, hw1⟩; obtain rfl := hw1.symm))
          go_roundw
          case rel => exact ⟨k + 1, by go_num, by omega, Lib.hid HS.out, trivial⟩
          case measure => simp [intOf]; omega
        | false =>
          go_wp2_with (first | (go_at_call 14; have _h := HAB; refine (HA.out _).mono ?_; rintro e w1 ⟨rfl, hw1⟩; obtain rfl := hw1.symm; clear HAB) | (go_at_call 14; refine (HB.out _).mono ?_; rintro e w1 ⟨rfl, hw1⟩; obtain rfl := hw1.symm))
          go_ret
          exact ⟨by rw [HT.out (by trivial) (by trivial)]; rfl, rfl⟩
theorem num_small : ∀ t : Fin 10, (⟨(Tag.dig t.1).toArray⟩ : ByteArray) = (⟨#[48, 49, 50, 51, 52, 53, 54, 55, 56, 57]⟩ : ByteArray).extract t.1 (t.1 + 1) := by decide
theorem number_small (t : Nat) (h : t < 10) (w : World) : Calls Tryd.prog 29 #[.int .i64 (t : Int)] w fun e w' => e = .returned (.string ⟨(Tag.dig t).toArray⟩) ∧ w' = w := by
  have hn : ¬ (9 : Int) < (t : Int) := by omega
  have h1 : (t : Int) ≤ (t : Int) + 1 := by omega
  have h2 : (t : Int) + 1 ≤ 10 := by omega
  have hd := num_small ⟨t, h⟩
  simp only at hd
  rw [hd]
  clear hd
  go_enter Tryd.func29, Tryd.ntmps29
  go_wp2_with fail
  go_ret
  exact ⟨rfl, rfl⟩
theorem num_big : ∀ t : Fin 16, 10 ≤ t.1 → (⟨#[49]⟩ : ByteArray) ++ (⟨(Tag.dig (t.1 - 10)).toArray⟩ : ByteArray) = ⟨(Tag.dig t.1).toArray⟩ := by decide
theorem number_ok (t : Nat) (h : t < 16) (w : World) : Calls Tryd.prog 29 #[.int .i64 (t : Int)] w fun e w' => e = .returned (.string ⟨(Tag.dig t).toArray⟩) ∧ w' = w := by
  by_cases h9 : t < 10
  · exact number_small t h9 w
  · have hn : (9 : Int) < (t : Int) := by omega
    have HS := Lib.hid (fun w => number_small (t - 10) (by omega) w)
    have hd := num_big ⟨t, h⟩ (by simp; omega)
    simp only at hd
    rw [← hd]
    obtain ⟨j, rfl⟩ : ∃ j, t = j + 10 := ⟨t - 10, by omega⟩
    rw [Nat.add_sub_cancel] at HS ⊢
    have he : (j : Int) + 10 - 10 = (j : Int) := by omega
    have hn9 : (9 : Int) < (j : Int) + 10 := by omega
    rw [show ((j + 10 : Nat) : Int) = (j : Int) + 10 by omega]
    have hj : j < 6 := by omega
    have hj2 : (j : Int) < 6 := by omega
    have hcc : ¬ 9223372036854775807 < 1 + (Tag.dig j).length := by have := (Tag.dig_len j).2; omega
    clear hd hn h h9
    go_enter Tryd.func29, Tryd.ntmps29
    go_wp2_with (go_at_call 29; refine (HS.out _).mono ?_; rintro e w1 ⟨rfl, hw1⟩; obtain rfl := hw1.symm)
    go_ret
    exact ⟨rfl, rfl⟩
theorem take_next {l m : List Int} {k : Nat} (h1 : k < l.length) (h2 : k < m.length) (e : l.take k = m.take k) (x : l[k] = m[k]) : l.take (k + 1) = m.take (k + 1) := by
  rw [List.take_succ_eq_append_getElem h1, List.take_succ_eq_append_getElem h2, e, x]
set_option maxHeartbeats 1000000 in
theorem same_ok (A B : Option Addr) (c d : Nat) (l m : List Int) (hl : l.length ≤ 4611686018427387904) (w : World) (hA : IntsAt w A l) (hB : IntsAt w B m) :
    Calls Tryd.prog 10 #[.slice A l.length c, .slice B m.length d] w fun e w' => e = .returned (.bool (decide (l = m))) ∧ Below w.heap.size w w' := by
  have HA := Lib.hid hA
  have HB := Lib.hid hB
  clear hA hB
  by_cases hlm : l.length = m.length
  · have hlmi : (l.length : Int) = (m.length : Int) := by omega
    have HLM := Lib.hid hlm
    obtain ⟨n, hn⟩ : ∃ n, n = l.length := ⟨_, rfl⟩
    have hn2 : n = m.length := by omega
    have HN := Lib.hid hn
    have HN2 := Lib.hid hn2
    rw [← hn] at hl ⊢
    rw [← hn2]
    clear hlm hlmi hn hn2
    go_enter Tryd.func10, Tryd.ntmps10
    go_wp2_with fail
    go_loopw [5] (fun i wr => ∃ (k : Nat), i = .int .i64 (k : Int) ∧ k ≤ n ∧ Hid (l.take k = m.take k) ∧ Hid (Below w.heap.size w wr)) (fun i _ => n - (intOf i).toNat)
    case atStart => exact ⟨0, rfl, by omega, Lib.hid rfl, Lib.hid (Below.refl _ _)⟩
    case round =>
      obtain ⟨k, rfl, hk, hf, hb⟩ := hrel
      by_cases hkl : k = n
      · subst hkl
        have hki : ¬ (k : Int) < (k : Int) := by omega
        go_wp2_with fail
        go_ret
        refine ⟨?_, hb.out⟩
        have e := hf.out
        rw [List.take_of_length_le (by have := HN.out; omega), List.take_of_length_le (by have := HN2.out; omega)] at e
        rw [e]
        simp
      · have hkn : k < n := by omega
        have hki : (k : Int) < (n : Int) := by omega
        have k1 : k < l.length := by rw [← HN.out]; exact hkn
        have k2 : k < m.length := by rw [← HN2.out]; exact hkn
        obtain ⟨b1, o1, rfl, hc1⟩ : ∃ b off, A = some ⟨b, off, none⟩ ∧ wr.cell? ⟨b, off + k, none⟩ = some (.int .i64 l[k]) := by
          rcases HA.out with h | ⟨b, off, h1, h2⟩
          · rw [h] at k1; simp at k1
          · exact ⟨b, off, h1, cell_on (h2 k k1) hb.out⟩
        obtain ⟨b2, o2, rfl, hc2⟩ : ∃ b off, B = some ⟨b, off, none⟩ ∧ wr.cell? ⟨b, off + k, none⟩ = some (.int .i64 m[k]) := by
          rcases HB.out with h | ⟨b, off, h1, h2⟩
          · rw [h] at k2; simp at k2
          · exact ⟨b, off, h1, cell_on (h2 k k2) hb.out⟩
        have hlt1 : b1 < wr.heap.size := World.block_lt_of_cell? wr _ hc1
        have hlt2 : b2 < wr.heap.size := World.block_lt_of_cell? wr _ hc2
        have HT := Lib.hid (fun x => take_next k1 k2 hf.out x)
        have HX := Lib.hid (fun (h : l = m) => show l[k] = m[k] by subst h; rfl)
        generalize l[k] = x at hc1 HT HX
        generalize m[k] = y at hc2 HT HX
        by_cases hxy : x = y
        · subst hxy
          go_wp2_with fail
          refine wp_region_over (by kernel_rfl) (by kernel_rfl) ?_
          repeat (go_big_quiet_step (fail))
          refine wpQuiet_nil ?_
          intro W7 hW7
          have HB7 := Lib.hid (below_here hb.out (below_of_over hW7))
          clear hW7
          go_wp2_with fail
          go_roundw
          case rel => exact ⟨k + 1, by go_num, by omega, Lib.hid (HT.out (by trivial)), HB7⟩
          case measure => simp [intOf]; omega
        · go_wp2_with fail
          refine wp_region_over (by kernel_rfl) (by kernel_rfl) ?_
          repeat (go_big_quiet_step (fail))
          refine wpQuiet_nil ?_
          intro W7 hW7
          have HB7 := Lib.hid (below_here hb.out (below_of_over hW7))
          clear hW7
          go_wp2_with fail
          go_ret
          refine ⟨?_, HB7.out⟩
          rw [decide_eq_false (fun h => hxy (HX.out h))]
          rfl
  · have hne : (l.length : Int) ≠ (m.length : Int) := by omega
    have hd : decide (l = m) = false := decide_eq_false (fun h => hlm (by rw [h]))
    rw [hd]
    go_enter Tryd.func10, Tryd.ntmps10
    go_wp2_with fail
    go_ret
    exact ⟨rfl, Below.refl _ _⟩
end Go.Proofs.YtaapejhoegeimaaDoor
