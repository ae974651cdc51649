/- The reference's List and Text (package forepeakref01): what they return. No conditions. -/
import Derived.Test.YtlmacaenbililaaGreatDoorTrefb
import Derived.Laws.AppendOwn
namespace Go.Proofs.YtlmacaenbililaaGreatDoor
open Go.RowKit Go.Shelf
set_option linter.unusedSimpArgs false
set_option linter.unusedVariables false
attribute [local go_sem] Oper.semAt_some

namespace Tag
/-- The tags below k. -/
def below (s k : Nat) : List Nat := (List.range k).filter (fun t => s.testBit t)
theorem below_all (s : Nat) : below s 16 = tags s := rfl
theorem below_succ (s k : Nat) : below s (k + 1) = if s.testBit k then below s k ++ [k] else below s k := by
  unfold below
  rw [List.range_succ, List.filter_append]
  cases h : s.testBit k <;> simp [h]
theorem below_le (s k : Nat) : (below s k).length ≤ k := Nat.le_trans (List.length_filter_le _ _) (by simp)
end Tag
set_option maxRecDepth 100000 in
set_option maxHeartbeats 2000000 in
theorem rlist_ok (s : Nat) (hs : s < 65536) (w : World) :
    Calls Tryz.prog 178 #[.int .u16 (s : Int)] w fun e w' => ∃ v, e = .returned v ∧ w'.ownsRow w.heap.size 3 1 v (Tag.tags s).length (intCells (Tag.tags s)) ∧ Below w.heap.size w w' := by
  obtain ⟨i0, hi, hz0, hz1, hz2⟩ := info_parts info_int
  have HI := Lib.hid hi
  have HZ0 := Lib.hid hz0
  have HZ1 := Lib.hid hz1
  have HZ2 := Lib.hid hz2
  clear hi hz0 hz1 hz2
  go_enter Tryz.func178, Tryz.ntmps178
  go_wp2_with fail
  go_loopw [3, 4] (fun v i wr => ∃ (k : Nat), i = .int .i64 (k : Int) ∧ k ≤ 16 ∧ Hid (wr.ownsRow w.heap.size 3 1 v (Tag.below s k).length (intCells (Tag.below s k))) ∧ Hid (Below w.heap.size w wr)) (fun v i _ => 16 - (intOf i).toNat)
  case atStart => exact ⟨0, rfl, by omega, Lib.hid (World.ownsRow_nil _ _ _ _), Lib.hid (Below.refl _ _)⟩
  case round =>
    obtain ⟨k, rfl, hk, hrow, hb⟩ := hrel
    by_cases hk16 : k = 16
    · subst hk16
      go_wp2_with fail
      go_ret
      exact ⟨_, rfl, hrow.out, hb.out⟩
    · have hkl : k < 16 := by omega
      have hki : (k : Int) < 16 := by omega
      have HA := Lib.hid (fun w => rhas_ok s hs (k : Int) w)
      rw [Tag.has_small hkl] at HA
      have HS := Lib.hid (Tag.below_succ s k)
      have hle := Tag.below_le s k
      generalize s.testBit k = x at HA HS
      obtain ⟨pre, hpre⟩ : ∃ pre, pre = Tag.below s k := ⟨_, rfl⟩
      rw [← hpre] at hrow HS hle
      clear hk16 hpre
      obtain ⟨A0, c0, rfl⟩ : ∃ A c, u3 = .slice A pre.length c := by
        rcases hrow.out.2 with ⟨rfl, h⟩ | ⟨g, cap, cur, rfl, _⟩
        · exact ⟨none, 0, by rw [h]⟩
        · exact ⟨_, _, rfl⟩
      cases x with
      | false =>
        go_wp2_with (go_at_call 100; refine (HA.out _).mono ?_; rintro e w1 ⟨rfl, hw1⟩; obtain rfl := hw1.symm)
        go_roundw
        case rel => exact ⟨k + 1, by go_num, by omega, Lib.hid (by rw [HS.out]; exact hrow.out), hb⟩
        case measure => simp [intOf]; omega
      | true =>
        have hszw := hb.out.size
        go_wp2_with (first
          | (go_at_call 100; refine (HA.out _).mono ?_; rintro e w1 ⟨rfl, hw1⟩; obtain rfl := hw1.symm)
          | (at_builtin; refine wpList_append_own _ rfl (.tmp 12) (.tmp 14) 58 rfl w.heap.size 3 i0 (.int .i64 0) 1 8 Tryz.underlying58 HI.out HZ0.out HZ1.out HZ2.out rfl (by decide) (.slice A0 pre.length c0) pre.length (intCells pre) ?c1 (hrow.out.alloc _) ⟨wr.heap.size, 0, none⟩ 1 1 [.int .i64 (k : Int)] ?c2 ?c3 ?c4 ?c8 ?c5 ?c6 ?c7 ?_; (case c1 => simp [Act.eval, Act.put]); (case c2 => simp [Act.eval, Act.put]); (case c3 => rfl); (case c4 => exact news_block (heap_alloc_new wr _)); (case c8 => simp [Value.oneCell']); (case c5 => unfold maxLen; omega); (case c6 => omega); (case c7 => rw [World.size_alloc]; omega); intro v' w1 hown' hgrow _))
        go_roundw
        case rel =>
          refine ⟨k + 1, by go_num, by omega, Lib.hid ?_, Lib.hid ?_⟩
          · rw [HS.out]
            simpa [intCells] using hown'
          · exact (below_new hb.out _).grown hgrow (by rw [World.size_alloc]; omega) (fun j ej => own_at hrow.out j ej)
        case measure => simp [intOf]; omega
/-- What List hands back, read. -/
theorem list_read (s : Nat) (hs : s < 65536) (w : World) :
    Calls Tryz.prog 178 #[.int .u16 (s : Int)] w fun e w' => ∃ A c, e = .returned (.slice A (Tag.tags s).length c) ∧ IntsAt w' A ((Tag.tags s).map (fun t : Nat => (t : Int))) ∧ Below w.heap.size w w' := by
  refine (rlist_ok s hs w).mono ?_
  rintro e w' ⟨v, rfl, hrow, hb⟩
  by_cases h0 : Tag.tags s = []
  · obtain ⟨A, c, rfl⟩ : ∃ A c, v = .slice A (Tag.tags s).length c := by
      rcases hrow.2 with ⟨rfl, h⟩ | ⟨g, cap, cur, rfl, _⟩
      · exact ⟨none, 0, by rw [h]⟩
      · exact ⟨_, _, rfl⟩
    exact ⟨A, c, rfl, .inl (by rw [h0]; rfl), hb⟩
  · have hp : 0 < (Tag.tags s).length := List.length_pos_iff.2 h0
    obtain ⟨g, cap, rfl⟩ := own_form hrow hp
    refine ⟨_, _, rfl, .inr ⟨g, 0, rfl, fun i hi => ?_⟩, hb⟩
    rw [List.length_map] at hi
    have := hrow.cells (g := g) rfl i (.int .i64 ((Tag.tags s)[i] : Int)) (by simp [intCells, hi])
    rw [Addr.add_mid] at this
    rw [List.getElem_map]
    exact this
theorem join_bytes (pre : List Nat) (x : Nat) (h : pre ≠ []) : ((⟨(Tag.joinB pre).toArray⟩ : ByteArray) ++ (⟨#[44]⟩ : ByteArray)) ++ (⟨(Tag.dig x).toArray⟩ : ByteArray) = ⟨(Tag.joinB (pre ++ [x])).toArray⟩ := by
  rw [Tag.join_snoc pre x h]
  apply ByteArray.ext
  apply Array.toList_inj.1
  simp [ByteArray.data_append]
set_option maxRecDepth 100000 in
set_option maxHeartbeats 2000000 in
theorem rtext_ok (s : Nat) (hs : s < 65536) (w : World) :
    Calls Tryz.prog 127 #[.int .u16 (s : Int)] w fun e w' => e = .returned (.string ⟨(Tag.text s).toArray⟩) ∧ Below w.heap.size w w' := by
  by_cases h0 : s = 0
  · subst h0
    have HL := Lib.hid (fun w => list_read 0 (by omega) w)
    rw [show (Tag.tags 0).length = 0 from rfl] at HL
    go_enter Tryz.func127, Tryz.ntmps127
    go_wp2_with (go_at_call 178; refine (HL.out _).mono ?_; rintro e w1 ⟨A, c, rfl, _, hb⟩)
    go_ret
    exact ⟨rfl, hb⟩
  · have htx : Tag.text s = Tag.joinB (Tag.tags s) := by unfold Tag.text; rw [if_neg h0]
    have hne := Tag.tags_ne h0 hs
    have HL := Lib.hid (fun w => list_read s hs w)
    obtain ⟨T, hT⟩ : ∃ T, T = Tag.tags s := ⟨_, rfl⟩
    have h16 : ∀ t ∈ T, t < 16 := fun t ht => (Tag.tags_lt s t (by rw [← hT]; exact ht)).1
    have hT16 : T.length ≤ 16 := by rw [hT]; exact Tag.tags_le s
    rw [htx]
    rw [← hT] at HL hne ⊢
    obtain ⟨n, hn⟩ : ∃ n, n = T.length := ⟨_, rfl⟩
    have hn0 : 0 < n := by rw [hn]; exact List.length_pos_iff.2 hne
    have HN := Lib.hid hn
    have H16 := Lib.hid h16
    rw [← hn] at HL hT16
    have hni : ¬ (n : Int) = 0 := by omega
    have hnj : (0 : Int) < (n : Int) := by omega
    clear h16 hn htx hT h0
    go_enter Tryz.func127, Tryz.ntmps127
    go_upto_region 4 with (go_at_call 178; refine (HL.out _).mono ?_; rintro e w1 ⟨A, c, rfl, hi, hb⟩)
    obtain ⟨b, off, rfl, hcs⟩ : ∃ bb off, A = some ⟨bb, off, none⟩ ∧ ∀ i (h : i < T.length), w1.cell? ⟨bb, off + i, none⟩ = some (.int .i64 (T[i] : Nat)) := by
      rcases hi with h | ⟨b', off', h1, h2⟩
      · exact absurd (List.map_eq_nil_iff.1 h) hne
      · exact ⟨b', off', h1, fun i hi => by have := h2 i (by rw [List.length_map]; exact hi); rw [List.getElem_map] at this; exact this⟩
    have HCS := Lib.hid hcs
    have HB := Lib.hid hb
    clear hcs hb hi
    have hc0 := HCS.out 0 (by rw [← HN.out]; exact hn0)
    rw [Nat.add_zero] at hc0
    have h00 : T[0]'(by rw [← HN.out]; exact hn0) < 16 := H16.out _ (List.getElem_mem _)
    have hj0 : Tag.joinB (T.take 1) = Tag.dig (T[0]'(by rw [← HN.out]; exact hn0)) := by
      rw [List.take_succ_eq_append_getElem (by rw [← HN.out]; exact hn0)]
      exact Tag.join_one _
    have HJ0 := Lib.hid hj0
    generalize T[0]'(by rw [← HN.out]; exact hn0) = x0 at hc0 h00 HJ0
    clear hj0
    have H0 := Lib.hid (fun w => number_ok x0 h00 w)
    go_wp2_with (go_at_call 176; refine (H0.out _).mono ?_; rintro e w2 ⟨rfl, hw2⟩; obtain rfl := hw2.symm)
    go_loopw [4, 5] (fun x i wr => ∃ (k : Nat), i = .int .i64 (k : Int) ∧ x = .string ⟨(Tag.joinB (T.take k)).toArray⟩ ∧ 1 ≤ k ∧ k ≤ n ∧ wr = w1) (fun x i _ => n - (intOf i).toNat)
    case atStart => exact ⟨1, rfl, by rw [HJ0.out], by omega, by omega, rfl⟩
    case round =>
      obtain ⟨k, rfl, rfl, hk1, hk, rfl⟩ := hrel
      by_cases hkl : k = n
      · subst hkl
        go_wp2_with fail
        go_ret
        refine ⟨?_, HB.out⟩
        rw [List.take_of_length_le (by have := HN.out; omega)]
        rfl
      · have hkn : k < n := by omega
        have hki : (k : Int) < (n : Int) := by omega
        have hkT : k < T.length := by rw [← HN.out]; exact hkn
        have hck := HCS.out k hkT
        have hx := H16.out _ (List.getElem_mem hkT)
        have htk : T.take (k + 1) = T.take k ++ [T[k]] := List.take_succ_eq_append_getElem hkT
        generalize T[k] = x at hck hx htk
        obtain ⟨pre, hpre⟩ : ∃ pre, pre = T.take k := ⟨_, rfl⟩
        have hpl : pre.length = k := by rw [hpre, List.length_take]; omega
        have hpn : pre ≠ [] := fun e => by rw [e] at hpl; simp at hpl; omega
        rw [← hpre] at htk ⊢
        have hj := join_bytes pre x hpn
        rw [← htk] at hj
        have HJ := Lib.hid hj
        have HX := Lib.hid (fun w => number_ok x hx w)
        have l1 := Tag.join_len pre
        have l2 := (Tag.dig_len x).2
        have hc1 : ¬ 9223372036854775807 < (Tag.joinB pre).length + 1 := by omega
        have hc2 : ¬ 9223372036854775807 < (Tag.joinB pre).length + 1 + (Tag.dig x).length := by omega
        clear hkl hj htk hpre hpl hpn l1 l2
        go_wp2_with (go_at_call 176; refine (HX.out _).mono ?_; rintro e w2 ⟨rfl, hw2⟩; obtain rfl := hw2.symm)
        go_roundw
        case rel => exact ⟨k + 1, by go_num, by rw [← HJ.out], by omega, by omega, trivial⟩
        case measure => simp [intOf]; omega
end Go.Proofs.YtlmacaenbililaaGreatDoor
