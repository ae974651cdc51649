/- The conditions' alive (package forepeaklaw01): it answers true. No conditions. -/
import Derived.Test.YtaapejhoegeimaaDoorTparse
namespace Go.Proofs.YtaapejhoegeimaaDoor
open Go.RowKit Go.Shelf
set_option linter.unusedSimpArgs false
set_option linter.unusedVariables false

theorem p03 : Tag.parse ⟨#[48, 44, 51]⟩ = (9, 0) := by kernel_rfl
theorem p30 : Tag.parse ⟨#[51, 44, 48]⟩ = (0, 3) := by kernel_rfl
theorem p0 : Tag.parse ⟨#[]⟩ = (0, 3) := by kernel_rfl
theorem of4 : Tag.of [3, 0, 16, -1] = 9 := by kernel_rfl
theorem least9 : Tag.least 9 = 0 := by kernel_rfl
theorem count9 : (Tag.tags 9).length = 2 := by kernel_rfl
theorem sub89 : Tag.sub 8 9 = true := by kernel_rfl
theorem has93 : Tag.has 9 3 = true := by kernel_rfl
theorem has91 : Tag.has 9 1 = false := by kernel_rfl
theorem text0 : Tag.text 0 = [45] := rfl
theorem ints_at (w : World) (l : List Int) (t : TypeId) (i : Nat) (hi : i < l.length) : (w.alloc (.cells (l.map (Value.int .i64)).toArray t)).cell? ⟨w.heap.size, 0 + i, none⟩ = some (.int .i64 l[i]) := by
  rw [cell_of_row _ _ _ _ _ _ (heap_alloc_new w _), Nat.zero_add]; simp [hi]
set_option maxRecDepth 100000 in
set_option maxHeartbeats 2000000 in
theorem alive_ok (w : World) (hL : LaidAt w) : Calls Tryd.prog 7 #[] w fun e w' => e = .returned (.bool true) ∧ Below w.heap.size w w' := by
  have HL := Lib.hid hL
  clear hL
  have h1 := fun w => parse_ok ⟨#[48, 44, 51]⟩ (by decide) w
  have h2 := fun w => parse_ok ⟨#[51, 44, 48]⟩ (by decide) w
  have h3 := fun w => parse_ok ⟨#[]⟩ (by decide) w
  rw [p03] at h1
  rw [p30] at h2
  rw [p0] at h3
  have h4 := fun w => least_ok 9 (by omega) w
  rw [least9] at h4
  have h5 := fun w => count_ok 9 (by omega) w
  rw [count9] at h5
  have h6 := fun w => sub_ok 8 9 (by omega) (by omega) w
  rw [sub89] at h6
  have h7 := fun w => has_ok 9 (by omega) 3 w
  rw [has93] at h7
  have h8 := fun w => has_ok 9 (by omega) 1 w
  rw [has91] at h8
  have h9 := fun w => text_ok 0 (by omega) w
  rw [text0] at h9
  have h10 := fun A c w => of_ok A c [3, 0, 16, -1] (by simp) w
  rw [of4] at h10
  have H1 := Lib.hid h1
  have H2 := Lib.hid h2
  have H3 := Lib.hid h3
  have H4 := Lib.hid h4
  have H5 := Lib.hid h5
  have H6 := Lib.hid h6
  have H7 := Lib.hid h7
  have H8 := Lib.hid h8
  have H9 := Lib.hid h9
  have H10 := Lib.hid h10
  clear h1 h2 h3 h4 h5 h6 h7 h8 h9 h10
  go_enter Tryd.func7, Tryd.ntmps7
  go_wp2_with (first
    | (go_at_call 17; refine (H10.out (some ⟨w.heap.size, 0, none⟩) 4 _ (.inr ⟨w.heap.size, 0, rfl, ints_at w [3, 0, 16, -1] _⟩)).mono ?_; rintro e w1 ⟨rfl, rfl⟩; have HB1 := Lib.hid (below_new (Below.refl w.heap.size w) (.cells #[.int .i64 3, .int .i64 0, .int .i64 16, .int .i64 (-1)] 3)))
    | (have _h := HB9; go_at_call 15; refine (H6.out _).mono ?_; rintro e _ ⟨rfl, rfl⟩; have HB10 := HB9)
    | (have _h := HB8; go_at_call 12; refine (H5.out _).mono ?_; rintro e w9 ⟨rfl, hb⟩; have HB9 := Lib.hid (below_here HB8.out hb); clear hb)
    | (have _h := HB7; go_at_call 13; refine (H8.out _).mono ?_; rintro e _ ⟨rfl, rfl⟩; have HB8 := HB7)
    | (have _h := HB6; go_at_call 13; refine (H7.out _).mono ?_; rintro e _ ⟨rfl, rfl⟩; have HB7 := HB6)
    | (have _h := HB5; go_at_call 21; refine (H9.out _ (HL.out.below HB5.out).tab (HL.out.below HB5.out).pow).mono ?_; rintro e w6 ⟨rfl, hb⟩; have HB6 := Lib.hid (below_here HB5.out hb); clear hb)
    | (have _h := HB4; go_at_call 9; refine (H4.out _ (HL.out.below HB4.out).tab).mono ?_; rintro e _ ⟨rfl, rfl⟩; have HB5 := HB4)
    | (have _h := HB3; go_at_call 19; refine (H3.out _ (HL.out.below HB3.out)).mono ?_; rintro e w4 ⟨rfl, hb⟩; have HB4 := Lib.hid (below_here HB3.out hb); clear hb)
    | (have _h := HB2; go_at_call 19; refine (H2.out _ (HL.out.below HB2.out)).mono ?_; rintro e w3 ⟨rfl, hb⟩; have HB3 := Lib.hid (below_here HB2.out hb); clear hb)
    | (have _h := HB1; go_at_call 19; refine (H1.out _ (HL.out.below HB1.out)).mono ?_; rintro e w2 ⟨rfl, hb⟩; have HB2 := Lib.hid (below_here HB1.out hb); clear hb))
  go_ret
  exact ⟨rfl, HB10.out⟩
end Go.Proofs.YtaapejhoegeimaaDoor
