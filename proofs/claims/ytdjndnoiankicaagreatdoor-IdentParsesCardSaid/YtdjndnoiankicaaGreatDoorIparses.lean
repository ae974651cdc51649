/- IdentParses: the walk. No conditions. -/
import Derived.Test.YtdjndnoiankicaaGreatDoorRidd
import Derived.Test.YtdjndnoiankicaaGreatDoorIalive
namespace Go.Proofs.YtdjndnoiankicaaGreatDoor
open Go.RowKit Go.Shelf
set_option linter.unusedSimpArgs false
set_option linter.unusedVariables false
attribute [local go_sem] cell_over frozen_over

theorem iparses_big (s : ByteArray) (hs : 200 < s.size) (a : Idn.I) (w : World) (hL : LaidAt w) :
    Calls Tryz.prog 4 #[.string s, idV a] w fun r w' => r = .returned (.bool true) ∧ Below w.heap.size w w' := by
  have hni : (200 : Int) < (s.size : Int) := by omega
  have HBW := Lib.hid (below_fresh w (.cells #[.int .u16 (a.1.1 : Int), .int .u16 (a.1.2 : Int), .int .i64 a.2.1, .int .i64 a.2.2] 26))
  have HL := Lib.hid (ialive_ok _ (hL.below HBW.out))
  clear hL hs
  go_enter Tryz.func4, Tryz.ntmps4
  go_wp2_with fail
  refine HL.out.mono ?_
  rintro r w1 ⟨rfl, hb1⟩
  go_wp2_with fail
  go_ret
  exact ⟨rfl, below_here HBW.out hb1⟩
theorem idtext_size (x : Idn.I) : (⟨(Idn.text x).toArray⟩ : ByteArray).size ≤ 1000 := by
  show (Idn.text x).toArray.size ≤ 1000
  rw [List.size_toArray]
  unfold Idn.text
  split
  · have := Lab.text_len x.1
    simp; omega
  · simp
set_option maxRecDepth 100000 in
set_option maxHeartbeats 8000000 in
theorem iparses_few (s : ByteArray) (hs : s.size ≤ 200) (a : Idn.I) (ha : Lab.ok a.1) (w : World) (hL : LaidAt w) :
    Calls Tryz.prog 4 #[.string s, idV a] w fun r w' => r = .returned (.bool true) ∧ Below w.heap.size w w' := by
  have hni : ¬ (200 : Int) < (s.size : Int) := by omega
  have HB := Lib.hid (below_fresh w (.cells #[.int .u16 (a.1.1 : Int), .int .u16 (a.1.2 : Int), .int .i64 a.2.1, .int .i64 a.2.2] 26))
  have HA := Lib.hid (show IdIn w.heap.size a (w.alloc (.cells #[.int .u16 (a.1.1 : Int), .int .u16 (a.1.2 : Int), .int .i64 a.2.1, .int .i64 a.2.2] 26)) from heap_alloc_new w _)
  have HLw := Lib.hid hL
  have HP := Lib.hid (fun w h => iparse_ok s (by omega) w h)
  have HQ := Lib.hid (fun w => ridparse_ok s (by omega) w)
  have HTX := Lib.hid (fun w hT hW => itext_ok a ha w hT hW)
  have HZ := Lib.hid (fun w h => iparse_ok ⟨(Idn.text a).toArray⟩ (idtext_size a) w h)
  have HF := Lib.hid (fun w => rfine_ok a w)
  have hz : Idn.parse (⟨(Idn.text a).toArray⟩ : ByteArray).data.toList = if Idn.fine a = true then (a, 0) else (Idn.zero, 3) := by
    rw [show (⟨(Idn.text a).toArray⟩ : ByteArray).data.toList = Idn.text a from by simp]
    by_cases h : Idn.fine a = true
    · rw [if_pos h]; exact Idn.parse_text ha h
    · rw [if_neg h]; exact Idn.parse_nofine (by simpa using h)
  rw [hz] at HZ
  have hp := Idn.parse_zero s.data.toList
  generalize Idn.parse s.data.toList = q at HP HQ hp
  obtain ⟨x, c⟩ := q
  generalize (⟨(Idn.text a).toArray⟩ : ByteArray) = tx at HTX HZ
  generalize Idn.fine a = d at HF HZ
  clear hL ha hz hs
  have hways : c = 0 ∨ (x = Idn.zero ∧ c = 3) := by
    rcases hp with h | h
    · exact .inl h
    · exact .inr (by simpa using h)
  clear hp
  rcases hways with rfl | ⟨rfl, rfl⟩
  · rw [show decide ((x, (0 : Int)).2 = 0) = true from rfl] at HQ
    simp only at HP HQ
    cases d with
    | true =>
      simp only [if_true] at HZ
      go_enter Tryz.func4, Tryz.ntmps4
      go_wp2_with fail
      refine (HP.out _ (HLw.out.below HB.out)).mono ?_
      rintro r w1 ⟨rfl, hb⟩
      replace HA := Lib.hid (HA.out.below hb)
      replace HB := Lib.hid (below_here HB.out hb)
      clear hb
      have HX := Lib.hid (show IdIn w1.heap.size x (w1.alloc (.cells #[.int .u16 (x.1.1 : Int), .int .u16 (x.1.2 : Int), .int .i64 x.2.1, .int .i64 x.2.2] 26)) from heap_alloc_new w1 _)
      replace HA := Lib.hid (HA.out.below (below_fresh w1 (.cells #[.int .u16 (x.1.1 : Int), .int .u16 (x.1.2 : Int), .int .i64 x.2.1, .int .i64 x.2.2] 26)))
      replace HB := Lib.hid (below_new HB.out (.cells #[.int .u16 (x.1.1 : Int), .int .u16 (x.1.2 : Int), .int .i64 x.2.1, .int .i64 x.2.2] 26))
      go_wp2_with fail
      refine (HQ.out _).mono ?_
      rintro r w2 ⟨rfl, hb⟩
      replace HA := Lib.hid (HA.out.below hb)
      replace HX := Lib.hid (HX.out.below hb)
      replace HB := Lib.hid (below_here HB.out hb)
      clear hb
      have HY := Lib.hid (show IdIn w2.heap.size x (w2.alloc (.cells #[.int .u16 (x.1.1 : Int), .int .u16 (x.1.2 : Int), .int .i64 x.2.1, .int .i64 x.2.2] 26)) from heap_alloc_new w2 _)
      replace HA := Lib.hid (HA.out.below (below_fresh w2 (.cells #[.int .u16 (x.1.1 : Int), .int .u16 (x.1.2 : Int), .int .i64 x.2.1, .int .i64 x.2.2] 26)))
      replace HX := Lib.hid (HX.out.below (below_fresh w2 (.cells #[.int .u16 (x.1.1 : Int), .int .u16 (x.1.2 : Int), .int .i64 x.2.1, .int .i64 x.2.2] 26)))
      replace HB := Lib.hid (below_new HB.out (.cells #[.int .u16 (x.1.1 : Int), .int .u16 (x.1.2 : Int), .int .i64 x.2.1, .int .i64 x.2.2] 26))
      obtain ⟨⟨a0, a1, a2, a3⟩, a4, a5, a6, a7, a8⟩ := quad_cells HA.out
      obtain ⟨⟨x0, x1, x2, x3⟩, x4, x5, x6, x7, x8⟩ := quad_cells HX.out
      go_wp2_with fail
      refine (HTX.out _ (HLw.out.below HB.out).tab (HLw.out.below HB.out).pow).mono ?_
      rintro r w3 ⟨rfl, hb⟩
      replace HA := Lib.hid (HA.out.below hb)
      replace HB := Lib.hid (below_here HB.out hb)
      clear hb
      clear a0 a1 a2 a3 a4 a5 a6 a7 a8
      clear x0 x1 x2 x3 x4 x5 x6 x7 x8
      clear HX HY
      go_wp2_with fail
      refine (HZ.out _ (HLw.out.below HB.out)).mono ?_
      rintro r w4 ⟨rfl, hb⟩
      replace HA := Lib.hid (HA.out.below hb)
      replace HB := Lib.hid (below_here HB.out hb)
      clear hb
      have HZZ := Lib.hid (show IdIn w4.heap.size a (w4.alloc (.cells #[.int .u16 (a.1.1 : Int), .int .u16 (a.1.2 : Int), .int .i64 a.2.1, .int .i64 a.2.2] 26)) from heap_alloc_new w4 _)
      replace HA := Lib.hid (HA.out.below (below_fresh w4 (.cells #[.int .u16 (a.1.1 : Int), .int .u16 (a.1.2 : Int), .int .i64 a.2.1, .int .i64 a.2.2] 26)))
      replace HB := Lib.hid (below_new HB.out (.cells #[.int .u16 (a.1.1 : Int), .int .u16 (a.1.2 : Int), .int .i64 a.2.1, .int .i64 a.2.2] 26))
      obtain ⟨⟨a0, a1, a2, a3⟩, a4, a5, a6, a7, a8⟩ := quad_cells HA.out
      go_wp2_with fail
      refine (HF.out _).mono ?_
      rintro r w5 ⟨rfl, hb⟩
      replace HA := Lib.hid (HA.out.below hb)
      replace HZZ := Lib.hid (HZZ.out.below hb)
      replace HB := Lib.hid (below_here HB.out hb)
      clear hb
      clear a0 a1 a2 a3 a4 a5 a6 a7 a8
      obtain ⟨⟨a0, a1, a2, a3⟩, a4, a5, a6, a7, a8⟩ := quad_cells HA.out
      obtain ⟨⟨z0, z1, z2, z3⟩, z4, z5, z6, z7, z8⟩ := quad_cells HZZ.out
      go_wp2_with fail
      refine (ialive_ok _ (HLw.out.below HB.out)).mono ?_
      rintro r w6 ⟨rfl, hb⟩
      go_wp2_with fail
      go_ret
      exact ⟨rfl, below_here HB.out hb⟩
    | false =>
      simp only [Bool.false_eq_true, if_false] at HZ
      go_enter Tryz.func4, Tryz.ntmps4
      go_wp2_with fail
      refine (HP.out _ (HLw.out.below HB.out)).mono ?_
      rintro r w1 ⟨rfl, hb⟩
      replace HA := Lib.hid (HA.out.below hb)
      replace HB := Lib.hid (below_here HB.out hb)
      clear hb
      have HX := Lib.hid (show IdIn w1.heap.size x (w1.alloc (.cells #[.int .u16 (x.1.1 : Int), .int .u16 (x.1.2 : Int), .int .i64 x.2.1, .int .i64 x.2.2] 26)) from heap_alloc_new w1 _)
      replace HA := Lib.hid (HA.out.below (below_fresh w1 (.cells #[.int .u16 (x.1.1 : Int), .int .u16 (x.1.2 : Int), .int .i64 x.2.1, .int .i64 x.2.2] 26)))
      replace HB := Lib.hid (below_new HB.out (.cells #[.int .u16 (x.1.1 : Int), .int .u16 (x.1.2 : Int), .int .i64 x.2.1, .int .i64 x.2.2] 26))
      go_wp2_with fail
      refine (HQ.out _).mono ?_
      rintro r w2 ⟨rfl, hb⟩
      replace HA := Lib.hid (HA.out.below hb)
      replace HX := Lib.hid (HX.out.below hb)
      replace HB := Lib.hid (below_here HB.out hb)
      clear hb
      have HY := Lib.hid (show IdIn w2.heap.size x (w2.alloc (.cells #[.int .u16 (x.1.1 : Int), .int .u16 (x.1.2 : Int), .int .i64 x.2.1, .int .i64 x.2.2] 26)) from heap_alloc_new w2 _)
      replace HA := Lib.hid (HA.out.below (below_fresh w2 (.cells #[.int .u16 (x.1.1 : Int), .int .u16 (x.1.2 : Int), .int .i64 x.2.1, .int .i64 x.2.2] 26)))
      replace HX := Lib.hid (HX.out.below (below_fresh w2 (.cells #[.int .u16 (x.1.1 : Int), .int .u16 (x.1.2 : Int), .int .i64 x.2.1, .int .i64 x.2.2] 26)))
      replace HB := Lib.hid (below_new HB.out (.cells #[.int .u16 (x.1.1 : Int), .int .u16 (x.1.2 : Int), .int .i64 x.2.1, .int .i64 x.2.2] 26))
      obtain ⟨⟨a0, a1, a2, a3⟩, a4, a5, a6, a7, a8⟩ := quad_cells HA.out
      obtain ⟨⟨x0, x1, x2, x3⟩, x4, x5, x6, x7, x8⟩ := quad_cells HX.out
      go_wp2_with fail
      refine (HTX.out _ (HLw.out.below HB.out).tab (HLw.out.below HB.out).pow).mono ?_
      rintro r w3 ⟨rfl, hb⟩
      replace HA := Lib.hid (HA.out.below hb)
      replace HB := Lib.hid (below_here HB.out hb)
      clear hb
      clear a0 a1 a2 a3 a4 a5 a6 a7 a8
      clear x0 x1 x2 x3 x4 x5 x6 x7 x8
      clear HX HY
      go_wp2_with fail
      refine (HZ.out _ (HLw.out.below HB.out)).mono ?_
      rintro r w4 ⟨rfl, hb⟩
      replace HA := Lib.hid (HA.out.below hb)
      replace HB := Lib.hid (below_here HB.out hb)
      clear hb
      have HZZ := Lib.hid (show IdIn w4.heap.size Idn.zero (w4.alloc (.cells #[.int .u16 (Idn.zero.1.1 : Int), .int .u16 (Idn.zero.1.2 : Int), .int .i64 Idn.zero.2.1, .int .i64 Idn.zero.2.2] 26)) from heap_alloc_new w4 _)
      replace HA := Lib.hid (HA.out.below (below_fresh w4 (.cells #[.int .u16 (Idn.zero.1.1 : Int), .int .u16 (Idn.zero.1.2 : Int), .int .i64 Idn.zero.2.1, .int .i64 Idn.zero.2.2] 26)))
      replace HB := Lib.hid (below_new HB.out (.cells #[.int .u16 (Idn.zero.1.1 : Int), .int .u16 (Idn.zero.1.2 : Int), .int .i64 Idn.zero.2.1, .int .i64 Idn.zero.2.2] 26))
      obtain ⟨⟨a0, a1, a2, a3⟩, a4, a5, a6, a7, a8⟩ := quad_cells HA.out
      go_wp2_with fail
      refine (HF.out _).mono ?_
      rintro r w5 ⟨rfl, hb⟩
      replace HA := Lib.hid (HA.out.below hb)
      replace HZZ := Lib.hid (HZZ.out.below hb)
      replace HB := Lib.hid (below_here HB.out hb)
      clear hb
      clear a0 a1 a2 a3 a4 a5 a6 a7 a8
      obtain ⟨⟨a0, a1, a2, a3⟩, a4, a5, a6, a7, a8⟩ := quad_cells HA.out
      obtain ⟨⟨z0, z1, z2, z3⟩, z4, z5, z6, z7, z8⟩ := quad_cells HZZ.out
      go_wp2_with fail
      refine (ialive_ok _ (HLw.out.below HB.out)).mono ?_
      rintro r w6 ⟨rfl, hb⟩
      go_wp2_with fail
      go_ret
      exact ⟨rfl, below_here HB.out hb⟩
  · rw [show decide ((Idn.zero, (3 : Int)).2 = 0) = false from rfl] at HQ
    simp only at HP HQ
    cases d with
    | true =>
      simp only [if_true] at HZ
      go_enter Tryz.func4, Tryz.ntmps4
      go_wp2_with fail
      refine (HP.out _ (HLw.out.below HB.out)).mono ?_
      rintro r w1 ⟨rfl, hb⟩
      replace HA := Lib.hid (HA.out.below hb)
      replace HB := Lib.hid (below_here HB.out hb)
      clear hb
      have HX := Lib.hid (show IdIn w1.heap.size Idn.zero (w1.alloc (.cells #[.int .u16 (Idn.zero.1.1 : Int), .int .u16 (Idn.zero.1.2 : Int), .int .i64 Idn.zero.2.1, .int .i64 Idn.zero.2.2] 26)) from heap_alloc_new w1 _)
      replace HA := Lib.hid (HA.out.below (below_fresh w1 (.cells #[.int .u16 (Idn.zero.1.1 : Int), .int .u16 (Idn.zero.1.2 : Int), .int .i64 Idn.zero.2.1, .int .i64 Idn.zero.2.2] 26)))
      replace HB := Lib.hid (below_new HB.out (.cells #[.int .u16 (Idn.zero.1.1 : Int), .int .u16 (Idn.zero.1.2 : Int), .int .i64 Idn.zero.2.1, .int .i64 Idn.zero.2.2] 26))
      go_wp2_with fail
      refine (HQ.out _).mono ?_
      rintro r w2 ⟨rfl, hb⟩
      replace HA := Lib.hid (HA.out.below hb)
      replace HX := Lib.hid (HX.out.below hb)
      replace HB := Lib.hid (below_here HB.out hb)
      clear hb
      have HY := Lib.hid (show IdIn w2.heap.size Idn.zero (w2.alloc (.cells #[.int .u16 (Idn.zero.1.1 : Int), .int .u16 (Idn.zero.1.2 : Int), .int .i64 Idn.zero.2.1, .int .i64 Idn.zero.2.2] 26)) from heap_alloc_new w2 _)
      replace HA := Lib.hid (HA.out.below (below_fresh w2 (.cells #[.int .u16 (Idn.zero.1.1 : Int), .int .u16 (Idn.zero.1.2 : Int), .int .i64 Idn.zero.2.1, .int .i64 Idn.zero.2.2] 26)))
      replace HX := Lib.hid (HX.out.below (below_fresh w2 (.cells #[.int .u16 (Idn.zero.1.1 : Int), .int .u16 (Idn.zero.1.2 : Int), .int .i64 Idn.zero.2.1, .int .i64 Idn.zero.2.2] 26)))
      replace HB := Lib.hid (below_new HB.out (.cells #[.int .u16 (Idn.zero.1.1 : Int), .int .u16 (Idn.zero.1.2 : Int), .int .i64 Idn.zero.2.1, .int .i64 Idn.zero.2.2] 26))
      obtain ⟨⟨a0, a1, a2, a3⟩, a4, a5, a6, a7, a8⟩ := quad_cells HA.out
      obtain ⟨⟨x0, x1, x2, x3⟩, x4, x5, x6, x7, x8⟩ := quad_cells HX.out
      go_wp2_with fail
      refine (HTX.out _ (HLw.out.below HB.out).tab (HLw.out.below HB.out).pow).mono ?_
      rintro r w3 ⟨rfl, hb⟩
      replace HA := Lib.hid (HA.out.below hb)
      replace HB := Lib.hid (below_here HB.out hb)
      clear hb
      clear a0 a1 a2 a3 a4 a5 a6 a7 a8
      clear x0 x1 x2 x3 x4 x5 x6 x7 x8
      clear HX HY
      go_wp2_with fail
      refine (HZ.out _ (HLw.out.below HB.out)).mono ?_
      rintro r w4 ⟨rfl, hb⟩
      replace HA := Lib.hid (HA.out.below hb)
      replace HB := Lib.hid (below_here HB.out hb)
      clear hb
      have HZZ := Lib.hid (show IdIn w4.heap.size a (w4.alloc (.cells #[.int .u16 (a.1.1 : Int), .int .u16 (a.1.2 : Int), .int .i64 a.2.1, .int .i64 a.2.2] 26)) from heap_alloc_new w4 _)
      replace HA := Lib.hid (HA.out.below (below_fresh w4 (.cells #[.int .u16 (a.1.1 : Int), .int .u16 (a.1.2 : Int), .int .i64 a.2.1, .int .i64 a.2.2] 26)))
      replace HB := Lib.hid (below_new HB.out (.cells #[.int .u16 (a.1.1 : Int), .int .u16 (a.1.2 : Int), .int .i64 a.2.1, .int .i64 a.2.2] 26))
      obtain ⟨⟨a0, a1, a2, a3⟩, a4, a5, a6, a7, a8⟩ := quad_cells HA.out
      go_wp2_with fail
      refine (HF.out _).mono ?_
      rintro r w5 ⟨rfl, hb⟩
      replace HA := Lib.hid (HA.out.below hb)
      replace HZZ := Lib.hid (HZZ.out.below hb)
      replace HB := Lib.hid (below_here HB.out hb)
      clear hb
      clear a0 a1 a2 a3 a4 a5 a6 a7 a8
      obtain ⟨⟨a0, a1, a2, a3⟩, a4, a5, a6, a7, a8⟩ := quad_cells HA.out
      obtain ⟨⟨z0, z1, z2, z3⟩, z4, z5, z6, z7, z8⟩ := quad_cells HZZ.out
      go_wp2_with fail
      refine (ialive_ok _ (HLw.out.below HB.out)).mono ?_
      rintro r w6 ⟨rfl, hb⟩
      go_wp2_with fail
      go_ret
      exact ⟨rfl, below_here HB.out hb⟩
    | false =>
      simp only [Bool.false_eq_true, if_false] at HZ
      go_enter Tryz.func4, Tryz.ntmps4
      go_wp2_with fail
      refine (HP.out _ (HLw.out.below HB.out)).mono ?_
      rintro r w1 ⟨rfl, hb⟩
      replace HA := Lib.hid (HA.out.below hb)
      replace HB := Lib.hid (below_here HB.out hb)
      clear hb
      have HX := Lib.hid (show IdIn w1.heap.size Idn.zero (w1.alloc (.cells #[.int .u16 (Idn.zero.1.1 : Int), .int .u16 (Idn.zero.1.2 : Int), .int .i64 Idn.zero.2.1, .int .i64 Idn.zero.2.2] 26)) from heap_alloc_new w1 _)
      replace HA := Lib.hid (HA.out.below (below_fresh w1 (.cells #[.int .u16 (Idn.zero.1.1 : Int), .int .u16 (Idn.zero.1.2 : Int), .int .i64 Idn.zero.2.1, .int .i64 Idn.zero.2.2] 26)))
      replace HB := Lib.hid (below_new HB.out (.cells #[.int .u16 (Idn.zero.1.1 : Int), .int .u16 (Idn.zero.1.2 : Int), .int .i64 Idn.zero.2.1, .int .i64 Idn.zero.2.2] 26))
      go_wp2_with fail
      refine (HQ.out _).mono ?_
      rintro r w2 ⟨rfl, hb⟩
      replace HA := Lib.hid (HA.out.below hb)
      replace HX := Lib.hid (HX.out.below hb)
      replace HB := Lib.hid (below_here HB.out hb)
      clear hb
      have HY := Lib.hid (show IdIn w2.heap.size Idn.zero (w2.alloc (.cells #[.int .u16 (Idn.zero.1.1 : Int), .int .u16 (Idn.zero.1.2 : Int), .int .i64 Idn.zero.2.1, .int .i64 Idn.zero.2.2] 26)) from heap_alloc_new w2 _)
      replace HA := Lib.hid (HA.out.below (below_fresh w2 (.cells #[.int .u16 (Idn.zero.1.1 : Int), .int .u16 (Idn.zero.1.2 : Int), .int .i64 Idn.zero.2.1, .int .i64 Idn.zero.2.2] 26)))
      replace HX := Lib.hid (HX.out.below (below_fresh w2 (.cells #[.int .u16 (Idn.zero.1.1 : Int), .int .u16 (Idn.zero.1.2 : Int), .int .i64 Idn.zero.2.1, .int .i64 Idn.zero.2.2] 26)))
      replace HB := Lib.hid (below_new HB.out (.cells #[.int .u16 (Idn.zero.1.1 : Int), .int .u16 (Idn.zero.1.2 : Int), .int .i64 Idn.zero.2.1, .int .i64 Idn.zero.2.2] 26))
      obtain ⟨⟨a0, a1, a2, a3⟩, a4, a5, a6, a7, a8⟩ := quad_cells HA.out
      obtain ⟨⟨x0, x1, x2, x3⟩, x4, x5, x6, x7, x8⟩ := quad_cells HX.out
      go_wp2_with fail
      refine (HTX.out _ (HLw.out.below HB.out).tab (HLw.out.below HB.out).pow).mono ?_
      rintro r w3 ⟨rfl, hb⟩
      replace HA := Lib.hid (HA.out.below hb)
      replace HB := Lib.hid (below_here HB.out hb)
      clear hb
      clear a0 a1 a2 a3 a4 a5 a6 a7 a8
      clear x0 x1 x2 x3 x4 x5 x6 x7 x8
      clear HX HY
      go_wp2_with fail
      refine (HZ.out _ (HLw.out.below HB.out)).mono ?_
      rintro r w4 ⟨rfl, hb⟩
      replace HA := Lib.hid (HA.out.below hb)
      replace HB := Lib.hid (below_here HB.out hb)
      clear hb
      have HZZ := Lib.hid (show IdIn w4.heap.size Idn.zero (w4.alloc (.cells #[.int .u16 (Idn.zero.1.1 : Int), .int .u16 (Idn.zero.1.2 : Int), .int .i64 Idn.zero.2.1, .int .i64 Idn.zero.2.2] 26)) from heap_alloc_new w4 _)
      replace HA := Lib.hid (HA.out.below (below_fresh w4 (.cells #[.int .u16 (Idn.zero.1.1 : Int), .int .u16 (Idn.zero.1.2 : Int), .int .i64 Idn.zero.2.1, .int .i64 Idn.zero.2.2] 26)))
      replace HB := Lib.hid (below_new HB.out (.cells #[.int .u16 (Idn.zero.1.1 : Int), .int .u16 (Idn.zero.1.2 : Int), .int .i64 Idn.zero.2.1, .int .i64 Idn.zero.2.2] 26))
      obtain ⟨⟨a0, a1, a2, a3⟩, a4, a5, a6, a7, a8⟩ := quad_cells HA.out
      go_wp2_with fail
      refine (HF.out _).mono ?_
      rintro r w5 ⟨rfl, hb⟩
      replace HA := Lib.hid (HA.out.below hb)
      replace HZZ := Lib.hid (HZZ.out.below hb)
      replace HB := Lib.hid (below_here HB.out hb)
      clear hb
      clear a0 a1 a2 a3 a4 a5 a6 a7 a8
      obtain ⟨⟨a0, a1, a2, a3⟩, a4, a5, a6, a7, a8⟩ := quad_cells HA.out
      obtain ⟨⟨z0, z1, z2, z3⟩, z4, z5, z6, z7, z8⟩ := quad_cells HZZ.out
      go_wp2_with fail
      refine (ialive_ok _ (HLw.out.below HB.out)).mono ?_
      rintro r w6 ⟨rfl, hb⟩
      go_wp2_with fail
      go_ret
      exact ⟨rfl, below_here HB.out hb⟩
theorem iparses_ok (s : ByteArray) (a : Idn.I) (ha : Lab.ok a.1) (w : World) (hL : LaidAt w) :
    Calls Tryz.prog 4 #[.string s, idV a] w fun r w' => r = .returned (.bool true) ∧ Below w.heap.size w w' := by
  by_cases h : s.size ≤ 200
  · exact iparses_few s h a ha w hL
  · exact iparses_big s (by omega) a w hL
end Go.Proofs.YtdjndnoiankicaaGreatDoor
