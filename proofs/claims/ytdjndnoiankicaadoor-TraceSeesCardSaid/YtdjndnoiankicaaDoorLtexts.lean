/- LabelTexts: the walk. No conditions. -/
import Derived.Test.YtdjndnoiankicaaDoorLalive
import Derived.Test.YtdjndnoiankicaaDoorLrefd
namespace Go.Proofs.YtdjndnoiankicaaDoor
open Go.RowKit Go.Shelf
set_option linter.unusedSimpArgs false
set_option linter.unusedVariables false
attribute [local go_sem] cell_over frozen_over

/-- A block holds a label. -/
def LabIn (b : Nat) (a : Lab.L) (W : World) : Prop := W.heap[b]? = some (.cells #[.int .u16 (a.1 : Int), .int .u16 (a.2 : Int)] 24 (0, 0))
theorem LabIn.below {b : Nat} {a : Lab.L} {W W' : World} (h : LabIn b a W) (hb : Below W.heap.size W W') : LabIn b a W' := block_below hb h
theorem LabIn.new (W : World) (a : Lab.L) : LabIn W.heap.size a (W.alloc (.cells #[.int .u16 (a.1 : Int), .int .u16 (a.2 : Int)] 24)) := heap_alloc_new _ _
theorem LabIn.cells {b : Nat} {a : Lab.L} {W : World} (h : LabIn b a W) : W.cell? ⟨b, 0, none⟩ = some (.int .u16 (a.1 : Int)) ∧ W.cell? ⟨b, 1, none⟩ = some (.int .u16 (a.2 : Int)) ∧ b < W.heap.size :=
  ⟨(pair_cells h).1, (pair_cells h).2.1, World.block_lt_of_cell? W _ (pair_cells h).1⟩
theorem below_old (w : World) (o : Obj) : Below w.heap.size w (w.alloc o) := below_new (Below.refl _ _) o
set_option maxRecDepth 100000 in
set_option maxHeartbeats 4000000 in
theorem ltexts_ok (a : Lab.L) (ha : Lab.ok a) (s : ByteArray) (w : World) (hL : LaidAt w) :
    Calls Tryd.prog 5 #[labV a, .string s] w fun e w' => e = .returned (.bool true) ∧ Below w.heap.size w w' := by
  have HL := Lib.hid hL
  have HL0 := Lib.hid (hL.below (below_old w (.cells #[.int .u16 (a.1 : Int), .int .u16 (a.2 : Int)] 24)))
  clear hL
  by_cases h300 : (300 : Int) < (s.size : Int)
  · go_enter Tryd.func5, Tryd.ntmps5
    go_wp2_with (go_at_call 21; refine (lalive_ok _ HL0.out).mono ?_; rintro e w1 ⟨rfl, hb1⟩)
    go_ret
    exact ⟨rfl, below_here (below_old _ _) hb1⟩
  · have HP := Lib.hid (fun w h => lparse_ok s (by omega) w h)
    have HR := Lib.hid (fun w => rlparse_ok s (by omega) w)
    have HT := Lib.hid (fun (w : World) (h : LaidAt w) => ltext_ok a ha w h.tab h.pow)
    have HU := Lib.hid (fun w => rltext_ok a ha w)
    have HX := Lib.hid (fun w h => lparse_ok ⟨(Lab.text a).toArray⟩ (by have := Lab.text_len a; simp [ByteArray.size]; omega) w h)
    rw [show (⟨(Lab.text a).toArray⟩ : ByteArray).data.toList = Lab.text a from rfl, Lab.parse_text a ha] at HX
    generalize (⟨(Lab.text a).toArray⟩ : ByteArray) = X at HT HU HX
    have hXX : (X.toList == X.toList) = true := (Lib.bytes_beq_iff _ _).2 rfl
    unfold Lab.parse at HP
    generalize Lab.rparse s.data.toList = r at HP HR
    have h0 := LabIn.new w a
    cases r with
    | none =>
      simp only at HP HR
      generalize ((0, 0) : Lab.L) = z at HP HR
      go_enter Tryd.func5, Tryd.ntmps5
      go_upto_region 6 with (first
        | (have _h := HB3; go_at_call 25; refine (HX.out _ (HL0.out.below HB3.out)).mono ?_; rintro e w4 ⟨rfl, hb4⟩; have HI4 := Lib.hid (HI3.out.below hb4); have HJ4 := Lib.hid (HJ3.out.below hb4); have HK4 := Lib.hid (HK3.out.below hb4); have HB4 := Lib.hid (below_here HB3.out hb4); clear hb4)
        | (have _h := HB2; go_at_call 27; refine (HT.out _ (HL0.out.below (below_new HB2.out _))).mono ?_; rintro e w3 ⟨rfl, hb3⟩; have HI3 := Lib.hid ((HI2.out.below (below_old _ _)).below hb3); have HJ3 := Lib.hid ((HJ2.out.below (below_old _ _)).below hb3); have HK3 := Lib.hid ((LabIn.new _ _).below hb3); have HB3 := Lib.hid (below_here (below_new HB2.out _) hb3); clear hb3)
        | (have _h := HB1; go_at_call 26; refine (HR.out _).mono ?_; rintro e w2 ⟨rfl, hb2⟩; have hi := ((HI1.out.below (below_old _ _)).below hb2); obtain ⟨i0, i1, i2⟩ := hi.cells; have HI2 := Lib.hid hi; have HJ2 := Lib.hid ((LabIn.new _ _).below hb2); have HB2 := Lib.hid (below_here (below_new HB1.out _) hb2); clear hb2 hi)
        | (go_at_call 25; refine (HP.out _ HL0.out).mono ?_; rintro e w1 ⟨rfl, hb1⟩; have HI1 := Lib.hid (h0.below hb1); have HB1 := Lib.hid hb1; clear hb1))
      obtain ⟨i0, i1, i2⟩ := HI4.out.cells
      obtain ⟨j0, j1, j2⟩ := HJ4.out.cells
      obtain ⟨k0, k1, k2⟩ := HK4.out.cells
      have HB5 := Lib.hid (below_new HB4.out (.cells #[.int .u16 (a.1 : Int), .int .u16 (a.2 : Int)] 24))
      have hlt := World.size_alloc w4 (.cells #[.int .u16 (a.1 : Int), .int .u16 (a.2 : Int)] 24)
      have HLT := Lib.hid hlt
      clear hlt
      refine wp_region_over (by kernel_rfl) (by kernel_rfl) ?_
      repeat (go_big_quiet_step (first
        | ((go_at_call 27; exact Calls.over_of (HT.out _ ((HL0.out.below HB5.out).below (over_below _ _)))))
        | ((go_at_call 28; exact Calls.over_of (HU.out _)))
        | ((go_at_call 21; exact Calls.over_of (lalive_ok _ ((HL0.out.below HB5.out).below (over_below _ _)))))))
      refine wpQuiet_nil ?_
      intro W7 hW7
      have hb7 := below_of_over hW7
      clear hW7
      go_wp2_with fail
      go_ret
      exact ⟨rfl, below_here (below_old _ _) (below_here HB5.out hb7)⟩
    | some z =>
      simp only at HP HR
      go_enter Tryd.func5, Tryd.ntmps5
      go_upto_region 6 with (first
        | (have _h := HB3; go_at_call 25; refine (HX.out _ (HL0.out.below HB3.out)).mono ?_; rintro e w4 ⟨rfl, hb4⟩; have HI4 := Lib.hid (HI3.out.below hb4); have HJ4 := Lib.hid (HJ3.out.below hb4); have HK4 := Lib.hid (HK3.out.below hb4); have HB4 := Lib.hid (below_here HB3.out hb4); clear hb4)
        | (have _h := HB2; go_at_call 27; refine (HT.out _ (HL0.out.below (below_new HB2.out _))).mono ?_; rintro e w3 ⟨rfl, hb3⟩; have HI3 := Lib.hid ((HI2.out.below (below_old _ _)).below hb3); have HJ3 := Lib.hid ((HJ2.out.below (below_old _ _)).below hb3); have HK3 := Lib.hid ((LabIn.new _ _).below hb3); have HB3 := Lib.hid (below_here (below_new HB2.out _) hb3); clear hb3)
        | (have _h := HB1; go_at_call 26; refine (HR.out _).mono ?_; rintro e w2 ⟨rfl, hb2⟩; have hi := ((HI1.out.below (below_old _ _)).below hb2); obtain ⟨i0, i1, i2⟩ := hi.cells; have HI2 := Lib.hid hi; have HJ2 := Lib.hid ((LabIn.new _ _).below hb2); have HB2 := Lib.hid (below_here (below_new HB1.out _) hb2); clear hb2 hi)
        | (go_at_call 25; refine (HP.out _ HL0.out).mono ?_; rintro e w1 ⟨rfl, hb1⟩; have HI1 := Lib.hid (h0.below hb1); have HB1 := Lib.hid hb1; clear hb1))
      obtain ⟨i0, i1, i2⟩ := HI4.out.cells
      obtain ⟨j0, j1, j2⟩ := HJ4.out.cells
      obtain ⟨k0, k1, k2⟩ := HK4.out.cells
      have HB5 := Lib.hid (below_new HB4.out (.cells #[.int .u16 (a.1 : Int), .int .u16 (a.2 : Int)] 24))
      have hlt := World.size_alloc w4 (.cells #[.int .u16 (a.1 : Int), .int .u16 (a.2 : Int)] 24)
      have HLT := Lib.hid hlt
      clear hlt
      refine wp_region_over (by kernel_rfl) (by kernel_rfl) ?_
      repeat (go_big_quiet_step (first
        | ((go_at_call 27; exact Calls.over_of (HT.out _ ((HL0.out.below HB5.out).below (over_below _ _)))))
        | ((go_at_call 28; exact Calls.over_of (HU.out _)))
        | ((go_at_call 21; exact Calls.over_of (lalive_ok _ ((HL0.out.below HB5.out).below (over_below _ _)))))))
      refine wpQuiet_nil ?_
      intro W7 hW7
      have hb7 := below_of_over hW7
      clear hW7
      go_wp2_with fail
      go_ret
      exact ⟨rfl, below_here (below_old _ _) (below_here HB5.out hb7)⟩
end Go.Proofs.YtdjndnoiankicaaDoor
