/- LabelOrder: the walk. No conditions. -/
import Derived.Test.YtdjndnoiankicaaDoorLtexts
namespace Go.Proofs.YtdjndnoiankicaaDoor
open Go.RowKit Go.Shelf
set_option linter.unusedSimpArgs false
set_option linter.unusedVariables false
attribute [local go_sem] cell_over frozen_over

namespace Lab
theorem flows_ways {a b c : L} (ha : ok a) (hb : ok b) (hab : a ≠ b) : flows a b = false ∨ (flows a b = true ∧ flows b a = false ∧ flows b c = false) ∨ (flows a b = true ∧ flows b a = false ∧ flows b c = true ∧ flows a c = true) := by
  cases h1 : flows a b with
  | false => exact .inl rfl
  | true =>
    cases h2 : flows b a with
    | true => exact absurd (flows_anti ha hb h1 h2) hab
    | false =>
      cases h3 : flows b c with
      | false => exact .inr (.inl ⟨rfl, rfl, rfl⟩)
      | true => exact .inr (.inr ⟨rfl, rfl, rfl, flows_trans h1 h3⟩)
theorem cmp_ways (a b c : L) : (cmp a b = 0 ∧ cmp b a = 0) ∨ (cmp a b = 1 ∧ cmp b a = -1) ∨ (cmp a b = -1 ∧ cmp b a = 1 ∧ cmp b c = 0) ∨ (cmp a b = -1 ∧ cmp b a = 1 ∧ cmp b c = 1) ∨ (cmp a b = -1 ∧ cmp b a = 1 ∧ cmp b c = -1 ∧ cmp a c = -1) := by
  unfold cmp
  by_cases h1 : key a < key b
  · have h1' : ¬ key b < key a := by omega
    rw [if_pos h1, if_neg h1', if_pos h1]
    by_cases h2 : key b < key c
    · have h3 : key a < key c := by omega
      rw [if_pos h2, if_pos h3]; simp
    · by_cases h3 : key c < key b
      · rw [if_neg h2, if_pos h3]; simp
      · rw [if_neg h2, if_neg h3]; simp
  · rw [if_neg h1]
    by_cases h2 : key b < key a
    · rw [if_pos h2, if_pos h2]; simp
    · rw [if_neg h2, if_neg h2, if_neg h1]; simp
end Lab
/-- Three labels in blocks that follow one another. -/
def Tri (n : Nat) (a b c : Lab.L) (W : World) : Prop := LabIn n a W ∧ LabIn (n + 1) b W ∧ LabIn (n + 1 + 1) c W
theorem Tri.below {n : Nat} {a b c : Lab.L} {W W' : World} (h : Tri n a b c W) (hb : Below W.heap.size W W') : Tri n a b c W' := ⟨h.1.below hb, h.2.1.below hb, h.2.2.below hb⟩
theorem Tri.cells {n : Nat} {a b c : Lab.L} {W : World} (h : Tri n a b c W) : W.cell? ⟨n, 0, none⟩ = some (.int .u16 (a.1 : Int)) ∧ W.cell? ⟨n, 1, none⟩ = some (.int .u16 (a.2 : Int)) ∧ W.cell? ⟨n + 1, 0, none⟩ = some (.int .u16 (b.1 : Int)) ∧ W.cell? ⟨n + 1, 1, none⟩ = some (.int .u16 (b.2 : Int)) ∧
    W.cell? ⟨n + 1 + 1, 0, none⟩ = some (.int .u16 (c.1 : Int)) ∧ W.cell? ⟨n + 1 + 1, 1, none⟩ = some (.int .u16 (c.2 : Int)) ∧ n < W.heap.size ∧ n + 1 < W.heap.size ∧ n + 1 + 1 < W.heap.size :=
  ⟨h.1.cells.1, h.1.cells.2.1, h.2.1.cells.1, h.2.1.cells.2.1, h.2.2.cells.1, h.2.2.cells.2.1, h.1.cells.2.2, h.2.1.cells.2.2, h.2.2.cells.2.2⟩
theorem Tri.new (w : World) (a b c : Lab.L) : Tri w.heap.size a b c (((w.alloc (.cells #[.int .u16 (a.1 : Int), .int .u16 (a.2 : Int)] 24)).alloc (.cells #[.int .u16 (b.1 : Int), .int .u16 (b.2 : Int)] 24)).alloc (.cells #[.int .u16 (c.1 : Int), .int .u16 (c.2 : Int)] 24)) := by
  have h1 := LabIn.new w a
  have h2 := LabIn.new (w.alloc (.cells #[.int .u16 (a.1 : Int), .int .u16 (a.2 : Int)] 24)) b
  have h3 := LabIn.new ((w.alloc (.cells #[.int .u16 (a.1 : Int), .int .u16 (a.2 : Int)] 24)).alloc (.cells #[.int .u16 (b.1 : Int), .int .u16 (b.2 : Int)] 24)) c
  rw [World.size_alloc] at h2
  rw [World.size_alloc, World.size_alloc] at h3
  exact ⟨(h1.below (below_old _ _)).below (below_old _ _), h2.below (below_old _ _), h3⟩
set_option maxRecDepth 100000 in
set_option maxHeartbeats 8000000 in
theorem lorder_ne (a b c : Lab.L) (ha : Lab.ok a) (hb : Lab.ok b) (hc : Lab.ok c) (hab : a ≠ b) (w : World) (hL : LaidAt w) :
    Calls Tryd.prog 6 #[labV a, labV b, labV c] w fun e w' => e = .returned (.bool true) ∧ Below w.heap.size w w' := by
  have HBW := Lib.hid (below_new (below_new (below_new (Below.refl w.heap.size w) (.cells #[.int .u16 (a.1 : Int), .int .u16 (a.2 : Int)] 24)) (.cells #[.int .u16 (b.1 : Int), .int .u16 (b.2 : Int)] 24)) (.cells #[.int .u16 (c.1 : Int), .int .u16 (c.2 : Int)] 24))
  have HL := Lib.hid (hL.below HBW.out)
  have HB := Lib.hid (Below.refl (((w.alloc (.cells #[.int .u16 (a.1 : Int), .int .u16 (a.2 : Int)] 24)).alloc (.cells #[.int .u16 (b.1 : Int), .int .u16 (b.2 : Int)] 24)).alloc (.cells #[.int .u16 (c.1 : Int), .int .u16 (c.2 : Int)] 24)).heap.size (((w.alloc (.cells #[.int .u16 (a.1 : Int), .int .u16 (a.2 : Int)] 24)).alloc (.cells #[.int .u16 (b.1 : Int), .int .u16 (b.2 : Int)] 24)).alloc (.cells #[.int .u16 (c.1 : Int), .int .u16 (c.2 : Int)] 24)))
  clear hL
  have HT := Lib.hid (Tri.new w a b c)
  obtain ⟨c1, c2, c3, c4, c5, c6, l1, l2, l3⟩ := HT.out.cells
  have HAA := Lib.hid (fun w => flows_ok a a ha ha w)
  have H1 := Lib.hid (fun w => flows_ok a b ha hb w)
  have H2 := Lib.hid (fun w => flows_ok b a hb ha w)
  have H3 := Lib.hid (fun w => flows_ok b c hb hc w)
  have H4 := Lib.hid (fun w => flows_ok a c ha hc w)
  have H5 := Lib.hid (fun w => flows_ok Lab.bot a Lab.bot_ok ha w)
  have H6 := Lib.hid (fun w => flows_ok a Lab.top ha Lab.top_ok w)
  have C1 := Lib.hid (fun w => lcmp_ok a b ha hb w)
  have C2 := Lib.hid (fun w => lcmp_ok b a hb ha w)
  have C3 := Lib.hid (fun w => lcmp_ok b c hb hc w)
  have C4 := Lib.hid (fun w => lcmp_ok a c ha hc w)
  have HBO := Lib.hid bottom_ok
  have HTO := Lib.hid top_ok
  rw [Lab.flows_refl] at HAA
  rw [Lab.flows_bot] at H5
  rw [Lab.flows_top] at H6
  have hf := Lab.flows_ways (c := c) ha hb hab
  have hg := Lab.cmp_ways a b c
  generalize Lab.flows a b = x1 at H1 hf
  generalize Lab.flows b a = x2 at H2 hf
  generalize Lab.flows b c = x3 at H3 hf
  generalize Lab.flows a c = x4 at H4 hf
  generalize Lab.cmp a b = z1 at C1 hg
  generalize Lab.cmp b a = z2 at C2 hg
  generalize Lab.cmp b c = z3 at C3 hg
  generalize Lab.cmp a c = z4 at C4 hg
  generalize Lab.bot = bo at H5 HBO
  generalize Lab.top = tp at H6 HTO
  clear ha hb hc hab
  rcases hf with rfl | ⟨rfl, rfl, rfl⟩ | ⟨rfl, rfl, rfl, rfl⟩ <;> rcases hg with ⟨rfl, rfl⟩ | ⟨rfl, rfl⟩ | ⟨rfl, rfl, rfl⟩ | ⟨rfl, rfl, rfl⟩ | ⟨rfl, rfl, rfl, rfl⟩
  all_goals
    go_enter Tryd.func6, Tryd.ntmps6
    go_upto_region 3 with (first
      | (go_at_call 11; ((with_reducible refine (HAA.out _).mono ?_); rintro e w1 ⟨rfl, hb1⟩; have ht := HT.out.below hb1; replace HT := Lib.hid ht; replace HB := Lib.hid (below_here HB.out hb1); clear c1 c2 c3 c4 c5 c6 l1 l2 l3; obtain ⟨c1, c2, c3, c4, c5, c6, l1, l2, l3⟩ := ht.cells; clear ht hb1))
      | (go_at_call 11; ((with_reducible refine (H1.out _).mono ?_); rintro e w1 ⟨rfl, hb1⟩; have ht := HT.out.below hb1; replace HT := Lib.hid ht; replace HB := Lib.hid (below_here HB.out hb1); clear c1 c2 c3 c4 c5 c6 l1 l2 l3; obtain ⟨c1, c2, c3, c4, c5, c6, l1, l2, l3⟩ := ht.cells; clear ht hb1))
      | (go_at_call 11; ((with_reducible refine (H2.out _).mono ?_); rintro e w1 ⟨rfl, hb1⟩; have ht := HT.out.below hb1; replace HT := Lib.hid ht; replace HB := Lib.hid (below_here HB.out hb1); clear c1 c2 c3 c4 c5 c6 l1 l2 l3; obtain ⟨c1, c2, c3, c4, c5, c6, l1, l2, l3⟩ := ht.cells; clear ht hb1))
      | (go_at_call 11; ((with_reducible refine (H3.out _).mono ?_); rintro e w1 ⟨rfl, hb1⟩; have ht := HT.out.below hb1; replace HT := Lib.hid ht; replace HB := Lib.hid (below_here HB.out hb1); clear c1 c2 c3 c4 c5 c6 l1 l2 l3; obtain ⟨c1, c2, c3, c4, c5, c6, l1, l2, l3⟩ := ht.cells; clear ht hb1))
      | (go_at_call 11; ((with_reducible refine (H4.out _).mono ?_); rintro e w1 ⟨rfl, hb1⟩; have ht := HT.out.below hb1; replace HT := Lib.hid ht; replace HB := Lib.hid (below_here HB.out hb1); clear c1 c2 c3 c4 c5 c6 l1 l2 l3; obtain ⟨c1, c2, c3, c4, c5, c6, l1, l2, l3⟩ := ht.cells; clear ht hb1)))
    refine wp_region_over (by kernel_rfl) (by kernel_rfl) ?_
    repeat (go_big_quiet_step (first
      | ((go_at_call 13; with_reducible exact Calls.over_of (C1.out _)))
      | ((go_at_call 13; with_reducible exact Calls.over_of (C2.out _)))
      | ((go_at_call 13; with_reducible exact Calls.over_of (C3.out _)))
      | ((go_at_call 13; with_reducible exact Calls.over_of (C4.out _)))))
    refine wpQuiet_nil ?_
    intro W7 hW7
    have hb1 := below_of_over hW7
    clear hW7
    have ht := HT.out.below hb1
    replace HT := Lib.hid ht
    replace HB := Lib.hid (below_here HB.out hb1)
    clear c1 c2 c3 c4 c5 c6 l1 l2 l3
    obtain ⟨c1, c2, c3, c4, c5, c6, l1, l2, l3⟩ := ht.cells
    clear ht hb1
    go_wp2_with fail
    refine wp_region_over (by kernel_rfl) (by kernel_rfl) ?_
    repeat (go_big_quiet_step (first
      | ((go_at_call 17; exact Calls.over_of (HBO.out _)))
      | ((go_at_call 19; exact Calls.over_of (HTO.out _)))
      | ((go_at_call 11; with_reducible exact Calls.over_of (H5.out _)))
      | ((go_at_call 11; with_reducible exact Calls.over_of (H6.out _)))
      | ((go_at_call 21; exact Calls.over_of (lalive_ok _ ((HL.out.below HB.out).below (over_below _ _)))))))
    refine wpQuiet_nil ?_
    intro W9 hW9
    have hb9 := below_of_over hW9
    clear hW9
    go_wp2_with fail
    go_ret
    exact ⟨rfl, below_here HBW.out (below_here HB.out hb9)⟩
set_option maxRecDepth 100000 in
set_option maxHeartbeats 8000000 in
theorem lorder_eq (a c : Lab.L) (ha : Lab.ok a) (hc : Lab.ok c) (w : World) (hL : LaidAt w) :
    Calls Tryd.prog 6 #[labV a, labV a, labV c] w fun e w' => e = .returned (.bool true) ∧ Below w.heap.size w w' := by
  have HBW := Lib.hid (below_new (below_new (below_new (Below.refl w.heap.size w) (.cells #[.int .u16 (a.1 : Int), .int .u16 (a.2 : Int)] 24)) (.cells #[.int .u16 (a.1 : Int), .int .u16 (a.2 : Int)] 24)) (.cells #[.int .u16 (c.1 : Int), .int .u16 (c.2 : Int)] 24))
  have HL := Lib.hid (hL.below HBW.out)
  have HB := Lib.hid (Below.refl (((w.alloc (.cells #[.int .u16 (a.1 : Int), .int .u16 (a.2 : Int)] 24)).alloc (.cells #[.int .u16 (a.1 : Int), .int .u16 (a.2 : Int)] 24)).alloc (.cells #[.int .u16 (c.1 : Int), .int .u16 (c.2 : Int)] 24)).heap.size (((w.alloc (.cells #[.int .u16 (a.1 : Int), .int .u16 (a.2 : Int)] 24)).alloc (.cells #[.int .u16 (a.1 : Int), .int .u16 (a.2 : Int)] 24)).alloc (.cells #[.int .u16 (c.1 : Int), .int .u16 (c.2 : Int)] 24)))
  clear hL
  have HT := Lib.hid (Tri.new w a a c)
  obtain ⟨c1, c2, c3, c4, c5, c6, l1, l2, l3⟩ := HT.out.cells
  have HAA := Lib.hid (fun w => flows_ok a a ha ha w)
  have H4 := Lib.hid (fun w => flows_ok a c ha hc w)
  have H5 := Lib.hid (fun w => flows_ok Lab.bot a Lab.bot_ok ha w)
  have H6 := Lib.hid (fun w => flows_ok a Lab.top ha Lab.top_ok w)
  have C1 := Lib.hid (fun w => lcmp_ok a a ha ha w)
  rw [show Lab.cmp a a = 0 from (Lab.cmp_zero ha ha).2 rfl] at C1
  have HBO := Lib.hid bottom_ok
  have HTO := Lib.hid top_ok
  rw [Lab.flows_refl] at HAA
  rw [Lab.flows_bot] at H5
  rw [Lab.flows_top] at H6
  generalize Lab.flows a c = x4 at H4
  generalize Lab.bot = bo at H5 HBO
  generalize Lab.top = tp at H6 HTO
  clear ha hc
  cases x4
  all_goals
    go_enter Tryd.func6, Tryd.ntmps6
    go_upto_region 3 with (first
      | (go_at_call 11; ((with_reducible refine (HAA.out _).mono ?_); rintro e w1 ⟨rfl, hb1⟩; have ht := HT.out.below hb1; replace HT := Lib.hid ht; replace HB := Lib.hid (below_here HB.out hb1); clear c1 c2 c3 c4 c5 c6 l1 l2 l3; obtain ⟨c1, c2, c3, c4, c5, c6, l1, l2, l3⟩ := ht.cells; clear ht hb1))
      | (go_at_call 11; ((with_reducible refine (H4.out _).mono ?_); rintro e w1 ⟨rfl, hb1⟩; have ht := HT.out.below hb1; replace HT := Lib.hid ht; replace HB := Lib.hid (below_here HB.out hb1); clear c1 c2 c3 c4 c5 c6 l1 l2 l3; obtain ⟨c1, c2, c3, c4, c5, c6, l1, l2, l3⟩ := ht.cells; clear ht hb1)))
    refine wp_region_over (by kernel_rfl) (by kernel_rfl) ?_
    repeat (go_big_quiet_step (first
      | ((go_at_call 13; with_reducible exact Calls.over_of (C1.out _)))))
    refine wpQuiet_nil ?_
    intro W7 hW7
    have hb1 := below_of_over hW7
    clear hW7
    have ht := HT.out.below hb1
    replace HT := Lib.hid ht
    replace HB := Lib.hid (below_here HB.out hb1)
    clear c1 c2 c3 c4 c5 c6 l1 l2 l3
    obtain ⟨c1, c2, c3, c4, c5, c6, l1, l2, l3⟩ := ht.cells
    clear ht hb1
    go_wp2_with fail
    refine wp_region_over (by kernel_rfl) (by kernel_rfl) ?_
    repeat (go_big_quiet_step (first
      | ((go_at_call 17; exact Calls.over_of (HBO.out _)))
      | ((go_at_call 19; exact Calls.over_of (HTO.out _)))
      | ((go_at_call 11; with_reducible exact Calls.over_of (H5.out _)))
      | ((go_at_call 11; with_reducible exact Calls.over_of (H6.out _)))
      | ((go_at_call 21; exact Calls.over_of (lalive_ok _ ((HL.out.below HB.out).below (over_below _ _)))))))
    refine wpQuiet_nil ?_
    intro W9 hW9
    have hb9 := below_of_over hW9
    clear hW9
    go_wp2_with fail
    go_ret
    exact ⟨rfl, below_here HBW.out (below_here HB.out hb9)⟩
theorem lorder_ok (a b c : Lab.L) (ha : Lab.ok a) (hb : Lab.ok b) (hc : Lab.ok c) (w : World) (hL : LaidAt w) :
    Calls Tryd.prog 6 #[labV a, labV b, labV c] w fun e w' => e = .returned (.bool true) ∧ Below w.heap.size w w' := by
  by_cases h : a = b
  · subst h; exact lorder_eq a c ha hc w hL
  · exact lorder_ne a b c ha hb hc h w hL
end Go.Proofs.YtdjndnoiankicaaDoor
