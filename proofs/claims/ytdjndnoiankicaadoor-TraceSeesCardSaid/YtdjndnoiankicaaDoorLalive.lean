/- The conditions' alive (package forepeaklaw02): it answers true. No conditions. -/
import Derived.Test.YtdjndnoiankicaaDoorLabc
import Derived.Test.YtdjndnoiankicaaDoorOrd
namespace Go.Proofs.YtdjndnoiankicaaDoor
open Go.RowKit Go.Shelf
set_option linter.unusedSimpArgs false
set_option linter.unusedVariables false
attribute [local go_sem] cell_over frozen_over

namespace Lal
theorem f1 : Lab.flows (1, 6) (3, 2) = true := by kernel_rfl
theorem f2 : Lab.flows (3, 2) (1, 6) = false := by kernel_rfl
theorem f3 : Lab.flows Lab.bot Lab.top = true := by kernel_rfl
theorem f4 : Lab.flows Lab.top (1, 6) = false := by kernel_rfl
theorem j : Lab.join [(1, 6), (3, 2)] = (3, 2) := by kernel_rfl
theorem m : Lab.meet [(1, 6), (3, 2)] = (1, 6) := by kernel_rfl
theorem c : Lab.cmp (1, 6) (3, 2) = -1 := by kernel_rfl
theorem t : Lab.text (3, 2) = [48, 44, 49, 47, 49] := by kernel_rfl
theorem p1 : Lab.parse [48, 44, 49, 47, 49] = ((3, 2), 0) := by kernel_rfl
theorem p2 : Lab.parse [49] = ((0, 0), 3) := by kernel_rfl
end Lal
/-- The three labels that lie there. -/
def Three (b1 b2 b3 : Nat) (W : World) : Prop := W.heap[b1]? = some (.cells #[.int .u16 1, .int .u16 6] 24 (0, 0)) ∧ W.heap[b2]? = some (.cells #[.int .u16 3, .int .u16 2] 24 (0, 0)) ∧ W.heap[b3]? = some (.cells #[.int .u16 3, .int .u16 2] 24 (0, 0))
theorem Three.below {b1 b2 b3 : Nat} {W W' : World} (h : Three b1 b2 b3 W) (hb : Below W.heap.size W W') : Three b1 b2 b3 W' := ⟨block_below hb h.1, block_below hb h.2.1, block_below hb h.2.2⟩
theorem Three.cells {b1 b2 b3 : Nat} {W : World} (h : Three b1 b2 b3 W) : W.cell? ⟨b1, 0, none⟩ = some (.int .u16 1) ∧ W.cell? ⟨b1, 1, none⟩ = some (.int .u16 6) ∧ W.cell? ⟨b2, 0, none⟩ = some (.int .u16 3) ∧ W.cell? ⟨b2, 1, none⟩ = some (.int .u16 2) ∧ W.cell? ⟨b3, 0, none⟩ = some (.int .u16 3) ∧ W.cell? ⟨b3, 1, none⟩ = some (.int .u16 2) ∧ b1 < W.heap.size ∧ b2 < W.heap.size ∧ b3 < W.heap.size :=
  ⟨(pair_cells h.1).1, (pair_cells h.1).2.1, (pair_cells h.2.1).1, (pair_cells h.2.1).2.1, (pair_cells h.2.2).1, (pair_cells h.2.2).2.1, World.block_lt_of_cell? W _ (pair_cells h.1).1, World.block_lt_of_cell? W _ (pair_cells h.2.1).1, World.block_lt_of_cell? W _ (pair_cells h.2.2).1⟩
theorem labs_new (w : World) (t : TypeId) (x y z u : Nat) : LabsAt (w.alloc (.cells #[.int .u16 (x : Int), .int .u16 (y : Int), .int .u16 (z : Int), .int .u16 (u : Int)] t)) (some ⟨w.heap.size, 0, none⟩) [(x, y), (z, u)] := by
  refine .inr ⟨w.heap.size, 0, rfl, fun i hi => ?_⟩
  have h := heap_alloc_new w (.cells #[.int .u16 (x : Int), .int .u16 (y : Int), .int .u16 (z : Int), .int .u16 (u : Int)] t)
  match i, hi with
  | 0, _ => exact ⟨cell_of_row _ _ 0 _ _ (0, 0) h, cell_of_row _ _ 1 _ _ (0, 0) h⟩
  | 1, _ => exact ⟨cell_of_row _ _ 2 _ _ (0, 0) h, cell_of_row _ _ 3 _ _ (0, 0) h⟩
theorem slice_lab2 (x y z u : Int) (W : World) : (Instr.buildSlice 31 2 #[(0, .agg #[.int .u16 x, .int .u16 y]), (1, .agg #[.int .u16 z, .int .u16 u])]).run Tryd.prog W = .ok (.slice (some ⟨W.heap.size, 0, none⟩) 2 2) (W.alloc (.cells #[.int .u16 x, .int .u16 y, .int .u16 z, .int .u16 u] 24)) := by kernel_rfl
theorem okc {x y : Nat} (h : decide (x < 65536 ∧ y < 65536) = true) : Lab.ok (x, y) := by have := of_decide_eq_true h; exact this
theorem Lal.k1 (w : World) : Calls Tryd.prog 11 #[.agg #[.int .u16 1, .int .u16 6], .agg #[.int .u16 3, .int .u16 2]] w fun e w' => e = .returned (.bool true) ∧ Below w.heap.size w w' := by
  have h := flows_ok (1, 6) (3, 2) (okc rfl) (okc rfl) w; rw [Lal.f1] at h
  exact h
theorem Lal.k2 (w : World) : Calls Tryd.prog 11 #[.agg #[.int .u16 3, .int .u16 2], .agg #[.int .u16 1, .int .u16 6]] w fun e w' => e = .returned (.bool false) ∧ Below w.heap.size w w' := by
  have h := flows_ok (3, 2) (1, 6) (okc rfl) (okc rfl) w; rw [Lal.f2] at h
  exact h
theorem Lal.k3 (w : World) : Calls Tryd.prog 11 #[.agg #[.int .u16 0, .int .u16 65535], .agg #[.int .u16 65535, .int .u16 0]] w fun e w' => e = .returned (.bool true) ∧ Below w.heap.size w w' := by
  have h := flows_ok Lab.bot Lab.top Lab.bot_ok Lab.top_ok w; rw [Lal.f3] at h
  exact h
theorem Lal.k4 (w : World) : Calls Tryd.prog 11 #[.agg #[.int .u16 65535, .int .u16 0], .agg #[.int .u16 1, .int .u16 6]] w fun e w' => e = .returned (.bool false) ∧ Below w.heap.size w w' := by
  have h := flows_ok Lab.top (1, 6) Lab.top_ok (okc rfl) w; rw [Lal.f4] at h
  exact h
theorem Lal.k5 (w : World) : Calls Tryd.prog 13 #[.agg #[.int .u16 1, .int .u16 6], .agg #[.int .u16 3, .int .u16 2]] w fun e w' => e = .returned (.int .i64 (-1)) ∧ Below w.heap.size w w' := by
  have h := lcmp_ok (1, 6) (3, 2) (okc rfl) (okc rfl) w; rw [Lal.c] at h
  exact h
theorem Lal.k6 (w : World) : Calls Tryd.prog 15 #[.agg #[.int .u16 1, .int .u16 6]] w fun e w' => e = .returned (.int .u16 7) ∧ Below w.heap.size w w' := by
  have h := ltags_ok (1, 6) (okc rfl) w
  exact h
theorem Lal.k7 (w : World) : Calls Tryd.prog 17 #[] w fun e w' => e = .returned (.agg #[.int .u16 0, .int .u16 65535]) ∧ Below w.heap.size w w' := by
  have h := bottom_ok w
  exact h
theorem Lal.k8 (w : World) : Calls Tryd.prog 19 #[] w fun e w' => e = .returned (.agg #[.int .u16 65535, .int .u16 0]) ∧ Below w.heap.size w w' := by
  have h := top_ok w
  exact h
theorem Lal.k9 (w : World) : Calls Tryd.prog 22 #[.slice (some ⟨w.heap.size, 0, none⟩) 2 2] (w.alloc (.cells #[.int .u16 1, .int .u16 6, .int .u16 3, .int .u16 2] 24)) fun e w' => e = .returned (.agg #[.int .u16 3, .int .u16 2]) ∧ Below (w.alloc (.cells #[.int .u16 1, .int .u16 6, .int .u16 3, .int .u16 2] 24)).heap.size (w.alloc (.cells #[.int .u16 1, .int .u16 6, .int .u16 3, .int .u16 2] 24)) w' := by
  have h := ljoin_ok (some ⟨w.heap.size, 0, none⟩) 2 [(1, 6), (3, 2)] (by simp) (by intro a ha; simp at ha; rcases ha with rfl | rfl <;> exact okc rfl) _ (labs_new w 24 1 6 3 2)
  rw [Lal.j] at h
  exact h
theorem Lal.k10 (w : World) : Calls Tryd.prog 24 #[.slice (some ⟨w.heap.size, 0, none⟩) 2 2] (w.alloc (.cells #[.int .u16 1, .int .u16 6, .int .u16 3, .int .u16 2] 24)) fun e w' => e = .returned (.agg #[.int .u16 1, .int .u16 6]) ∧ Below (w.alloc (.cells #[.int .u16 1, .int .u16 6, .int .u16 3, .int .u16 2] 24)).heap.size (w.alloc (.cells #[.int .u16 1, .int .u16 6, .int .u16 3, .int .u16 2] 24)) w' := by
  have h := lmeet_ok (some ⟨w.heap.size, 0, none⟩) 2 [(1, 6), (3, 2)] (by simp) (by intro a ha; simp at ha; rcases ha with rfl | rfl <;> exact okc rfl) _ (labs_new w 24 1 6 3 2)
  rw [Lal.m] at h
  exact h
theorem Lal.k11 (w : World) (hL : LaidAt w) : Calls Tryd.prog 25 #[.string ⟨#[48, 44, 49, 47, 49]⟩] w fun e w' => e = .returned (.tuple #[.agg #[.int .u16 3, .int .u16 2], .int .i64 0]) ∧ Below w.heap.size w w' := by
  have h := lparse_ok ⟨#[48, 44, 49, 47, 49]⟩ (by decide) w hL
  rw [show (⟨#[48, 44, 49, 47, 49]⟩ : ByteArray).data.toList = [48, 44, 49, 47, 49] from rfl, Lal.p1] at h
  exact h
theorem Lal.k12 (w : World) (hL : LaidAt w) : Calls Tryd.prog 25 #[.string ⟨#[49]⟩] w fun e w' => e = .returned (.tuple #[.agg #[.int .u16 0, .int .u16 0], .int .i64 3]) ∧ Below w.heap.size w w' := by
  have h := lparse_ok ⟨#[49]⟩ (by decide) w hL
  rw [show (⟨#[49]⟩ : ByteArray).data.toList = [49] from rfl, Lal.p2] at h
  exact h
theorem Lal.k13 (w : World) (hL : LaidAt w) : Calls Tryd.prog 27 #[.agg #[.int .u16 3, .int .u16 2]] w fun e w' => e = .returned (.string ⟨#[48, 44, 49, 47, 49]⟩) ∧ Below w.heap.size w w' := by
  have h := ltext_ok (3, 2) (okc rfl) w hL.tab hL.pow
  rw [Lal.t] at h
  exact h
set_option maxRecDepth 100000 in
set_option maxHeartbeats 4000000 in
theorem lalive_ok (w : World) (hL : LaidAt w) : Calls Tryd.prog 21 #[] w fun e w' => e = .returned (.bool true) ∧ Below w.heap.size w w' := by
  have HL := Lib.hid hL
  have hsl := fun W => slice_lab2 1 6 3 2 W
  clear hL
  have HB0 := Lib.hid (below_new (below_new (Below.refl w.heap.size w) (.cells #[.int .u16 1, .int .u16 6] 24)) (.cells #[.int .u16 3, .int .u16 2] 24))
  go_enter Tryd.func21, Tryd.ntmps21
  go_upto_region 4 with (first
    | (have _h := HB1; go_at_call 25; refine (Lal.k12 _ (HL.out.below (below_new HB1.out _))).mono ?_; rintro e w2 ⟨rfl, hb2⟩; have HB2 := Lib.hid (below_here (below_new HB1.out _) hb2))
    | (go_at_call 25; refine (Lal.k11 _ (HL.out.below HB0.out)).mono ?_; rintro e w1 ⟨rfl, hb1⟩; have HB1 := Lib.hid (below_here HB0.out hb1)))
  have h1 : ((w.alloc (.cells #[.int .u16 1, .int .u16 6] 24)).alloc (.cells #[.int .u16 3, .int .u16 2] 24)).heap[w.heap.size]? = some (.cells #[.int .u16 1, .int .u16 6] 24 (0, 0)) := by
    rw [Below.heap_alloc _ _ _ (by simp)]; exact heap_alloc_new _ _
  have h2 : ((w.alloc (.cells #[.int .u16 1, .int .u16 6] 24)).alloc (.cells #[.int .u16 3, .int .u16 2] 24)).heap[w.heap.size + 1]? = some (.cells #[.int .u16 3, .int .u16 2] 24 (0, 0)) := by
    have := heap_alloc_new (w.alloc (.cells #[.int .u16 1, .int .u16 6] 24)) (.cells #[.int .u16 3, .int .u16 2] 24)
    rw [World.size_alloc] at this; exact this
  have hx := below_new (below_here (below_new hb1 (.cells #[.int .u16 3, .int .u16 2] 24)) hb2) (.cells #[.int .u16 0, .int .u16 0] 24)
  have h3 := block_below (below_new hb2 (.cells #[.int .u16 0, .int .u16 0] 24)) (heap_alloc_new w1 (.cells #[.int .u16 3, .int .u16 2] 24))
  have ht : Three w.heap.size (w.heap.size + 1) w1.heap.size (w2.alloc (.cells #[.int .u16 0, .int .u16 0] 24)) := ⟨block_below hx h1, block_below hx h2, h3⟩
  have hb9 := below_here HB0.out hx
  clear h1 h2 h3 hx hb1 hb2 HB1 HB2
  generalize (w2.alloc (.cells #[.int .u16 0, .int .u16 0] 24)) = w9 at ht hb9 ⊢
  obtain ⟨c1, c2, c3, c4, c5, c6, l1, l2, l3⟩ := ht.cells
  have HB9 := Lib.hid hb9
  clear ht hb9
  simp only [List.append_eq, List.cons_append, List.nil_append]
  refine wp_region_ord [2, 6, 12, 13, 20, 21, 28, 33, 51, 55, 56, 57, 60, 62] [0, 1, 2, 3, 4, 5, 6, 7, 8, 9, 10, 11, 14, 12, 13, 15, 16, 17, 18, 19, 22, 20, 21, 23, 24, 25, 26, 27, 28, 29, 30, 31, 32, 33, 34, 35, 36, 37, 38, 39, 40, 41, 42, 43, 44, 45, 46, 47, 48, 49, 50, 51, 52, 53, 54, 55, 56, 57, 58, 59, 61, 60, 62, 63, 64, 65] (fun W => ∃ X, W = over w9 X) (by kernel_rfl) (by kernel_rfl) rfl (by kernel_rfl) (over_of (Below.refl _ _).drew) ?_
  have HW0 := Lib.hid ((Below.refl w9.heap.size w9).drew)
  iterate 2
    refine wpO_one (by simp only [List.getElem?_toArray, List.getElem?_cons_zero, List.getElem?_cons_succ]; exact rfl) (by kernel_rfl) ?_
    (first
      | go_big_quiet_step (fail)
      | (go_big_quiet_want; go_big_quiet_op; refine ⟨_, fun _ _ _ => rfl, ?_⟩; go_big_quiet_on))
    refine wpQuiet_nil ?_
  refine wpO_run rfl rfl rfl (fun K hK => ?_)
  go_simp
  refine (Lal.k1 _).mono ?_
  rintro e W1 ⟨rfl, hb⟩
  have HW1 := Lib.hid (below_here HW0.out hb)
  clear hb
  refine ⟨_, rfl, over_of HW1.out, hK _ _ ?_⟩
  clear hK K
  simp only [Act.put, List.setIfInBounds_toArray, List.set_cons_succ, List.set_cons_zero]
  iterate 3
    refine wpO_one (by simp only [List.getElem?_toArray, List.getElem?_cons_zero, List.getElem?_cons_succ]; exact rfl) (by kernel_rfl) ?_
    (first
      | go_big_quiet_step (fail)
      | (go_big_quiet_want; go_big_quiet_op; refine ⟨_, fun _ _ _ => rfl, ?_⟩; go_big_quiet_on))
    refine wpQuiet_nil ?_
  refine wpO_run rfl rfl rfl (fun K hK => ?_)
  go_simp
  refine (Lal.k2 _).mono ?_
  rintro e W2 ⟨rfl, hb⟩
  have HW2 := Lib.hid (below_here HW1.out hb)
  clear hb
  refine ⟨_, rfl, over_of HW2.out, hK _ _ ?_⟩
  clear hK K
  simp only [Act.put, List.setIfInBounds_toArray, List.set_cons_succ, List.set_cons_zero]
  iterate 6
    refine wpO_one (by simp only [List.getElem?_toArray, List.getElem?_cons_zero, List.getElem?_cons_succ]; exact rfl) (by kernel_rfl) ?_
    (first
      | go_big_quiet_step (fail)
      | (go_big_quiet_want; go_big_quiet_op; refine ⟨_, fun _ _ _ => rfl, ?_⟩; go_big_quiet_on))
    refine wpQuiet_nil ?_
  refine wpO_run rfl rfl rfl (fun K hK => ?_)
  go_simp
  have HW3 := Lib.hid (below_new HW2.out (.cells #[.int .u16 1, .int .u16 6, .int .u16 3, .int .u16 2] 24))
  refine ⟨over_of HW3.out, hK _ _ ?_⟩
  clear hK K
  simp only [Act.put, List.setIfInBounds_toArray, List.set_cons_succ, List.set_cons_zero]
  refine wpO_run rfl rfl rfl (fun K hK => ?_)
  go_simp
  refine (Lal.k9 _).mono ?_
  rintro e W4 ⟨rfl, hb⟩
  have HW4 := Lib.hid (below_here HW3.out hb)
  clear hb
  refine ⟨_, rfl, over_of HW4.out, hK _ _ ?_⟩
  clear hK K
  simp only [Act.put, List.setIfInBounds_toArray, List.set_cons_succ, List.set_cons_zero]
  iterate 6
    refine wpO_one (by simp only [List.getElem?_toArray, List.getElem?_cons_zero, List.getElem?_cons_succ]; exact rfl) (by kernel_rfl) ?_
    (first
      | go_big_quiet_step (fail)
      | (go_big_quiet_want; go_big_quiet_op; refine ⟨_, fun _ _ _ => rfl, ?_⟩; go_big_quiet_on))
    refine wpQuiet_nil ?_
  refine wpO_run rfl rfl rfl (fun K hK => ?_)
  go_simp
  have HW5 := Lib.hid (below_new HW4.out (.cells #[.int .u16 1, .int .u16 6, .int .u16 3, .int .u16 2] 24))
  refine ⟨over_of HW5.out, hK _ _ ?_⟩
  clear hK K
  simp only [Act.put, List.setIfInBounds_toArray, List.set_cons_succ, List.set_cons_zero]
  refine wpO_run rfl rfl rfl (fun K hK => ?_)
  go_simp
  refine (Lal.k10 _).mono ?_
  rintro e W6 ⟨rfl, hb⟩
  have HW6 := Lib.hid (below_here HW5.out hb)
  clear hb
  refine ⟨_, rfl, over_of HW6.out, hK _ _ ?_⟩
  clear hK K
  simp only [Act.put, List.setIfInBounds_toArray, List.set_cons_succ, List.set_cons_zero]
  iterate 5
    refine wpO_one (by simp only [List.getElem?_toArray, List.getElem?_cons_zero, List.getElem?_cons_succ]; exact rfl) (by kernel_rfl) ?_
    (first
      | go_big_quiet_step (fail)
      | (go_big_quiet_want; go_big_quiet_op; refine ⟨_, fun _ _ _ => rfl, ?_⟩; go_big_quiet_on))
    refine wpQuiet_nil ?_
  refine wpO_run rfl rfl rfl (fun K hK => ?_)
  go_simp
  refine (Lal.k5 _).mono ?_
  rintro e W7 ⟨rfl, hb⟩
  have HW7 := Lib.hid (below_here HW6.out hb)
  clear hb
  refine ⟨_, rfl, over_of HW7.out, hK _ _ ?_⟩
  clear hK K
  simp only [Act.put, List.setIfInBounds_toArray, List.set_cons_succ, List.set_cons_zero]
  iterate 4
    refine wpO_one (by simp only [List.getElem?_toArray, List.getElem?_cons_zero, List.getElem?_cons_succ]; exact rfl) (by kernel_rfl) ?_
    (first
      | go_big_quiet_step (fail)
      | (go_big_quiet_want; go_big_quiet_op; refine ⟨_, fun _ _ _ => rfl, ?_⟩; go_big_quiet_on))
    refine wpQuiet_nil ?_
  refine wpO_run rfl rfl rfl (fun K hK => ?_)
  go_simp
  refine (Lal.k13 _ (HL.out.below (below_here HB9.out HW7.out))).mono ?_
  rintro e W8 ⟨rfl, hb⟩
  have HW8 := Lib.hid (below_here HW7.out hb)
  clear hb
  refine ⟨_, rfl, over_of HW8.out, hK _ _ ?_⟩
  clear hK K
  simp only [Act.put, List.setIfInBounds_toArray, List.set_cons_succ, List.set_cons_zero]
  iterate 17
    refine wpO_one (by simp only [List.getElem?_toArray, List.getElem?_cons_zero, List.getElem?_cons_succ]; exact rfl) (by kernel_rfl) ?_
    (first
      | go_big_quiet_step (fail)
      | (go_big_quiet_want; go_big_quiet_op; refine ⟨_, fun _ _ _ => rfl, ?_⟩; go_big_quiet_on))
    refine wpQuiet_nil ?_
  refine wpO_run rfl rfl rfl (fun K hK => ?_)
  go_simp
  refine (Lal.k6 _).mono ?_
  rintro e W9 ⟨rfl, hb⟩
  have HW9 := Lib.hid (below_here HW8.out hb)
  clear hb
  refine ⟨_, rfl, over_of HW9.out, hK _ _ ?_⟩
  clear hK K
  simp only [Act.put, List.setIfInBounds_toArray, List.set_cons_succ, List.set_cons_zero]
  iterate 3
    refine wpO_one (by simp only [List.getElem?_toArray, List.getElem?_cons_zero, List.getElem?_cons_succ]; exact rfl) (by kernel_rfl) ?_
    (first
      | go_big_quiet_step (fail)
      | (go_big_quiet_want; go_big_quiet_op; refine ⟨_, fun _ _ _ => rfl, ?_⟩; go_big_quiet_on))
    refine wpQuiet_nil ?_
  refine wpO_run rfl rfl rfl (fun K hK => ?_)
  go_simp
  refine (Lal.k7 _).mono ?_
  rintro e W10 ⟨rfl, hb⟩
  have HW10 := Lib.hid (below_here HW9.out hb)
  clear hb
  refine ⟨_, rfl, over_of HW10.out, hK _ _ ?_⟩
  clear hK K
  simp only [Act.put, List.setIfInBounds_toArray, List.set_cons_succ, List.set_cons_zero]
  refine wpO_run rfl rfl rfl (fun K hK => ?_)
  go_simp
  refine (Lal.k8 _).mono ?_
  rintro e W11 ⟨rfl, hb⟩
  have HW11 := Lib.hid (below_here HW10.out hb)
  clear hb
  refine ⟨_, rfl, over_of HW11.out, hK _ _ ?_⟩
  clear hK K
  simp only [Act.put, List.setIfInBounds_toArray, List.set_cons_succ, List.set_cons_zero]
  refine wpO_run rfl rfl rfl (fun K hK => ?_)
  go_simp
  refine (Lal.k3 _).mono ?_
  rintro e W12 ⟨rfl, hb⟩
  have HW12 := Lib.hid (below_here HW11.out hb)
  clear hb
  refine ⟨_, rfl, over_of HW12.out, hK _ _ ?_⟩
  clear hK K
  simp only [Act.put, List.setIfInBounds_toArray, List.set_cons_succ, List.set_cons_zero]
  iterate 3
    refine wpO_one (by simp only [List.getElem?_toArray, List.getElem?_cons_zero, List.getElem?_cons_succ]; exact rfl) (by kernel_rfl) ?_
    (first
      | go_big_quiet_step (fail)
      | (go_big_quiet_want; go_big_quiet_op; refine ⟨_, fun _ _ _ => rfl, ?_⟩; go_big_quiet_on))
    refine wpQuiet_nil ?_
  refine wpO_run rfl rfl rfl (fun K hK => ?_)
  go_simp
  refine (Lal.k8 _).mono ?_
  rintro e W13 ⟨rfl, hb⟩
  have HW13 := Lib.hid (below_here HW12.out hb)
  clear hb
  refine ⟨_, rfl, over_of HW13.out, hK _ _ ?_⟩
  clear hK K
  simp only [Act.put, List.setIfInBounds_toArray, List.set_cons_succ, List.set_cons_zero]
  refine wpO_run rfl rfl rfl (fun K hK => ?_)
  go_simp
  refine (Lal.k4 _).mono ?_
  rintro e W14 ⟨rfl, hb⟩
  have HW14 := Lib.hid (below_here HW13.out hb)
  clear hb
  refine ⟨_, rfl, over_of HW14.out, hK _ _ ?_⟩
  clear hK K
  simp only [Act.put, List.setIfInBounds_toArray, List.set_cons_succ, List.set_cons_zero]
  iterate 3
    refine wpO_one (by simp only [List.getElem?_toArray, List.getElem?_cons_zero, List.getElem?_cons_succ]; exact rfl) (by kernel_rfl) ?_
    (first
      | go_big_quiet_step (fail)
      | (go_big_quiet_want; go_big_quiet_op; refine ⟨_, fun _ _ _ => rfl, ?_⟩; go_big_quiet_on))
    refine wpQuiet_nil ?_
  refine wpO_nil ?_
  go_wp2_with fail
  go_ret
  exact ⟨rfl, below_here HB9.out HW14.out⟩
end Go.Proofs.YtdjndnoiankicaaDoor
