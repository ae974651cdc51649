/- alive of the statements on names. No conditions. -/
import Derived.Test.YtlmacaenbililaaGreatDoorKd
import Derived.Test.YtlmacaenbililaaGreatDoorOrd
namespace Go.Proofs.YtlmacaenbililaaGreatDoor
open Go.RowKit Go.Shelf
set_option linter.unusedSimpArgs false
set_option linter.unusedVariables false
attribute [local go_sem] cell_over frozen_over

theorem parse_m2 : Idn.parse [109, 48, 47, 45, 46, 50] = (((1, 0), 2, 2), 0) := by
  have h := Idn.parse_text (x := ((1, 0), 2, 2)) ⟨by decide, by decide⟩ (by decide)
  rw [← h]
  congr 1
theorem parse_m4 : Idn.parse [109, 48, 47, 45, 46, 52] = (Idn.zero, 3) := by
  by_cases h : (Idn.parse [109, 48, 47, 45, 46, 52]).2 = 0
  · obtain ⟨h1, h2, h3⟩ := Idn.parse_fine h
    exfalso
    rw [Idn.text_fine h2] at h1
    obtain ⟨h4, h5, h6, h7⟩ := Idn.fine_iff.1 h2
    generalize (Idn.parse [109, 48, 47, 45, 46, 52]).1 = x at h1 h6 h7
    obtain ⟨_, h8⟩ := List.cons.inj h1
    have h9 : ([48, 47, 45, 46, 52] : List UInt8) = [48, 47, 45] ++ [46, 52] := rfl
    rw [h9] at h8
    have h10 := (List.append_inj' h8 rfl).2
    have h11 : (48 + x.2.2.toNat).toUInt8 = 52 := by simpa using h10
    have : x.2.2 = 0 ∨ x.2.2 = 1 ∨ x.2.2 = 2 ∨ x.2.2 = 3 := by omega
    rcases this with e | e | e | e <;> rw [e] at h11 <;> revert h11 <;> decide
  · unfold Idn.parse at h ⊢
    rw [if_neg (by decide)] at h ⊢
    split
    · rfl
    · rename_i h1
      rw [if_neg h1] at h
      split
      · rename_i h2; rw [if_pos h2] at h; exact absurd rfl h
      · rfl
theorem WrAt.nil (w : World) : WrAt w.heap.size [] (w.alloc (.cells #[.int .i64 0, .slice none 0 0] 146)) := ⟨_, heap_alloc_new w _, World.ownsRow_nil _ _ _ _⟩
theorem own_base {w : World} {B B' n : Nat} {e : TypeId} {s : Nat} {v : Value} {xs : List Value} (h : w.ownsRow B e s v n xs) (hb : B' ≤ B) : w.ownsRow B' e s v n xs := by
  refine ⟨h.1, ?_⟩
  rcases h.2 with h | ⟨g, cap, cur, h1, h2, h3⟩
  · exact .inl h
  · exact .inr ⟨g, cap, cur, h1, by omega, h3⟩
theorem own_cap {w : World} {B n m g cap : Nat} {e : TypeId} {xs : List Value} (h : w.ownsRow B e 1 (.slice (some ⟨g, 0, none⟩) m cap) n xs) : cap ≤ 9223372036854775807 := by
  rcases h.2 with ⟨h, _⟩ | ⟨g', cap', cur, h1, _, _, _, h5, _⟩
  · cases h
  · simp only [Value.slice.injEq] at h1; unfold maxLen at h5; omega
/-- The two names of alive. -/
def Ialv (b1 b2 : Nat) (w : World) : Prop := w.heap[b1]? = some (.cells #[.int .u16 1, .int .u16 0, .int .i64 2, .int .i64 2] 64 (0, 0)) ∧ w.heap[b2]? = some (.cells #[.int .u16 1, .int .u16 0, .int .i64 2, .int .i64 2] 64 (0, 0))
theorem Ialv.below {b1 b2 : Nat} {w w' : World} (h : Ialv b1 b2 w) (hb : Below w.heap.size w w') : Ialv b1 b2 w' := ⟨block_below hb h.1, block_below hb h.2⟩
theorem Ialv.cells {b1 b2 : Nat} {w : World} (h : Ialv b1 b2 w) : ((w.cell? ⟨b1, 0, none⟩ = some (.int .u16 1) ∧ w.cell? ⟨b1, 1, none⟩ = some (.int .u16 0) ∧ w.cell? ⟨b1, 2, none⟩ = some (.int .i64 2) ∧ w.cell? ⟨b1, 3, none⟩ = some (.int .i64 2)) ∧ w.frozen? ⟨b1, 0, none⟩ = false ∧ w.frozen? ⟨b1, 1, none⟩ = false ∧ w.frozen? ⟨b1, 2, none⟩ = false ∧ w.frozen? ⟨b1, 3, none⟩ = false ∧ b1 < w.heap.size) ∧ ((w.cell? ⟨b2, 0, none⟩ = some (.int .u16 1) ∧ w.cell? ⟨b2, 1, none⟩ = some (.int .u16 0) ∧ w.cell? ⟨b2, 2, none⟩ = some (.int .i64 2) ∧ w.cell? ⟨b2, 3, none⟩ = some (.int .i64 2)) ∧ w.frozen? ⟨b2, 0, none⟩ = false ∧ w.frozen? ⟨b2, 1, none⟩ = false ∧ w.frozen? ⟨b2, 2, none⟩ = false ∧ w.frozen? ⟨b2, 3, none⟩ = false ∧ b2 < w.heap.size) := ⟨quad_cells h.1, quad_cells h.2⟩
def IC (w : World) (b1 b2 : Nat) (W : World) : Prop := Ialv b1 b2 W ∧ Below w.heap.size w W
open Classical in
/-- A world of a class: X if it is one, else w0. -/
noncomputable def atC (C : World → Prop) (w0 X : World) : World := if C X then X else w0
theorem atC_prop {C : World → Prop} {w0 : World} (h : C w0) (X : World) : C (atC C w0 X) := by
  unfold atC; split
  · assumption
  · exact h
theorem atC_of {C : World → Prop} {w0 W : World} (h : C W) : ∃ X, W = atC C w0 X := ⟨W, by simp [atC, h]⟩
set_option maxRecDepth 100000 in
set_option maxHeartbeats 4000000 in
theorem ialive_ok (w : World) (hL : LaidAt w) : Calls Tryz.prog 29 #[] w fun e w' => e = .returned (.bool true) ∧ Below w.heap.size w w' := by
  have HP2 : Hid (∀ w, LaidAt w → Calls Tryz.prog 86 #[.string ⟨#[109, 48, 47, 45, 46, 50]⟩] w fun e w' => e = .returned (.tuple #[.agg #[.int .u16 1, .int .u16 0, .int .i64 2, .int .i64 2], .int .i64 0]) ∧ Below w.heap.size w w') := Lib.hid fun w h => by
    have := iparse_ok ⟨#[109, 48, 47, 45, 46, 50]⟩ (by decide) w h
    rw [show Idn.parse (⟨#[109, 48, 47, 45, 46, 50]⟩ : ByteArray).data.toList = (((1, 0), 2, 2), 0) from parse_m2] at this
    exact this
  have HP4 : Hid (∀ w, LaidAt w → Calls Tryz.prog 86 #[.string ⟨#[109, 48, 47, 45, 46, 52]⟩] w fun e w' => e = .returned (.tuple #[.agg #[.int .u16 0, .int .u16 0, .int .i64 0, .int .i64 0], .int .i64 3]) ∧ Below w.heap.size w w') := Lib.hid fun w h => by
    have := iparse_ok ⟨#[109, 48, 47, 45, 46, 52]⟩ (by decide) w h
    rw [show Idn.parse (⟨#[109, 48, 47, 45, 46, 52]⟩ : ByteArray).data.toList = (Idn.zero, 3) from parse_m4] at this
    exact this
  have HTX : Hid (∀ w, LaidAt w → Calls Tryz.prog 37 #[.agg #[.int .u16 1, .int .u16 0, .int .i64 2, .int .i64 2]] w fun e w' => e = .returned (.string ⟨#[109, 48, 47, 45, 46, 50]⟩) ∧ Below w.heap.size w w') := Lib.hid fun w h => itext_ok ((1, 0), 2, 2) ⟨by decide, by decide⟩ w h.tab h.pow
  have HF1 : Hid (∀ w, Calls Tryz.prog 31 #[.agg #[.int .u16 1, .int .u16 0, .int .i64 2, .int .i64 2]] w fun e w' => e = .returned (.bool true) ∧ Below w.heap.size w w') := Lib.hid fun w => fine_ok ((1, 0), 2, 2) w
  have HF0 : Hid (∀ w, Calls Tryz.prog 31 #[.agg #[.int .u16 0, .int .u16 0, .int .i64 0, .int .i64 0]] w fun e w' => e = .returned (.bool false) ∧ Below w.heap.size w w') := Lib.hid fun w => fine_ok Idn.zero w
  have HL1 : Hid (∀ w, Calls Tryz.prog 33 #[.agg #[.int .u16 1, .int .u16 0, .int .i64 2, .int .i64 2]] w fun e w' => e = .returned (.int .i64 6) ∧ Below w.heap.size w w') := Lib.hid fun w => lane_ok ((1, 0), 2, 2) w
  have HL0 : Hid (∀ w, Calls Tryz.prog 33 #[.agg #[.int .u16 0, .int .u16 0, .int .i64 0, .int .i64 0]] w fun e w' => e = .returned (.int .i64 (-1)) ∧ Below w.heap.size w w') := Lib.hid fun w => lane_ok Idn.zero w
  have HA6 : Hid (∀ w, Calls Tryz.prog 35 #[.agg #[.int .u16 1, .int .u16 0], .int .i64 6] w fun e w' => e = .returned (.agg #[.int .u16 1, .int .u16 0, .int .i64 2, .int .i64 2]) ∧ Below w.heap.size w w') := Lib.hid fun w => mk_ok (1, 0) 6 w
  have HA12 : Hid (∀ w, Calls Tryz.prog 35 #[.agg #[.int .u16 1, .int .u16 0], .int .i64 12] w fun e w' => e = .returned (.agg #[.int .u16 0, .int .u16 0, .int .i64 0, .int .i64 0]) ∧ Below w.heap.size w w') := Lib.hid fun w => mk_ok (1, 0) 12 w
  have HCM : Hid (∀ w, Calls Tryz.prog 41 #[.agg #[.int .u16 1, .int .u16 0, .int .i64 2, .int .i64 2], .agg #[.int .u16 1, .int .u16 0, .int .i64 1, .int .i64 0]] w fun e w' => e = .returned (.int .i64 1) ∧ Below w.heap.size w w') := Lib.hid fun w => icmp_ok ((1, 0), 2, 2) ((1, 0), 1, 0) ⟨by decide, by decide⟩ ⟨by decide, by decide⟩ w
  have HLw := Lib.hid hL
  clear hL
  have HB0 := Lib.hid (below_fresh w (.cells #[.int .u16 1, .int .u16 0, .int .i64 2, .int .i64 2] 64))
  have HI0 := Lib.hid (heap_alloc_new w (.cells #[.int .u16 1, .int .u16 0, .int .i64 2, .int .i64 2] 64))
  go_enter Tryz.func29, Tryz.ntmps29
  go_wp2_with fail
  refine (HP2.out _ (HLw.out.below HB0.out)).mono ?_
  rintro e w1 ⟨rfl, hb1⟩
  have HB1 := Lib.hid (below_here HB0.out hb1)
  have hi1 := block_below hb1 HI0.out
  have HJ1 := Lib.hid (show Ialv w.heap.size w1.heap.size (w1.alloc (.cells #[.int .u16 1, .int .u16 0, .int .i64 2, .int .i64 2] 64)) from ⟨block_below (below_fresh _ _) hi1, heap_alloc_new w1 _⟩)
  have HB1' := Lib.hid (below_new HB1.out (.cells #[.int .u16 1, .int .u16 0, .int .i64 2, .int .i64 2] 64))
  have hlt : w.heap.size < w1.heap.size := (Array.getElem?_eq_some_iff.1 hi1).1
  clear hb1 hi1
  go_wp2_with fail
  refine (HP4.out _ (HLw.out.below HB1'.out)).mono ?_
  rintro e w2 ⟨rfl, hb2⟩
  have HB2 := Lib.hid (below_here HB1'.out hb2)
  have HJ2 := Lib.hid (HJ1.out.below hb2)
  clear hb2
  obtain ⟨⟨⟨x0, x1, x2, x3⟩, x4, x5, x6, x7, x8⟩, ⟨y0, y1, y2, y3⟩, y4, y5, y6, y7, y8⟩ := HJ2.out.cells
  have hWr : WrAt (w2.heap.size + 1) [] ((w2.alloc (.cells #[.int .u16 0, .int .u16 0, .int .i64 0, .int .i64 0] 64)).alloc (.cells #[.int .i64 0, .slice none 0 0] 146)) := by
    have h := WrAt.nil (w2.alloc (.cells #[.int .u16 0, .int .u16 0, .int .i64 0, .int .i64 0] 64)); rwa [World.size_alloc] at h
  have HB2' := Lib.hid (below_new (below_new HB2.out (.cells #[.int .u16 0, .int .u16 0, .int .i64 0, .int .i64 0] 64)) (.cells #[.int .i64 0, .slice none 0 0] 146))
  have HJ2' := Lib.hid ((HJ2.out.below (below_fresh _ (.cells #[.int .u16 0, .int .u16 0, .int .i64 0, .int .i64 0] 64))).below (below_fresh _ (.cells #[.int .i64 0, .slice none 0 0] 146)))
  have HWR := Lib.hid hWr
  clear hWr
  go_wp2_with fail
  clear x0 x1 x2 x3 x4 x5 x6 x7 y0 y1 y2 y3 y4 y5 y6 y7
  refine (iwrite_ok (w2.heap.size + 1) ((1, 0), 2, 2) ⟨by decide, by decide⟩ (by decide) [] (by simp) _ HWR.out).mono ?_
  rintro e w3 ⟨rfl, hW3, hK3⟩
  have HW3 : Hid (WrAt (w2.heap.size + 1) [0, 1, 0, 0, 2, 2] w3) := Lib.hid hW3
  have HJ3 := Lib.hid (show Ialv w.heap.size w1.heap.size w3 from ⟨hK3.box HJ2'.out.1 (by omega) (by decide), hK3.box HJ2'.out.2 (by omega) (by decide)⟩)
  have HB3 := Lib.hid (HB2'.out.trans (hK3.1.mono (by omega)))
  clear hW3 hK3 x8 y8
  go_wp2_with fail
  refine (done_ok (w2.heap.size + 1) [0, 1, 0, 0, 2, 2] (by simp) (by simp) _ HW3.out).mono ?_
  rintro e w4 ⟨g, cap, rfl, ho4, hb4⟩
  have HB4 := Lib.hid (below_here HB3.out hb4)
  have HJ4 := Lib.hid (HJ3.out.below hb4)
  have HN4 : Hid (Calls Tryz.prog 89 #[.slice (some ⟨g, 0, none⟩) 6 cap] w4 fun e w' => ∃ q, e = .returned (.pointer (some ⟨q, 0, none⟩)) ∧ w4.heap.size ≤ q ∧ RdAt q (Idn.bytes ((1, 0), 2, 2)) w' ∧ Below w4.heap.size w4 w') := Lib.hid (newreader_ok g cap [0, 1, 0, 0, 2, 2] (by simp) w4 (own_base ho4 (Nat.zero_le _)) (own_cap ho4))
  clear hb4 ho4
  go_wp2_with fail
  refine HN4.out.mono ?_
  rintro e w5 ⟨q, rfl, hq, hR5, hb5⟩
  have hlt1 : w1.heap.size < w4.heap.size := HJ4.out.cells.2.2.2.2.2.2
  have hltq : w.heap.size < q ∧ w1.heap.size < q := ⟨by omega, by omega⟩
  have HJ5 := Lib.hid (HJ4.out.below hb5)
  have HB5 := Lib.hid (below_here HB4.out hb5)
  have HR5 := Lib.hid hR5
  clear hb5 hR5 hq
  have HC5 := Lib.hid (show IC w w.heap.size w1.heap.size w5 from ⟨HJ5.out, HB5.out⟩)
  have X00 : ∀ X, (atC (IC w w.heap.size w1.heap.size) w5 X).cell? ⟨w.heap.size, 0, none⟩ = some (.int .u16 1) := fun X => (atC_prop HC5.out X).1.cells.1.1.1
  have X01 : ∀ X, (atC (IC w w.heap.size w1.heap.size) w5 X).cell? ⟨w.heap.size, 1, none⟩ = some (.int .u16 0) := fun X => (atC_prop HC5.out X).1.cells.1.1.2.1
  have X02 : ∀ X, (atC (IC w w.heap.size w1.heap.size) w5 X).cell? ⟨w.heap.size, 2, none⟩ = some (.int .i64 2) := fun X => (atC_prop HC5.out X).1.cells.1.1.2.2.1
  have X03 : ∀ X, (atC (IC w w.heap.size w1.heap.size) w5 X).cell? ⟨w.heap.size, 3, none⟩ = some (.int .i64 2) := fun X => (atC_prop HC5.out X).1.cells.1.1.2.2.2
  have X10 : ∀ X, (atC (IC w w.heap.size w1.heap.size) w5 X).cell? ⟨w1.heap.size, 0, none⟩ = some (.int .u16 1) := fun X => (atC_prop HC5.out X).1.cells.2.1.1
  have X11 : ∀ X, (atC (IC w w.heap.size w1.heap.size) w5 X).cell? ⟨w1.heap.size, 1, none⟩ = some (.int .u16 0) := fun X => (atC_prop HC5.out X).1.cells.2.1.2.1
  have X12 : ∀ X, (atC (IC w w.heap.size w1.heap.size) w5 X).cell? ⟨w1.heap.size, 2, none⟩ = some (.int .i64 2) := fun X => (atC_prop HC5.out X).1.cells.2.1.2.2.1
  have X13 : ∀ X, (atC (IC w w.heap.size w1.heap.size) w5 X).cell? ⟨w1.heap.size, 3, none⟩ = some (.int .i64 2) := fun X => (atC_prop HC5.out X).1.cells.2.1.2.2.2
  have HC0 := Lib.hid (show IC w w.heap.size w1.heap.size w5.drew from ⟨HJ5.out.below (Below.refl _ _).drew, below_here HB5.out (Below.refl _ _).drew⟩)
  have HR0 := Lib.hid (HR5.out.below (Below.refl w5.heap.size w5).drew)
  go_wp2_with fail
  simp only [List.append_eq, List.cons_append, List.nil_append]
  refine wp_region_ord [1, 4, 9, 14, 20, 27, 33, 51, 57, 65] [0, 1, 2, 3, 4, 5, 6, 7, 8, 9, 10, 11, 12, 13, 14, 15, 16, 17, 18, 19, 21, 20, 22, 23, 24, 25, 26, 28, 27, 29, 30, 31, 32, 33, 34, 35, 36, 37, 38, 39, 40, 41, 42, 43, 44, 45, 46, 47, 48, 49, 50, 52, 51, 53, 54, 55, 56, 57, 58, 59, 60, 61, 62, 63, 64, 65, 66, 67, 68] (fun W => ∃ X, W = atC (IC w w.heap.size w1.heap.size) w5 X) (by kernel_rfl) (by kernel_rfl) rfl (by kernel_rfl) (atC_of HC0.out) ?_
  iterate 1
    refine wpO_one (by simp only [List.getElem?_toArray, List.getElem?_cons_zero, List.getElem?_cons_succ]; exact rfl) (by kernel_rfl) ?_
    (first
      | go_big_quiet_step (fail)
      | (go_big_quiet_want; go_big_quiet_op; refine ⟨_, fun _ _ _ => rfl, ?_⟩; go_big_quiet_on))
    refine wpQuiet_nil ?_
  refine wpO_run rfl rfl rfl (fun K hK => ?_)
  go_simp
  refine (HF1.out _).mono ?_
  rintro e W1 ⟨rfl, hb⟩
  have HC1 := Lib.hid (show IC w w.heap.size w1.heap.size W1 from ⟨HC0.out.1.below hb, below_here HC0.out.2 hb⟩)
  have HR1 := Lib.hid (HR0.out.below hb)
  clear hb
  refine ⟨_, rfl, atC_of HC1.out, hK _ _ ?_⟩
  clear hK K
  simp only [Act.put, List.setIfInBounds_toArray, List.set_cons_succ, List.set_cons_zero]
  iterate 2
    refine wpO_one (by simp only [List.getElem?_toArray, List.getElem?_cons_zero, List.getElem?_cons_succ]; exact rfl) (by kernel_rfl) ?_
    (first
      | go_big_quiet_step (fail)
      | (go_big_quiet_want; go_big_quiet_op; refine ⟨_, fun _ _ _ => rfl, ?_⟩; go_big_quiet_on))
    refine wpQuiet_nil ?_
  refine wpO_run rfl rfl rfl (fun K hK => ?_)
  go_simp
  refine (HF0.out _).mono ?_
  rintro e W2 ⟨rfl, hb⟩
  have HC2 := Lib.hid (show IC w w.heap.size w1.heap.size W2 from ⟨HC1.out.1.below hb, below_here HC1.out.2 hb⟩)
  have HR2 := Lib.hid (HR1.out.below hb)
  clear hb
  refine ⟨_, rfl, atC_of HC2.out, hK _ _ ?_⟩
  clear hK K
  simp only [Act.put, List.setIfInBounds_toArray, List.set_cons_succ, List.set_cons_zero]
  iterate 4
    refine wpO_one (by simp only [List.getElem?_toArray, List.getElem?_cons_zero, List.getElem?_cons_succ]; exact rfl) (by kernel_rfl) ?_
    (first
      | go_big_quiet_step (fail)
      | (go_big_quiet_want; go_big_quiet_op; refine ⟨_, fun _ _ _ => rfl, ?_⟩; go_big_quiet_on))
    refine wpQuiet_nil ?_
  refine wpO_run rfl rfl rfl (fun K hK => ?_)
  go_simp
  refine (HL1.out _).mono ?_
  rintro e W3 ⟨rfl, hb⟩
  have HC3 := Lib.hid (show IC w w.heap.size w1.heap.size W3 from ⟨HC2.out.1.below hb, below_here HC2.out.2 hb⟩)
  have HR3 := Lib.hid (HR2.out.below hb)
  clear hb
  refine ⟨_, rfl, atC_of HC3.out, hK _ _ ?_⟩
  clear hK K
  simp only [Act.put, List.setIfInBounds_toArray, List.set_cons_succ, List.set_cons_zero]
  iterate 4
    refine wpO_one (by simp only [List.getElem?_toArray, List.getElem?_cons_zero, List.getElem?_cons_succ]; exact rfl) (by kernel_rfl) ?_
    (first
      | go_big_quiet_step (fail)
      | (go_big_quiet_want; go_big_quiet_op; refine ⟨_, fun _ _ _ => rfl, ?_⟩; go_big_quiet_on))
    refine wpQuiet_nil ?_
  refine wpO_run rfl rfl rfl (fun K hK => ?_)
  go_simp
  refine (HL0.out _).mono ?_
  rintro e W4 ⟨rfl, hb⟩
  have HC4 := Lib.hid (show IC w w.heap.size w1.heap.size W4 from ⟨HC3.out.1.below hb, below_here HC3.out.2 hb⟩)
  have HR4 := Lib.hid (HR3.out.below hb)
  clear hb
  refine ⟨_, rfl, atC_of HC4.out, hK _ _ ?_⟩
  clear hK K
  simp only [Act.put, List.setIfInBounds_toArray, List.set_cons_succ, List.set_cons_zero]
  iterate 6
    refine wpO_one (by simp only [List.getElem?_toArray, List.getElem?_cons_zero, List.getElem?_cons_succ]; exact rfl) (by kernel_rfl) ?_
    (first
      | go_big_quiet_step (fail)
      | (go_big_quiet_want; go_big_quiet_op; refine ⟨_, fun _ _ _ => rfl, ?_⟩; go_big_quiet_on))
    refine wpQuiet_nil ?_
  refine wpO_run rfl rfl rfl (fun K hK => ?_)
  go_simp
  refine (HA6.out _).mono ?_
  rintro e W5 ⟨rfl, hb⟩
  have HC5 := Lib.hid (show IC w w.heap.size w1.heap.size W5 from ⟨HC4.out.1.below hb, below_here HC4.out.2 hb⟩)
  have HR5 := Lib.hid (HR4.out.below hb)
  clear hb
  refine ⟨_, rfl, atC_of HC5.out, hK _ _ ?_⟩
  clear hK K
  simp only [Act.put, List.setIfInBounds_toArray, List.set_cons_succ, List.set_cons_zero]
  iterate 6
    refine wpO_one (by simp only [List.getElem?_toArray, List.getElem?_cons_zero, List.getElem?_cons_succ]; exact rfl) (by kernel_rfl) ?_
    (first
      | go_big_quiet_step (fail)
      | (go_big_quiet_want; go_big_quiet_op; refine ⟨_, fun _ _ _ => rfl, ?_⟩; go_big_quiet_on))
    refine wpQuiet_nil ?_
  refine wpO_run rfl rfl rfl (fun K hK => ?_)
  go_simp
  refine (HA12.out _).mono ?_
  rintro e W6 ⟨rfl, hb⟩
  have HC6 := Lib.hid (show IC w w.heap.size w1.heap.size W6 from ⟨HC5.out.1.below hb, below_here HC5.out.2 hb⟩)
  have HR6 := Lib.hid (HR5.out.below hb)
  clear hb
  refine ⟨_, rfl, atC_of HC6.out, hK _ _ ?_⟩
  clear hK K
  simp only [Act.put, List.setIfInBounds_toArray, List.set_cons_succ, List.set_cons_zero]
  iterate 4
    refine wpO_one (by simp only [List.getElem?_toArray, List.getElem?_cons_zero, List.getElem?_cons_succ]; exact rfl) (by kernel_rfl) ?_
    (first
      | go_big_quiet_step (fail)
      | (go_big_quiet_want; go_big_quiet_op; refine ⟨_, fun _ _ _ => rfl, ?_⟩; go_big_quiet_on))
    refine wpQuiet_nil ?_
  refine wpO_run rfl rfl rfl (fun K hK => ?_)
  go_simp
  refine (HTX.out _ (HLw.out.below HC6.out.2)).mono ?_
  rintro e W7 ⟨rfl, hb⟩
  have HC7 := Lib.hid (show IC w w.heap.size w1.heap.size W7 from ⟨HC6.out.1.below hb, below_here HC6.out.2 hb⟩)
  have HR7 := Lib.hid (HR6.out.below hb)
  clear hb
  refine ⟨_, rfl, atC_of HC7.out, hK _ _ ?_⟩
  clear hK K
  simp only [Act.put, List.setIfInBounds_toArray, List.set_cons_succ, List.set_cons_zero]
  iterate 18
    refine wpO_one (by simp only [List.getElem?_toArray, List.getElem?_cons_zero, List.getElem?_cons_succ]; exact rfl) (by kernel_rfl) ?_
    (first
      | go_big_quiet_step (fail)
      | (go_big_quiet_want; go_big_quiet_op; refine ⟨_, fun _ _ _ => rfl, ?_⟩; go_big_quiet_on))
    refine wpQuiet_nil ?_
  refine wpO_run rfl rfl rfl (fun K hK => ?_)
  go_simp
  refine (iread_ok q ((1, 0), 2, 2) ⟨by decide, by decide⟩ (by decide) _ HR7.out).mono ?_
  rintro e W8 ⟨rfl, hR, hK1⟩
  have HC8 := Lib.hid (show IC w w.heap.size w1.heap.size W8 from ⟨⟨hK1.box HC7.out.1.1 (by omega), hK1.box HC7.out.1.2 (by omega)⟩, HC7.out.2.trans (hK1.1.mono (by omega))⟩)
  have HR8 := Lib.hid hR
  clear hR hK1
  refine ⟨_, rfl, atC_of HC8.out, hK _ _ ?_⟩
  clear hK K
  simp only [Act.put, List.setIfInBounds_toArray, List.set_cons_succ, List.set_cons_zero]
  iterate 4
    refine wpO_one (by simp only [List.getElem?_toArray, List.getElem?_cons_zero, List.getElem?_cons_succ]; exact rfl) (by kernel_rfl) ?_
    (first
      | go_big_quiet_step (fail)
      | (go_big_quiet_want; go_big_quiet_op; refine ⟨_, fun _ _ _ => rfl, ?_⟩; go_big_quiet_on))
    refine wpQuiet_nil ?_
  refine wpO_run rfl rfl rfl (fun K hK => ?_)
  go_simp
  refine (left_ok q [] _ HR8.out).mono ?_
  rintro e W9 ⟨rfl, hw⟩
  obtain rfl := hw.symm
  have HC9 := HC8
  have HR9 := HR8
  refine ⟨_, rfl, atC_of HC9.out, hK _ _ ?_⟩
  clear hK K
  simp only [Act.put, List.setIfInBounds_toArray, List.set_cons_succ, List.set_cons_zero]
  iterate 7
    refine wpO_one (by simp only [List.getElem?_toArray, List.getElem?_cons_zero, List.getElem?_cons_succ]; exact rfl) (by kernel_rfl) ?_
    (first
      | go_big_quiet_step (fail)
      | (go_big_quiet_want; go_big_quiet_op; refine ⟨_, fun _ _ _ => rfl, ?_⟩; go_big_quiet_on))
    refine wpQuiet_nil ?_
  refine wpO_run rfl rfl rfl (fun K hK => ?_)
  go_simp
  refine (HCM.out _).mono ?_
  rintro e W10 ⟨rfl, hb⟩
  have HC10 := Lib.hid (show IC w w.heap.size w1.heap.size W10 from ⟨HC9.out.1.below hb, below_here HC9.out.2 hb⟩)
  have HR10 := Lib.hid (HR9.out.below hb)
  clear hb
  refine ⟨_, rfl, atC_of HC10.out, hK _ _ ?_⟩
  clear hK K
  simp only [Act.put, List.setIfInBounds_toArray, List.set_cons_succ, List.set_cons_zero]
  iterate 3
    refine wpO_one (by simp only [List.getElem?_toArray, List.getElem?_cons_zero, List.getElem?_cons_succ]; exact rfl) (by kernel_rfl) ?_
    (first
      | go_big_quiet_step (fail)
      | (go_big_quiet_want; go_big_quiet_op; refine ⟨_, fun _ _ _ => rfl, ?_⟩; go_big_quiet_on))
    refine wpQuiet_nil ?_
  refine wpO_nil ?_
  go_wp2_with fail
  go_ret
  exact ⟨rfl, HC10.out.2⟩
end Go.Proofs.YtlmacaenbililaaGreatDoor
