/- LabelBounds: the walk. No conditions. -/
import Derived.Test.YtdjndnoiankicaaDoorLorder
import Derived.Test.YtdjndnoiankicaaDoorFree
import Derived.Deep.CutRange
namespace Go.Proofs.YtdjndnoiankicaaDoor
open Go.RowKit Go.Shelf
set_option linter.unusedSimpArgs false
set_option linter.unusedVariables false
attribute [local go_sem] cell_over frozen_over

def Fact.labs (l : List Lab.L) (n : Nat) : Fact := ⟨fun v w => ∃ b, v = .slice (some ⟨b, 0, none⟩) n n ∧ LabsAt w (some ⟨b, 0, none⟩) l, fun _ _ _ ⟨b, h1, h2⟩ hb => ⟨b, h1, h2.below hb⟩⟩
def Fact.box (N : Nat) (a : Lab.L) : Fact := ⟨fun v w => ∃ b, v = .pointer (some ⟨b, 0, none⟩) ∧ LabIn b a w ∧ N ≤ b, fun _ _ _ ⟨b, h1, h2, h3⟩ hb => ⟨b, h1, h2.below hb, h3⟩⟩
theorem LabIn.zero (W : World) : LabIn W.heap.size (0, 0) (W.alloc (.cells #[.int .u16 0, .int .u16 0] 24)) := heap_alloc_new _ _
theorem labs_new3 (w : World) (t : TypeId) (a b c : Lab.L) : LabsAt (w.alloc (.cells #[.int .u16 (a.1 : Int), .int .u16 (a.2 : Int), .int .u16 (b.1 : Int), .int .u16 (b.2 : Int), .int .u16 (c.1 : Int), .int .u16 (c.2 : Int)] t)) (some ⟨w.heap.size, 0, none⟩) [a, b, c] := by
  refine .inr ⟨w.heap.size, 0, rfl, fun i hi => ?_⟩
  have h := heap_alloc_new w (.cells #[.int .u16 (a.1 : Int), .int .u16 (a.2 : Int), .int .u16 (b.1 : Int), .int .u16 (b.2 : Int), .int .u16 (c.1 : Int), .int .u16 (c.2 : Int)] t)
  match i, hi with
  | 0, _ => exact ⟨cell_of_row _ _ 0 _ _ (0, 0) h, cell_of_row _ _ 1 _ _ (0, 0) h⟩
  | 1, _ => exact ⟨cell_of_row _ _ 2 _ _ (0, 0) h, cell_of_row _ _ 3 _ _ (0, 0) h⟩
  | 2, _ => exact ⟨cell_of_row _ _ 4 _ _ (0, 0) h, cell_of_row _ _ 5 _ _ (0, 0) h⟩
theorem slice_lab3 (x y z u p q : Int) (W : World) : (Instr.buildSlice 31 3 #[(0, .agg #[.int .u16 x, .int .u16 y]), (1, .agg #[.int .u16 z, .int .u16 u]), (2, .agg #[.int .u16 p, .int .u16 q])]).run Tryd.prog W = .ok (.slice (some ⟨W.heap.size, 0, none⟩) 3 3) (W.alloc (.cells #[.int .u16 x, .int .u16 y, .int .u16 z, .int .u16 u, .int .u16 p, .int .u16 q] 24)) := by kernel_rfl
/-- The five labels of the function. -/
def Five (n p q : Nat) (a b c j m : Lab.L) (W : World) : Prop := Tri n a b c W ∧ LabIn p j W ∧ LabIn q m W
theorem Five.below {n p q : Nat} {a b c j m : Lab.L} {W W' : World} (h : Five n p q a b c j m W) (hb : Below W.heap.size W W') : Five n p q a b c j m W' := ⟨h.1.below hb, h.2.1.below hb, h.2.2.below hb⟩
theorem tri_set {n g o : Nat} {a b c : Lab.L} {W : World} {v : Value} (h : Tri n a b c W) (hg : n + 1 + 1 < g) : Tri n a b c (W.setCell ⟨g, o, none⟩ v) := by
  obtain ⟨h1, h2, h3⟩ := h
  unfold LabIn at h1 h2 h3
  refine ⟨?_, ?_, ?_⟩ <;> unfold LabIn <;> rw [Below.heap_setCell _ ⟨g, o, none⟩ _ _ (show _ ≠ g by omega)] <;> assumption
theorem two_ok {a b : Lab.L} (ha : Lab.ok a) (hb : Lab.ok b) : ∀ x ∈ [a, b], Lab.ok x := by
  intro x hx
  rcases List.mem_cons.1 hx with rfl | hx
  · exact ha
  · rw [List.mem_singleton.1 hx]; exact hb
theorem three_ok {a b c : Lab.L} (ha : Lab.ok a) (hb : Lab.ok b) (hc : Lab.ok c) : ∀ x ∈ [a, b, c], Lab.ok x := by
  intro x hx
  rcases List.mem_cons.1 hx with rfl | hx
  · exact ha
  · exact two_ok hb hc x hx
set_option maxRecDepth 100000 in
set_option maxHeartbeats 1000000 in
theorem lbounds_ok (a b c : Lab.L) (ha : Lab.ok a) (hb : Lab.ok b) (hc : Lab.ok c) (w : World) (hL : LaidAt w) :
    Calls Tryd.prog 7 #[labV a, labV b, labV c] w fun e w' => e = .returned (.bool true) ∧ Below w.heap.size w w' := by
  have HBW := Lib.hid (below_new (below_new (below_new (Below.refl w.heap.size w) (.cells #[.int .u16 (a.1 : Int), .int .u16 (a.2 : Int)] 24)) (.cells #[.int .u16 (b.1 : Int), .int .u16 (b.2 : Int)] 24)) (.cells #[.int .u16 (c.1 : Int), .int .u16 (c.2 : Int)] 24))
  have HL := Lib.hid (hL.below HBW.out)
  have HT := Lib.hid (Tri.new w a b c)
  clear hL
  have HJ := Lib.hid (fun (A : Option Addr) (n : Nat) (w : World) (h : LabsAt w A [a, b]) => ljoin_ok A n [a, b] (by simp) (two_ok ha hb) w h)
  have HM := Lib.hid (fun (A : Option Addr) (n : Nat) (w : World) (h : LabsAt w A [a, b]) => lmeet_ok A n [a, b] (by simp) (two_ok ha hb) w h)
  rw [Lab.join_two ha] at HJ
  rw [Lab.meet_two ha] at HM
  obtain ⟨j, hj⟩ : ∃ j, j = Lab.joinTo a b := ⟨_, rfl⟩
  obtain ⟨m, hm⟩ : ∃ m, m = Lab.meetTo a b := ⟨_, rfl⟩
  rw [← hj] at HJ
  rw [← hm] at HM
  have HJE := Lib.hid hj
  have HME := Lib.hid hm
  clear hj hm
  have hsl := fun W => slice_lab2 (a.1 : Int) (a.2 : Int) (b.1 : Int) (b.2 : Int) W
  go_enter Tryd.func7, Tryd.ntmps7
  go_wp2_with fail
  obtain ⟨w9, hw9⟩ : ∃ w9, w9 = ((w.alloc (.cells #[.int .u16 (a.1 : Int), .int .u16 (a.2 : Int)] 24)).alloc (.cells #[.int .u16 (b.1 : Int), .int .u16 (b.2 : Int)] 24)).alloc (.cells #[.int .u16 (c.1 : Int), .int .u16 (c.2 : Int)] 24) := ⟨_, rfl⟩
  rw [← hw9] at HBW HL HT ⊢
  clear hw9
  obtain ⟨c1, c2, c3, c4, c5, c6, l1, l2, l3⟩ := HT.out.cells
  refine wp_region_freeA 10 [some 9, some 10, some 11, some 12, some 13, some 14, some 15, some 16, some 7, some 8] (fun W => ∃ X, W = over w9 X) [Fact.is (labV a), Fact.is (labV b), Fact.labs [a, b] 2, Fact.is (labV j), Fact.is (labV a), Fact.is (labV b), Fact.labs [a, b] 2, Fact.is (labV m), Fact.box w9.heap.size (0, 0), Fact.box w9.heap.size (0, 0)] [8, 9] (by kernel_rfl) (by kernel_rfl) ?same (over_of (Below.refl _ _).drew) ?steps ?fin
  case same => kernel_rfl
  case steps =>
    simp only [List.take_succ_cons, List.take_zero, stepsI]
    refine ⟨⟨fun v u => by kernel_rfl, ?s0⟩, ⟨fun v u => by kernel_rfl, ?s1⟩, ⟨fun v u => by kernel_rfl, ?s2⟩, ⟨fun v u => by kernel_rfl, ?s3⟩, ⟨fun v u => by kernel_rfl, ?s4⟩, ⟨fun v u => by kernel_rfl, ?s5⟩, ⟨fun v u => by kernel_rfl, ?s6⟩, ⟨fun v u => by kernel_rfl, ?s7⟩, ⟨fun v u => by kernel_rfl, ?s8⟩, ⟨fun v u => by kernel_rfl, ?s9⟩, trivial⟩
    case s0 =>
      intro v W hW hp
      obtain ⟨X, rfl⟩ := hW
      clear hp
      simp only [mkA, setAll, List.setIfInBounds_toArray, List.set_cons_succ, List.set_cons_zero]
      refine .inl ⟨rfl, ?_⟩
      go_simp
      first | exact ⟨⟨X, rfl⟩, Below.refl _ _, rfl⟩ | exact ⟨⟨X, rfl⟩, Below.refl _ _, rfl, fun h => by cases h⟩
    case s1 =>
      intro v W hW hp
      obtain ⟨X, rfl⟩ := hW
      clear hp
      simp only [mkA, setAll, List.setIfInBounds_toArray, List.set_cons_succ, List.set_cons_zero]
      refine .inl ⟨rfl, ?_⟩
      go_simp
      first | exact ⟨⟨X, rfl⟩, Below.refl _ _, rfl⟩ | exact ⟨⟨X, rfl⟩, Below.refl _ _, rfl, fun h => by cases h⟩
    case s2 =>
      intro v W hW hp
      obtain ⟨X, rfl⟩ := hW
      have g0 : v 0 = labV a := hp ⟨0, .data⟩ (by simp) rfl
      have g1 : v 1 = labV b := hp ⟨1, .data⟩ (by simp) rfl
      clear hp
      simp only [mkA, setAll, List.setIfInBounds_toArray, List.set_cons_succ, List.set_cons_zero]
      refine .inl ⟨rfl, ?_⟩
      go_simp
      exact ⟨over_of (below_new (over_below _ _) _), below_old _ _, ⟨_, rfl, labs_new _ _ a.1 a.2 b.1 b.2⟩⟩
    case s3 =>
      intro v W hW hp
      obtain ⟨X, rfl⟩ := hW
      obtain ⟨b2, g2, r2⟩ := hp ⟨2, .data⟩ (by simp) rfl
      clear hp
      simp only [mkA, setAll, List.setIfInBounds_toArray, List.set_cons_succ, List.set_cons_zero]
      refine .inl ⟨rfl, ?_⟩
      go_simp
      refine (HJ.out _ _ _ r2).mono ?_
      rintro e W2 ⟨rfl, hb2⟩
      first | exact ⟨_, rfl, over_of (below_here (over_below _ _) hb2), hb2, rfl⟩ | exact ⟨_, rfl, over_of (below_here (over_below _ _) hb2), hb2, rfl, fun h => by cases h⟩
    case s4 =>
      intro v W hW hp
      obtain ⟨X, rfl⟩ := hW
      clear hp
      simp only [mkA, setAll, List.setIfInBounds_toArray, List.set_cons_succ, List.set_cons_zero]
      refine .inl ⟨rfl, ?_⟩
      go_simp
      first | exact ⟨⟨X, rfl⟩, Below.refl _ _, rfl⟩ | exact ⟨⟨X, rfl⟩, Below.refl _ _, rfl, fun h => by cases h⟩
    case s5 =>
      intro v W hW hp
      obtain ⟨X, rfl⟩ := hW
      clear hp
      simp only [mkA, setAll, List.setIfInBounds_toArray, List.set_cons_succ, List.set_cons_zero]
      refine .inl ⟨rfl, ?_⟩
      go_simp
      first | exact ⟨⟨X, rfl⟩, Below.refl _ _, rfl⟩ | exact ⟨⟨X, rfl⟩, Below.refl _ _, rfl, fun h => by cases h⟩
    case s6 =>
      intro v W hW hp
      obtain ⟨X, rfl⟩ := hW
      have g4 : v 4 = labV a := hp ⟨4, .data⟩ (by simp) rfl
      have g5 : v 5 = labV b := hp ⟨5, .data⟩ (by simp) rfl
      clear hp
      simp only [mkA, setAll, List.setIfInBounds_toArray, List.set_cons_succ, List.set_cons_zero]
      refine .inl ⟨rfl, ?_⟩
      go_simp
      exact ⟨over_of (below_new (over_below _ _) _), below_old _ _, ⟨_, rfl, labs_new _ _ a.1 a.2 b.1 b.2⟩⟩
    case s7 =>
      intro v W hW hp
      obtain ⟨X, rfl⟩ := hW
      obtain ⟨b6, g6, r6⟩ := hp ⟨6, .data⟩ (by simp) rfl
      clear hp
      simp only [mkA, setAll, List.setIfInBounds_toArray, List.set_cons_succ, List.set_cons_zero]
      refine .inl ⟨rfl, ?_⟩
      go_simp
      refine (HM.out _ _ _ r6).mono ?_
      rintro e W2 ⟨rfl, hb2⟩
      first | exact ⟨_, rfl, over_of (below_here (over_below _ _) hb2), hb2, rfl⟩ | exact ⟨_, rfl, over_of (below_here (over_below _ _) hb2), hb2, rfl, fun h => by cases h⟩
    case s8 =>
      intro v W hW hp
      obtain ⟨X, rfl⟩ := hW
      clear hp
      simp only [mkA, setAll, List.setIfInBounds_toArray, List.set_cons_succ, List.set_cons_zero]
      refine .inl ⟨rfl, ?_⟩
      go_simp
      exact ⟨over_of (below_new (over_below _ _) _), below_old _ _, ⟨_, rfl, LabIn.zero _, (over_below w9 X).size⟩, _, rfl, Nat.le_refl _, by simp⟩
    case s9 =>
      intro v W hW hp
      obtain ⟨X, rfl⟩ := hW
      clear hp
      simp only [mkA, setAll, List.setIfInBounds_toArray, List.set_cons_succ, List.set_cons_zero]
      refine .inl ⟨rfl, ?_⟩
      go_simp
      exact ⟨over_of (below_new (over_below _ _) _), below_old _ _, ⟨_, rfl, LabIn.zero _, (over_below w9 X).size⟩, _, rfl, Nat.le_refl _, by simp⟩
  case fin =>
    intro v W hW hR hD
    have hb9 := below_of_over hW
    have g3 : v 3 = labV j := hR 3 (by omega)
    have g7 : v 7 = labV m := hR 7 (by omega)
    obtain ⟨p8, g8, z8, n8⟩ := hR 8 (by omega)
    obtain ⟨p9, g9, z9, n9⟩ := hR 9 (by omega)
    have hne : p8 ≠ p9 := fun h => hD 8 9 rfl rfl (by omega) (by omega) (by omega) (by rw [g8, g9, h])
    simp only [List.drop_succ_cons, List.drop_zero, mkA, setAll, List.setIfInBounds_toArray, List.set_cons_succ, List.set_cons_zero, g3, g7, g8, g9]
    have z8' : W.heap[p8]? = some (.cells #[.int .u16 0, .int .u16 0] 24 (0, 0)) := z8
    have z9' : W.heap[p9]? = some (.cells #[.int .u16 0, .int .u16 0] 24 (0, 0)) := z9
    obtain ⟨x0, x1, x2, x3⟩ := pair_cells z8'
    obtain ⟨y0, y1, y2, y3⟩ := pair_cells z9'
    have hp8 : p8 < W.heap.size := World.block_lt_of_cell? W _ x0
    have hp9 : p9 < W.heap.size := World.block_lt_of_cell? W _ y0
    generalize v 0 = u0
    generalize v 1 = u1
    generalize v 2 = u2
    generalize v 4 = u4
    generalize v 5 = u5
    generalize v 6 = u6
    have hb8 : Below w9.heap.size w9 ((W.setCell ⟨p8, 0, none⟩ (.int .u16 (j.1 : Int))).setCell ⟨p8, 1, none⟩ (.int .u16 (j.2 : Int))) := (hb9.setCell (p := ⟨p8, 0, none⟩) n8 _).setCell (p := ⟨p8, 1, none⟩) n8 _
    obtain ⟨W4, hW4⟩ : ∃ W4, W4 = ((((W.setCell ⟨p8, 0, none⟩ (.int .u16 (j.1 : Int))).setCell ⟨p8, 1, none⟩ (.int .u16 (j.2 : Int))).setCell ⟨p9, 0, none⟩ (.int .u16 (m.1 : Int))).setCell ⟨p9, 1, none⟩ (.int .u16 (m.2 : Int))) := ⟨_, rfl⟩
    have hb4 : Below w9.heap.size w9 W4 := by rw [hW4]; exact (hb8.setCell (p := ⟨p9, 0, none⟩) n9 _).setCell (p := ⟨p9, 1, none⟩) n9 _
    have hS8 := pair_set1 (v := .int .u16 (j.2 : Int)) (pair_set0 (v := .int .u16 (j.1 : Int)) z8')
    have hS9 : (((W.setCell ⟨p8, 0, none⟩ (.int .u16 (j.1 : Int))).setCell ⟨p8, 1, none⟩ (.int .u16 (j.2 : Int))).heap[p9]?) = some (.cells #[.int .u16 0, .int .u16 0] 24 (0, 0)) := by
      rw [Below.heap_setCell _ ⟨p8, 1, none⟩ _ _ (Ne.symm hne), Below.heap_setCell _ ⟨p8, 0, none⟩ _ _ (Ne.symm hne)]; exact z9'
    have hJ4 : LabIn p8 j W4 := by
      unfold LabIn
      rw [hW4, Below.heap_setCell _ ⟨p9, 1, none⟩ _ _ hne, Below.heap_setCell _ ⟨p9, 0, none⟩ _ _ hne]; exact hS8
    have hM4 : LabIn p9 m W4 := by unfold LabIn; rw [hW4]; exact pair_set1 (pair_set0 hS9)
    have hT4 : Tri w.heap.size a b c W4 := by rw [hW4]; exact tri_set (tri_set (tri_set (tri_set (HT.out.below hb9) (by omega)) (by omega)) (by omega)) (by omega)
    have HS8 := Lib.hid hS8
    have HS9 := Lib.hid hS9
    have HW4 := Lib.hid hW4
    have HX : Hid (Five w.heap.size p8 p9 a b c j m W4) := Lib.hid ⟨hT4, hJ4, hM4⟩
    have HL4 := Lib.hid (HL.out.below hb4)
    have HB4 := Lib.hid (below_here HBW.out hb4)
    clear hS8 hS9 hJ4 hM4 hT4 hW4 hb8 hb4 hb9 hR hD hW z8 z9 z8' z9' g3 g7 g8 g9 n8 n9 c1 c2 c3 c4 c5 c6 l1 l2 l3
    go_upto_region 2 with (fail)
    rw [← HW4.out]
    clear HS8 HS9 HW4 x0 x1 x2 x3 y0 y1 y2 y3 hp8 hp9 hne HT HBW HL hsl
    have HT := HX
    have ht := HT.out
    obtain ⟨c1, c2, c3, c4, c5, c6, l1, l2, l3⟩ := ht.1.cells
    obtain ⟨d1, d2, l4⟩ := ht.2.1.cells
    obtain ⟨d3, d4, l5⟩ := ht.2.2.cells
    have HB := Lib.hid (Below.refl W4.heap.size W4)
    clear ht HX
    have hjo : Lab.ok j := by rw [HJE.out]; exact Lab.joinTo_ok ha hb
    have hmo : Lab.ok m := by rw [HME.out]; exact Lab.meetTo_ok ha hb
    have F1 := Lib.hid (fun w => flows_ok a j ha hjo w)
    have F2 := Lib.hid (fun w => flows_ok b j hb hjo w)
    have F3 := Lib.hid (fun w => flows_ok m a hmo ha w)
    have F4 := Lib.hid (fun w => flows_ok m b hmo hb w)
    rw [show Lab.flows a j = true by rw [HJE.out]; exact Lab.flows_join1 a b] at F1
    rw [show Lab.flows b j = true by rw [HJE.out]; exact Lab.flows_join2 a b] at F2
    rw [show Lab.flows m a = true by rw [HME.out]; exact Lab.flows_meet1 a b] at F3
    rw [show Lab.flows m b = true by rw [HME.out]; exact Lab.flows_meet2 a b] at F4
    go_upto_region 4 with (first
      | (go_at_call 11; ((with_reducible refine (F1.out _).mono ?_); rintro e w1 ⟨rfl, hb1⟩; have ht := HT.out.below hb1; replace HT := Lib.hid ht; replace HB := Lib.hid (below_here HB.out hb1); clear c1 c2 c3 c4 c5 c6 l1 l2 l3 d1 d2 d3 d4 l4 l5; obtain ⟨c1, c2, c3, c4, c5, c6, l1, l2, l3⟩ := ht.1.cells; obtain ⟨d1, d2, l4⟩ := ht.2.1.cells; obtain ⟨d3, d4, l5⟩ := ht.2.2.cells; clear ht hb1))
      | (go_at_call 11; ((with_reducible refine (F2.out _).mono ?_); rintro e w1 ⟨rfl, hb1⟩; have ht := HT.out.below hb1; replace HT := Lib.hid ht; replace HB := Lib.hid (below_here HB.out hb1); clear c1 c2 c3 c4 c5 c6 l1 l2 l3 d1 d2 d3 d4 l4 l5; obtain ⟨c1, c2, c3, c4, c5, c6, l1, l2, l3⟩ := ht.1.cells; obtain ⟨d1, d2, l4⟩ := ht.2.1.cells; obtain ⟨d3, d4, l5⟩ := ht.2.2.cells; clear ht hb1))
      | (go_at_call 11; ((with_reducible refine (F3.out _).mono ?_); rintro e w1 ⟨rfl, hb1⟩; have ht := HT.out.below hb1; replace HT := Lib.hid ht; replace HB := Lib.hid (below_here HB.out hb1); clear c1 c2 c3 c4 c5 c6 l1 l2 l3 d1 d2 d3 d4 l4 l5; obtain ⟨c1, c2, c3, c4, c5, c6, l1, l2, l3⟩ := ht.1.cells; obtain ⟨d1, d2, l4⟩ := ht.2.1.cells; obtain ⟨d3, d4, l5⟩ := ht.2.2.cells; clear ht hb1))
      | (go_at_call 11; ((with_reducible refine (F4.out _).mono ?_); rintro e w1 ⟨rfl, hb1⟩; have ht := HT.out.below hb1; replace HT := Lib.hid ht; replace HB := Lib.hid (below_here HB.out hb1); clear c1 c2 c3 c4 c5 c6 l1 l2 l3 d1 d2 d3 d4 l4 l5; obtain ⟨c1, c2, c3, c4, c5, c6, l1, l2, l3⟩ := ht.1.cells; obtain ⟨d1, d2, l4⟩ := ht.2.1.cells; obtain ⟨d3, d4, l5⟩ := ht.2.2.cells; clear ht hb1)))
    have G1 := Lib.hid (fun w => flows_ok a c ha hc w)
    have G2 := Lib.hid (fun w => flows_ok b c hb hc w)
    have G3 := Lib.hid (fun w => flows_ok j c hjo hc w)
    have G4 := Lib.hid (fun w => flows_ok c a hc ha w)
    have G5 := Lib.hid (fun w => flows_ok c b hc hb w)
    have G6 := Lib.hid (fun w => flows_ok c m hc hmo w)
    have hx : (Lab.flows a c = false ∧ Lab.flows j c = false) ∨ (Lab.flows a c = true ∧ Lab.flows b c = false ∧ Lab.flows j c = false) ∨ (Lab.flows a c = true ∧ Lab.flows b c = true ∧ Lab.flows j c = true) := by
      rw [HJE.out, ← Lab.join_least a b c]
      cases Lab.flows a c <;> cases Lab.flows b c <;> simp
    have hy : (Lab.flows c a = false ∧ Lab.flows c m = false) ∨ (Lab.flows c a = true ∧ Lab.flows c b = false ∧ Lab.flows c m = false) ∨ (Lab.flows c a = true ∧ Lab.flows c b = true ∧ Lab.flows c m = true) := by
      rw [HME.out, ← Lab.meet_most a b c]
      cases Lab.flows c a <;> cases Lab.flows c b <;> simp
    generalize Lab.flows a c = k1 at G1 hx
    generalize Lab.flows b c = k2 at G2 hx
    generalize Lab.flows j c = k3 at G3 hx
    generalize Lab.flows c a = k4 at G4 hy
    generalize Lab.flows c b = k5 at G5 hy
    generalize Lab.flows c m = k6 at G6 hy
    have HXX := Lib.hid hx
    have HYY := Lib.hid hy
    clear hx hy
    go_cut [64] from 39 to 64 (fun t wr => t = .bool false ∧ Hid (Below w1.heap.size w1 wr))
    case first =>
      rcases HXX.out with ⟨rfl, rfl⟩ | ⟨rfl, rfl, rfl⟩ | ⟨rfl, rfl, rfl⟩ <;> rcases HYY.out with ⟨rfl, rfl⟩ | ⟨rfl, rfl, rfl⟩ | ⟨rfl, rfl, rfl⟩
      all_goals
        refine wp_region_over (by kernel_rfl) (by kernel_rfl) ?_
        repeat (go_big_quiet_step (first
          | ((go_at_call 11; with_reducible exact Calls.over_of (G1.out _)))
          | ((go_at_call 11; with_reducible exact Calls.over_of (G2.out _)))
          | ((go_at_call 11; with_reducible exact Calls.over_of (G3.out _)))
          | ((go_at_call 11; with_reducible exact Calls.over_of (G4.out _)))
          | ((go_at_call 11; with_reducible exact Calls.over_of (G5.out _)))
          | ((go_at_call 11; with_reducible exact Calls.over_of (G6.out _)))))
        refine wpQuiet_nil ?_
        intro W7 hW7
        have hb7 := below_of_over hW7
        clear hW7
        go_wp2_with fail
        go_meet
        case rel => exact ⟨rfl, Lib.hid hb7⟩
    case rest =>
      obtain ⟨rfl, hbc⟩ := hcut
      have hBc := Lib.hid (below_here HB4.out (below_here HB.out hbc.out))
      have HLc := Lib.hid (HL4.out.below (below_here HB.out hbc.out))
      have ht := HT.out.below hbc.out
      clear c1 c2 c3 c4 c5 c6 l1 l2 l3 d1 d2 d3 d4 l4 l5 hbc HB4 HB HT HL4 G1 G2 G3 G4 G5 G6 HXX HYY F1 F2 F3 F4 HJ HM
      obtain ⟨c1, c2, c3, c4, c5, c6, l1, l2, l3⟩ := ht.1.cells
      obtain ⟨d1, d2, l4⟩ := ht.2.1.cells
      obtain ⟨d3, d4, l5⟩ := ht.2.2.cells
      clear ht
      have K1 := Lib.hid (fun (A : Option Addr) (n : Nat) (w : World) (h : LabsAt w A [a, b, c]) => ljoin_ok A n [a, b, c] (by simp) (three_ok ha hb hc) w h)
      have K2 := Lib.hid (fun (A : Option Addr) (n : Nat) (w : World) (h : LabsAt w A [j, c]) => ljoin_ok A n [j, c] (by simp) (two_ok hjo hc) w h)
      have K3 := Lib.hid (fun (A : Option Addr) (n : Nat) (w : World) (h : LabsAt w A [a, b, c]) => lmeet_ok A n [a, b, c] (by simp) (three_ok ha hb hc) w h)
      have K4 := Lib.hid (fun (A : Option Addr) (n : Nat) (w : World) (h : LabsAt w A [m, c]) => lmeet_ok A n [m, c] (by simp) (two_ok hmo hc) w h)
      have K5 := Lib.hid (fun (A : Option Addr) (n : Nat) (w : World) (h : LabsAt w A [a, m]) => ljoin_ok A n [a, m] (by simp) (two_ok ha hmo) w h)
      have K6 := Lib.hid (fun (A : Option Addr) (n : Nat) (w : World) (h : LabsAt w A [a, j]) => lmeet_ok A n [a, j] (by simp) (two_ok ha hjo) w h)
      rw [Lab.join_three ha, ← HJE.out] at K1
      rw [Lab.join_two hjo] at K2
      rw [Lab.meet_three ha, ← HME.out] at K3
      rw [Lab.meet_two hmo] at K4
      rw [Lab.join_two ha, HME.out, Lab.join_absorb ha hb, ← HME.out] at K5
      rw [Lab.meet_two ha, HJE.out, Lab.meet_absorb ha hb, ← HJE.out] at K6
      generalize Lab.joinTo j c = X1 at K1 K2
      generalize Lab.meetTo m c = Y1 at K3 K4
      have s1 := fun W => slice_lab3 (a.1 : Int) (a.2 : Int) (b.1 : Int) (b.2 : Int) (c.1 : Int) (c.2 : Int) W
      have s2 := fun W => slice_lab2 (j.1 : Int) (j.2 : Int) (c.1 : Int) (c.2 : Int) W
      have s3 := fun W => slice_lab2 (m.1 : Int) (m.2 : Int) (c.1 : Int) (c.2 : Int) W
      have s4 := fun W => slice_lab2 (a.1 : Int) (a.2 : Int) (m.1 : Int) (m.2 : Int) W
      have s5 := fun W => slice_lab2 (a.1 : Int) (a.2 : Int) (j.1 : Int) (j.2 : Int) W
      go_upto_region 6 with (fail)
      refine wp_region_freeA 41 [some 65, some 66, some 67, some 68, some 69, some 70, some 71, some 72, some 73, some 74, some 75, some 76, some 77, some 78, some 79, some 80, some 81, some 82, some 83, some 84, some 85, some 86, some 87, some 88, some 89, some 90, some 91, some 92, some 93, some 94, some 95, some 96, some 97, some 98, some 99, some 100, some 101, some 102, some 103, some 104, some 105] (fun W => ∃ X, W = over wc X) [Fact.is (labV a), Fact.is (labV b), Fact.is (labV c), Fact.labs [a, b, c] 3, Fact.is (labV X1), Fact.is (labV j), Fact.is (labV c), Fact.labs [j, c] 2, Fact.is (labV X1), Fact.is (.bool true), Fact.is (.bool true), Fact.is (labV a), Fact.is (labV b), Fact.is (labV c), Fact.labs [a, b, c] 3, Fact.is (labV Y1), Fact.is (labV m), Fact.is (labV c), Fact.labs [m, c] 2, Fact.is (labV Y1), Fact.is (.bool true), Fact.is (.bool true), Fact.is (.bool true), Fact.is (labV a), Fact.is (labV m), Fact.labs [a, m] 2, Fact.is (labV a), Fact.is (labV a), Fact.is (.bool true), Fact.is (.bool true), Fact.is (.bool true), Fact.is (labV a), Fact.is (labV j), Fact.labs [a, j] 2, Fact.is (labV a), Fact.is (labV a), Fact.is (.bool true), Fact.is (.bool true), Fact.is (.bool true), Fact.is (.bool true), Fact.is (.bool true)] [] (by kernel_rfl) (by kernel_rfl) ?same (over_of (Below.refl _ _).drew) ?steps ?fin
      case same => kernel_rfl
      case steps =>
        simp only [List.take_succ_cons, List.take_zero, stepsI]
        refine ⟨⟨fun v u => by kernel_rfl, ?s0⟩, ⟨fun v u => by kernel_rfl, ?s1⟩, ⟨fun v u => by kernel_rfl, ?s2⟩, ⟨fun v u => by kernel_rfl, ?s3⟩, ⟨fun v u => by kernel_rfl, ?s4⟩, ⟨fun v u => by kernel_rfl, ?s5⟩, ⟨fun v u => by kernel_rfl, ?s6⟩, ⟨fun v u => by kernel_rfl, ?s7⟩, ⟨fun v u => by kernel_rfl, ?s8⟩, ⟨fun v u => by kernel_rfl, ?s9⟩, ⟨fun v u => by kernel_rfl, ?s10⟩, ⟨fun v u => by kernel_rfl, ?s11⟩, ⟨fun v u => by kernel_rfl, ?s12⟩, ⟨fun v u => by kernel_rfl, ?s13⟩, ⟨fun v u => by kernel_rfl, ?s14⟩, ⟨fun v u => by kernel_rfl, ?s15⟩, ⟨fun v u => by kernel_rfl, ?s16⟩, ⟨fun v u => by kernel_rfl, ?s17⟩, ⟨fun v u => by kernel_rfl, ?s18⟩, ⟨fun v u => by kernel_rfl, ?s19⟩, ⟨fun v u => by kernel_rfl, ?s20⟩, ⟨fun v u => by kernel_rfl, ?s21⟩, ⟨fun v u => by kernel_rfl, ?s22⟩, ⟨fun v u => by kernel_rfl, ?s23⟩, ⟨fun v u => by kernel_rfl, ?s24⟩, ⟨fun v u => by kernel_rfl, ?s25⟩, ⟨fun v u => by kernel_rfl, ?s26⟩, ⟨fun v u => by kernel_rfl, ?s27⟩, ⟨fun v u => by kernel_rfl, ?s28⟩, ⟨fun v u => by kernel_rfl, ?s29⟩, ⟨fun v u => by kernel_rfl, ?s30⟩, ⟨fun v u => by kernel_rfl, ?s31⟩, ⟨fun v u => by kernel_rfl, ?s32⟩, ⟨fun v u => by kernel_rfl, ?s33⟩, ⟨fun v u => by kernel_rfl, ?s34⟩, ⟨fun v u => by kernel_rfl, ?s35⟩, ⟨fun v u => by kernel_rfl, ?s36⟩, ⟨fun v u => by kernel_rfl, ?s37⟩, ⟨fun v u => by kernel_rfl, ?s38⟩, ⟨fun v u => by kernel_rfl, ?s39⟩, ⟨fun v u => by kernel_rfl, ?s40⟩, trivial⟩
        case s0 =>
          intro v W hW hp
          obtain ⟨X, rfl⟩ := hW
          clear hp
          simp only [mkA, setAll, List.setIfInBounds_toArray, List.set_cons_succ, List.set_cons_zero]
          refine .inl ⟨rfl, ?_⟩
          go_simp
          first | exact ⟨⟨X, rfl⟩, Below.refl _ _, rfl⟩ | exact ⟨⟨X, rfl⟩, Below.refl _ _, rfl, fun h => by cases h⟩
        case s1 =>
          intro v W hW hp
          obtain ⟨X, rfl⟩ := hW
          clear hp
          simp only [mkA, setAll, List.setIfInBounds_toArray, List.set_cons_succ, List.set_cons_zero]
          refine .inl ⟨rfl, ?_⟩
          go_simp
          first | exact ⟨⟨X, rfl⟩, Below.refl _ _, rfl⟩ | exact ⟨⟨X, rfl⟩, Below.refl _ _, rfl, fun h => by cases h⟩
        case s2 =>
          intro v W hW hp
          obtain ⟨X, rfl⟩ := hW
          clear hp
          simp only [mkA, setAll, List.setIfInBounds_toArray, List.set_cons_succ, List.set_cons_zero]
          refine .inl ⟨rfl, ?_⟩
          go_simp
          first | exact ⟨⟨X, rfl⟩, Below.refl _ _, rfl⟩ | exact ⟨⟨X, rfl⟩, Below.refl _ _, rfl, fun h => by cases h⟩
        case s3 =>
          intro v W hW hp
          obtain ⟨X, rfl⟩ := hW
          have g0 : v 0 = labV a := hp ⟨0, .data⟩ (by simp) rfl
          have g1 : v 1 = labV b := hp ⟨1, .data⟩ (by simp) rfl
          have g2 : v 2 = labV c := hp ⟨2, .data⟩ (by simp) rfl
          clear hp
          simp only [mkA, setAll, List.setIfInBounds_toArray, List.set_cons_succ, List.set_cons_zero]
          refine .inl ⟨rfl, ?_⟩
          go_simp
          exact ⟨over_of (below_new (over_below _ _) _), below_old _ _, ⟨_, rfl, labs_new3 _ _ a b c⟩⟩
        case s4 =>
          intro v W hW hp
          obtain ⟨X, rfl⟩ := hW
          obtain ⟨b3, g3, r3⟩ := hp ⟨3, .data⟩ (by simp) rfl
          clear hp
          simp only [mkA, setAll, List.setIfInBounds_toArray, List.set_cons_succ, List.set_cons_zero]
          refine .inl ⟨rfl, ?_⟩
          go_simp
          refine (K1.out _ _ _ r3).mono ?_
          rintro e W2 ⟨rfl, hb2⟩
          first | exact ⟨_, rfl, over_of (below_here (over_below _ _) hb2), hb2, rfl⟩ | exact ⟨_, rfl, over_of (below_here (over_below _ _) hb2), hb2, rfl, fun h => by cases h⟩
        case s5 =>
          intro v W hW hp
          obtain ⟨X, rfl⟩ := hW
          clear hp
          simp only [mkA, setAll, List.setIfInBounds_toArray, List.set_cons_succ, List.set_cons_zero]
          refine .inl ⟨rfl, ?_⟩
          go_simp
          first | exact ⟨⟨X, rfl⟩, Below.refl _ _, rfl⟩ | exact ⟨⟨X, rfl⟩, Below.refl _ _, rfl, fun h => by cases h⟩
        case s6 =>
          intro v W hW hp
          obtain ⟨X, rfl⟩ := hW
          clear hp
          simp only [mkA, setAll, List.setIfInBounds_toArray, List.set_cons_succ, List.set_cons_zero]
          refine .inl ⟨rfl, ?_⟩
          go_simp
          first | exact ⟨⟨X, rfl⟩, Below.refl _ _, rfl⟩ | exact ⟨⟨X, rfl⟩, Below.refl _ _, rfl, fun h => by cases h⟩
        case s7 =>
          intro v W hW hp
          obtain ⟨X, rfl⟩ := hW
          have g5 : v 5 = labV j := hp ⟨5, .data⟩ (by simp) rfl
          have g6 : v 6 = labV c := hp ⟨6, .data⟩ (by simp) rfl
          clear hp
          simp only [mkA, setAll, List.setIfInBounds_toArray, List.set_cons_succ, List.set_cons_zero]
          refine .inl ⟨rfl, ?_⟩
          go_simp
          exact ⟨over_of (below_new (over_below _ _) _), below_old _ _, ⟨_, rfl, labs_new _ _ j.1 j.2 c.1 c.2⟩⟩
        case s8 =>
          intro v W hW hp
          obtain ⟨X, rfl⟩ := hW
          obtain ⟨b7, g7, r7⟩ := hp ⟨7, .data⟩ (by simp) rfl
          clear hp
          simp only [mkA, setAll, List.setIfInBounds_toArray, List.set_cons_succ, List.set_cons_zero]
          refine .inl ⟨rfl, ?_⟩
          go_simp
          refine (K2.out _ _ _ r7).mono ?_
          rintro e W2 ⟨rfl, hb2⟩
          first | exact ⟨_, rfl, over_of (below_here (over_below _ _) hb2), hb2, rfl⟩ | exact ⟨_, rfl, over_of (below_here (over_below _ _) hb2), hb2, rfl, fun h => by cases h⟩
        case s9 =>
          intro v W hW hp
          obtain ⟨X, rfl⟩ := hW
          have g4 : v 4 = labV X1 := hp ⟨4, .data⟩ (by simp) rfl
          have g8 : v 8 = labV X1 := hp ⟨8, .data⟩ (by simp) rfl
          clear hp
          simp only [mkA, setAll, List.setIfInBounds_toArray, List.set_cons_succ, List.set_cons_zero]
          refine .inl ⟨rfl, ?_⟩
          go_simp
          first | exact ⟨⟨X, rfl⟩, Below.refl _ _, rfl⟩ | exact ⟨⟨X, rfl⟩, Below.refl _ _, rfl, fun h => by cases h⟩
        case s10 =>
          intro v W hW hp
          obtain ⟨X, rfl⟩ := hW
          have g9 : v 9 = .bool true := hp ⟨9, .data⟩ (by simp) rfl
          clear hp
          simp only [mkA, setAll, List.setIfInBounds_toArray, List.set_cons_succ, List.set_cons_zero]
          refine .inl ⟨rfl, ?_⟩
          go_simp
          first | exact ⟨⟨X, rfl⟩, Below.refl _ _, rfl⟩ | exact ⟨⟨X, rfl⟩, Below.refl _ _, rfl, fun h => by cases h⟩
        case s11 =>
          intro v W hW hp
          obtain ⟨X, rfl⟩ := hW
          have g10 : v 10 = .bool true := hp ⟨10, .guard⟩ (by simp) rfl
          clear hp
          simp only [mkA, setAll, List.setIfInBounds_toArray, List.set_cons_succ, List.set_cons_zero]
          refine .inl ⟨by simp only [g10]; rfl, ?_⟩
          go_simp
          first | exact ⟨⟨X, rfl⟩, Below.refl _ _, rfl⟩ | exact ⟨⟨X, rfl⟩, Below.refl _ _, rfl, fun h => by cases h⟩
        case s12 =>
          intro v W hW hp
          obtain ⟨X, rfl⟩ := hW
          have g10 : v 10 = .bool true := hp ⟨10, .guard⟩ (by simp) rfl
          clear hp
          simp only [mkA, setAll, List.setIfInBounds_toArray, List.set_cons_succ, List.set_cons_zero]
          refine .inl ⟨by simp only [g10]; rfl, ?_⟩
          go_simp
          first | exact ⟨⟨X, rfl⟩, Below.refl _ _, rfl⟩ | exact ⟨⟨X, rfl⟩, Below.refl _ _, rfl, fun h => by cases h⟩
        case s13 =>
          intro v W hW hp
          obtain ⟨X, rfl⟩ := hW
          have g10 : v 10 = .bool true := hp ⟨10, .guard⟩ (by simp) rfl
          clear hp
          simp only [mkA, setAll, List.setIfInBounds_toArray, List.set_cons_succ, List.set_cons_zero]
          refine .inl ⟨by simp only [g10]; rfl, ?_⟩
          go_simp
          first | exact ⟨⟨X, rfl⟩, Below.refl _ _, rfl⟩ | exact ⟨⟨X, rfl⟩, Below.refl _ _, rfl, fun h => by cases h⟩
        case s14 =>
          intro v W hW hp
          obtain ⟨X, rfl⟩ := hW
          have g11 : v 11 = labV a := hp ⟨11, .data⟩ (by simp) rfl
          have g12 : v 12 = labV b := hp ⟨12, .data⟩ (by simp) rfl
          have g13 : v 13 = labV c := hp ⟨13, .data⟩ (by simp) rfl
          have g10 : v 10 = .bool true := hp ⟨10, .guard⟩ (by simp) rfl
          clear hp
          simp only [mkA, setAll, List.setIfInBounds_toArray, List.set_cons_succ, List.set_cons_zero]
          refine .inl ⟨by simp only [g10]; rfl, ?_⟩
          go_simp
          exact ⟨over_of (below_new (over_below _ _) _), below_old _ _, ⟨_, rfl, labs_new3 _ _ a b c⟩⟩
        case s15 =>
          intro v W hW hp
          obtain ⟨X, rfl⟩ := hW
          obtain ⟨b14, g14, r14⟩ := hp ⟨14, .data⟩ (by simp) rfl
          have g10 : v 10 = .bool true := hp ⟨10, .guard⟩ (by simp) rfl
          clear hp
          simp only [mkA, setAll, List.setIfInBounds_toArray, List.set_cons_succ, List.set_cons_zero]
          refine .inl ⟨by simp only [g10]; rfl, ?_⟩
          go_simp
          refine (K3.out _ _ _ r14).mono ?_
          rintro e W2 ⟨rfl, hb2⟩
          first | exact ⟨_, rfl, over_of (below_here (over_below _ _) hb2), hb2, rfl⟩ | exact ⟨_, rfl, over_of (below_here (over_below _ _) hb2), hb2, rfl, fun h => by cases h⟩
        case s16 =>
          intro v W hW hp
          obtain ⟨X, rfl⟩ := hW
          have g10 : v 10 = .bool true := hp ⟨10, .guard⟩ (by simp) rfl
          clear hp
          simp only [mkA, setAll, List.setIfInBounds_toArray, List.set_cons_succ, List.set_cons_zero]
          refine .inl ⟨by simp only [g10]; rfl, ?_⟩
          go_simp
          first | exact ⟨⟨X, rfl⟩, Below.refl _ _, rfl⟩ | exact ⟨⟨X, rfl⟩, Below.refl _ _, rfl, fun h => by cases h⟩
        case s17 =>
          intro v W hW hp
          obtain ⟨X, rfl⟩ := hW
          have g10 : v 10 = .bool true := hp ⟨10, .guard⟩ (by simp) rfl
          clear hp
          simp only [mkA, setAll, List.setIfInBounds_toArray, List.set_cons_succ, List.set_cons_zero]
          refine .inl ⟨by simp only [g10]; rfl, ?_⟩
          go_simp
          first | exact ⟨⟨X, rfl⟩, Below.refl _ _, rfl⟩ | exact ⟨⟨X, rfl⟩, Below.refl _ _, rfl, fun h => by cases h⟩
        case s18 =>
          intro v W hW hp
          obtain ⟨X, rfl⟩ := hW
          have g16 : v 16 = labV m := hp ⟨16, .data⟩ (by simp) rfl
          have g17 : v 17 = labV c := hp ⟨17, .data⟩ (by simp) rfl
          have g10 : v 10 = .bool true := hp ⟨10, .guard⟩ (by simp) rfl
          clear hp
          simp only [mkA, setAll, List.setIfInBounds_toArray, List.set_cons_succ, List.set_cons_zero]
          refine .inl ⟨by simp only [g10]; rfl, ?_⟩
          go_simp
          exact ⟨over_of (below_new (over_below _ _) _), below_old _ _, ⟨_, rfl, labs_new _ _ m.1 m.2 c.1 c.2⟩⟩
        case s19 =>
          intro v W hW hp
          obtain ⟨X, rfl⟩ := hW
          obtain ⟨b18, g18, r18⟩ := hp ⟨18, .data⟩ (by simp) rfl
          have g10 : v 10 = .bool true := hp ⟨10, .guard⟩ (by simp) rfl
          clear hp
          simp only [mkA, setAll, List.setIfInBounds_toArray, List.set_cons_succ, List.set_cons_zero]
          refine .inl ⟨by simp only [g10]; rfl, ?_⟩
          go_simp
          refine (K4.out _ _ _ r18).mono ?_
          rintro e W2 ⟨rfl, hb2⟩
          first | exact ⟨_, rfl, over_of (below_here (over_below _ _) hb2), hb2, rfl⟩ | exact ⟨_, rfl, over_of (below_here (over_below _ _) hb2), hb2, rfl, fun h => by cases h⟩
        case s20 =>
          intro v W hW hp
          obtain ⟨X, rfl⟩ := hW
          have g15 : v 15 = labV Y1 := hp ⟨15, .data⟩ (by simp) rfl
          have g19 : v 19 = labV Y1 := hp ⟨19, .data⟩ (by simp) rfl
          have g10 : v 10 = .bool true := hp ⟨10, .guard⟩ (by simp) rfl
          clear hp
          simp only [mkA, setAll, List.setIfInBounds_toArray, List.set_cons_succ, List.set_cons_zero]
          refine .inl ⟨by simp only [g10]; rfl, ?_⟩
          go_simp
          first | exact ⟨⟨X, rfl⟩, Below.refl _ _, rfl⟩ | exact ⟨⟨X, rfl⟩, Below.refl _ _, rfl, fun h => by cases h⟩
        case s21 =>
          intro v W hW hp
          obtain ⟨X, rfl⟩ := hW
          have g10 : v 10 = .bool true := hp ⟨10, .data⟩ (by simp) rfl
          have g20 : v 20 = .bool true := hp ⟨20, .data⟩ (by simp) rfl
          clear hp
          simp only [mkA, setAll, List.setIfInBounds_toArray, List.set_cons_succ, List.set_cons_zero]
          refine .inl ⟨rfl, ?_⟩
          go_simp
          first | exact ⟨⟨X, rfl⟩, Below.refl _ _, rfl⟩ | exact ⟨⟨X, rfl⟩, Below.refl _ _, rfl, fun h => by cases h⟩
        case s22 =>
          intro v W hW hp
          obtain ⟨X, rfl⟩ := hW
          have g21 : v 21 = .bool true := hp ⟨21, .data⟩ (by simp) rfl
          clear hp
          simp only [mkA, setAll, List.setIfInBounds_toArray, List.set_cons_succ, List.set_cons_zero]
          refine .inl ⟨rfl, ?_⟩
          go_simp
          first | exact ⟨⟨X, rfl⟩, Below.refl _ _, rfl⟩ | exact ⟨⟨X, rfl⟩, Below.refl _ _, rfl, fun h => by cases h⟩
        case s23 =>
          intro v W hW hp
          obtain ⟨X, rfl⟩ := hW
          have g22 : v 22 = .bool true := hp ⟨22, .guard⟩ (by simp) rfl
          clear hp
          simp only [mkA, setAll, List.setIfInBounds_toArray, List.set_cons_succ, List.set_cons_zero]
          refine .inl ⟨by simp only [g22]; rfl, ?_⟩
          go_simp
          first | exact ⟨⟨X, rfl⟩, Below.refl _ _, rfl⟩ | exact ⟨⟨X, rfl⟩, Below.refl _ _, rfl, fun h => by cases h⟩
        case s24 =>
          intro v W hW hp
          obtain ⟨X, rfl⟩ := hW
          have g22 : v 22 = .bool true := hp ⟨22, .guard⟩ (by simp) rfl
          clear hp
          simp only [mkA, setAll, List.setIfInBounds_toArray, List.set_cons_succ, List.set_cons_zero]
          refine .inl ⟨by simp only [g22]; rfl, ?_⟩
          go_simp
          first | exact ⟨⟨X, rfl⟩, Below.refl _ _, rfl⟩ | exact ⟨⟨X, rfl⟩, Below.refl _ _, rfl, fun h => by cases h⟩
        case s25 =>
          intro v W hW hp
          obtain ⟨X, rfl⟩ := hW
          have g23 : v 23 = labV a := hp ⟨23, .data⟩ (by simp) rfl
          have g24 : v 24 = labV m := hp ⟨24, .data⟩ (by simp) rfl
          have g22 : v 22 = .bool true := hp ⟨22, .guard⟩ (by simp) rfl
          clear hp
          simp only [mkA, setAll, List.setIfInBounds_toArray, List.set_cons_succ, List.set_cons_zero]
          refine .inl ⟨by simp only [g22]; rfl, ?_⟩
          go_simp
          exact ⟨over_of (below_new (over_below _ _) _), below_old _ _, ⟨_, rfl, labs_new _ _ a.1 a.2 m.1 m.2⟩⟩
        case s26 =>
          intro v W hW hp
          obtain ⟨X, rfl⟩ := hW
          obtain ⟨b25, g25, r25⟩ := hp ⟨25, .data⟩ (by simp) rfl
          have g22 : v 22 = .bool true := hp ⟨22, .guard⟩ (by simp) rfl
          clear hp
          simp only [mkA, setAll, List.setIfInBounds_toArray, List.set_cons_succ, List.set_cons_zero]
          refine .inl ⟨by simp only [g22]; rfl, ?_⟩
          go_simp
          refine (K5.out _ _ _ r25).mono ?_
          rintro e W2 ⟨rfl, hb2⟩
          first | exact ⟨_, rfl, over_of (below_here (over_below _ _) hb2), hb2, rfl⟩ | exact ⟨_, rfl, over_of (below_here (over_below _ _) hb2), hb2, rfl, fun h => by cases h⟩
        case s27 =>
          intro v W hW hp
          obtain ⟨X, rfl⟩ := hW
          have g22 : v 22 = .bool true := hp ⟨22, .guard⟩ (by simp) rfl
          clear hp
          simp only [mkA, setAll, List.setIfInBounds_toArray, List.set_cons_succ, List.set_cons_zero]
          refine .inl ⟨by simp only [g22]; rfl, ?_⟩
          go_simp
          first | exact ⟨⟨X, rfl⟩, Below.refl _ _, rfl⟩ | exact ⟨⟨X, rfl⟩, Below.refl _ _, rfl, fun h => by cases h⟩
        case s28 =>
          intro v W hW hp
          obtain ⟨X, rfl⟩ := hW
          have g26 : v 26 = labV a := hp ⟨26, .data⟩ (by simp) rfl
          have g27 : v 27 = labV a := hp ⟨27, .data⟩ (by simp) rfl
          have g22 : v 22 = .bool true := hp ⟨22, .guard⟩ (by simp) rfl
          clear hp
          simp only [mkA, setAll, List.setIfInBounds_toArray, List.set_cons_succ, List.set_cons_zero]
          refine .inl ⟨by simp only [g22]; rfl, ?_⟩
          go_simp
          first | exact ⟨⟨X, rfl⟩, Below.refl _ _, rfl⟩ | exact ⟨⟨X, rfl⟩, Below.refl _ _, rfl, fun h => by cases h⟩
        case s29 =>
          intro v W hW hp
          obtain ⟨X, rfl⟩ := hW
          have g22 : v 22 = .bool true := hp ⟨22, .data⟩ (by simp) rfl
          have g28 : v 28 = .bool true := hp ⟨28, .data⟩ (by simp) rfl
          clear hp
          simp only [mkA, setAll, List.setIfInBounds_toArray, List.set_cons_succ, List.set_cons_zero]
          refine .inl ⟨rfl, ?_⟩
          go_simp
          first | exact ⟨⟨X, rfl⟩, Below.refl _ _, rfl⟩ | exact ⟨⟨X, rfl⟩, Below.refl _ _, rfl, fun h => by cases h⟩
        case s30 =>
          intro v W hW hp
          obtain ⟨X, rfl⟩ := hW
          have g29 : v 29 = .bool true := hp ⟨29, .data⟩ (by simp) rfl
          clear hp
          simp only [mkA, setAll, List.setIfInBounds_toArray, List.set_cons_succ, List.set_cons_zero]
          refine .inl ⟨rfl, ?_⟩
          go_simp
          first | exact ⟨⟨X, rfl⟩, Below.refl _ _, rfl⟩ | exact ⟨⟨X, rfl⟩, Below.refl _ _, rfl, fun h => by cases h⟩
        case s31 =>
          intro v W hW hp
          obtain ⟨X, rfl⟩ := hW
          have g30 : v 30 = .bool true := hp ⟨30, .guard⟩ (by simp) rfl
          clear hp
          simp only [mkA, setAll, List.setIfInBounds_toArray, List.set_cons_succ, List.set_cons_zero]
          refine .inl ⟨by simp only [g30]; rfl, ?_⟩
          go_simp
          first | exact ⟨⟨X, rfl⟩, Below.refl _ _, rfl⟩ | exact ⟨⟨X, rfl⟩, Below.refl _ _, rfl, fun h => by cases h⟩
        case s32 =>
          intro v W hW hp
          obtain ⟨X, rfl⟩ := hW
          have g30 : v 30 = .bool true := hp ⟨30, .guard⟩ (by simp) rfl
          clear hp
          simp only [mkA, setAll, List.setIfInBounds_toArray, List.set_cons_succ, List.set_cons_zero]
          refine .inl ⟨by simp only [g30]; rfl, ?_⟩
          go_simp
          first | exact ⟨⟨X, rfl⟩, Below.refl _ _, rfl⟩ | exact ⟨⟨X, rfl⟩, Below.refl _ _, rfl, fun h => by cases h⟩
        case s33 =>
          intro v W hW hp
          obtain ⟨X, rfl⟩ := hW
          have g31 : v 31 = labV a := hp ⟨31, .data⟩ (by simp) rfl
          have g32 : v 32 = labV j := hp ⟨32, .data⟩ (by simp) rfl
          have g30 : v 30 = .bool true := hp ⟨30, .guard⟩ (by simp) rfl
          clear hp
          simp only [mkA, setAll, List.setIfInBounds_toArray, List.set_cons_succ, List.set_cons_zero]
          refine .inl ⟨by simp only [g30]; rfl, ?_⟩
          go_simp
          exact ⟨over_of (below_new (over_below _ _) _), below_old _ _, ⟨_, rfl, labs_new _ _ a.1 a.2 j.1 j.2⟩⟩
        case s34 =>
          intro v W hW hp
          obtain ⟨X, rfl⟩ := hW
          obtain ⟨b33, g33, r33⟩ := hp ⟨33, .data⟩ (by simp) rfl
          have g30 : v 30 = .bool true := hp ⟨30, .guard⟩ (by simp) rfl
          clear hp
          simp only [mkA, setAll, List.setIfInBounds_toArray, List.set_cons_succ, List.set_cons_zero]
          refine .inl ⟨by simp only [g30]; rfl, ?_⟩
          go_simp
          refine (K6.out _ _ _ r33).mono ?_
          rintro e W2 ⟨rfl, hb2⟩
          first | exact ⟨_, rfl, over_of (below_here (over_below _ _) hb2), hb2, rfl⟩ | exact ⟨_, rfl, over_of (below_here (over_below _ _) hb2), hb2, rfl, fun h => by cases h⟩
        case s35 =>
          intro v W hW hp
          obtain ⟨X, rfl⟩ := hW
          have g30 : v 30 = .bool true := hp ⟨30, .guard⟩ (by simp) rfl
          clear hp
          simp only [mkA, setAll, List.setIfInBounds_toArray, List.set_cons_succ, List.set_cons_zero]
          refine .inl ⟨by simp only [g30]; rfl, ?_⟩
          go_simp
          first | exact ⟨⟨X, rfl⟩, Below.refl _ _, rfl⟩ | exact ⟨⟨X, rfl⟩, Below.refl _ _, rfl, fun h => by cases h⟩
        case s36 =>
          intro v W hW hp
          obtain ⟨X, rfl⟩ := hW
          have g34 : v 34 = labV a := hp ⟨34, .data⟩ (by simp) rfl
          have g35 : v 35 = labV a := hp ⟨35, .data⟩ (by simp) rfl
          have g30 : v 30 = .bool true := hp ⟨30, .guard⟩ (by simp) rfl
          clear hp
          simp only [mkA, setAll, List.setIfInBounds_toArray, List.set_cons_succ, List.set_cons_zero]
          refine .inl ⟨by simp only [g30]; rfl, ?_⟩
          go_simp
          first | exact ⟨⟨X, rfl⟩, Below.refl _ _, rfl⟩ | exact ⟨⟨X, rfl⟩, Below.refl _ _, rfl, fun h => by cases h⟩
        case s37 =>
          intro v W hW hp
          obtain ⟨X, rfl⟩ := hW
          have g30 : v 30 = .bool true := hp ⟨30, .data⟩ (by simp) rfl
          have g36 : v 36 = .bool true := hp ⟨36, .data⟩ (by simp) rfl
          clear hp
          simp only [mkA, setAll, List.setIfInBounds_toArray, List.set_cons_succ, List.set_cons_zero]
          refine .inl ⟨rfl, ?_⟩
          go_simp
          first | exact ⟨⟨X, rfl⟩, Below.refl _ _, rfl⟩ | exact ⟨⟨X, rfl⟩, Below.refl _ _, rfl, fun h => by cases h⟩
        case s38 =>
          intro v W hW hp
          obtain ⟨X, rfl⟩ := hW
          have g37 : v 37 = .bool true := hp ⟨37, .data⟩ (by simp) rfl
          clear hp
          simp only [mkA, setAll, List.setIfInBounds_toArray, List.set_cons_succ, List.set_cons_zero]
          refine .inl ⟨rfl, ?_⟩
          go_simp
          first | exact ⟨⟨X, rfl⟩, Below.refl _ _, rfl⟩ | exact ⟨⟨X, rfl⟩, Below.refl _ _, rfl, fun h => by cases h⟩
        case s39 =>
          intro v W hW hp
          obtain ⟨X, rfl⟩ := hW
          have g38 : v 38 = .bool true := hp ⟨38, .guard⟩ (by simp) rfl
          clear hp
          simp only [mkA, setAll, List.setIfInBounds_toArray, List.set_cons_succ, List.set_cons_zero]
          refine .inl ⟨by simp only [g38]; rfl, ?_⟩
          go_simp
          refine (lalive_ok _ (HLc.out.below (over_below _ _))).mono ?_
          rintro e W2 ⟨rfl, hb2⟩
          first | exact ⟨_, rfl, over_of (below_here (over_below _ _) hb2), hb2, rfl⟩ | exact ⟨_, rfl, over_of (below_here (over_below _ _) hb2), hb2, rfl, fun h => by cases h⟩
        case s40 =>
          intro v W hW hp
          obtain ⟨X, rfl⟩ := hW
          have g38 : v 38 = .bool true := hp ⟨38, .data⟩ (by simp) rfl
          have g39 : v 39 = .bool true := hp ⟨39, .data⟩ (by simp) rfl
          clear hp
          simp only [mkA, setAll, List.setIfInBounds_toArray, List.set_cons_succ, List.set_cons_zero]
          refine .inl ⟨rfl, ?_⟩
          go_simp
          first | exact ⟨⟨X, rfl⟩, Below.refl _ _, rfl⟩ | exact ⟨⟨X, rfl⟩, Below.refl _ _, rfl, fun h => by cases h⟩
      case fin =>
        intro v W hW hR hD
        have hb9 := below_of_over hW
        have g40 : v 40 = .bool true := hR 40 (by omega)
        simp only [List.drop_succ_cons, List.drop_zero, mkA, setAll, List.setIfInBounds_toArray, List.set_cons_succ, List.set_cons_zero, g40]
        have HBF := Lib.hid (below_here hBc.out hb9)
        clear hW hR hD hb9 g40
        go_wp2_with fail
        go_ret
        exact ⟨rfl, HBF.out⟩
end Go.Proofs.YtdjndnoiankicaaDoor
