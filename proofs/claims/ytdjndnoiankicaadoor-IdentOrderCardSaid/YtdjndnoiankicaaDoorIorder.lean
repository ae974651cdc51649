/- IdentOrder: the walk. No conditions. -/
import Derived.Test.YtdjndnoiankicaaDoorIalive
import Derived.Test.YtdjndnoiankicaaDoorLorder
namespace Go.Proofs.YtdjndnoiankicaaDoor
open Go.RowKit Go.Shelf
set_option linter.unusedSimpArgs false
set_option linter.unusedVariables false
attribute [local go_sem] cell_over frozen_over

/-- The two labels and the three names of the function. -/
def Ord5 (n px py pz : Nat) (p q : Lab.L) (x y z : Idn.I) (W : World) : Prop := LabIn n p W ∧ LabIn (n + 1) q W ∧ W.heap[px]? = some (.cells (idC x).toArray 57 (0, 0)) ∧ W.heap[py]? = some (.cells (idC y).toArray 57 (0, 0)) ∧ W.heap[pz]? = some (.cells (idC z).toArray 57 (0, 0))
theorem Ord5.below {n px py pz : Nat} {p q : Lab.L} {x y z : Idn.I} {W W' : World} (h : Ord5 n px py pz p q x y z W) (hb : Below W.heap.size W W') : Ord5 n px py pz p q x y z W' :=
  ⟨h.1.below hb, h.2.1.below hb, block_below hb h.2.2.1, block_below hb h.2.2.2.1, block_below hb h.2.2.2.2⟩
theorem quad_keep {W : World} {k b : Nat} {o : Obj} (h : k ≠ b) (y0 y1 y2 y3 : Value) (hk : W.heap[k]? = some o) : ((((W.setCell ⟨b, 0, none⟩ y0).setCell ⟨b, 1, none⟩ y1).setCell ⟨b, 2, none⟩ y2).setCell ⟨b, 3, none⟩ y3).heap[k]? = some o :=
  (heap_setCells_other b [y0, y1, y2, y3] 0 W k h).trans hk
theorem eql_run {a : Act} {o : Oper} {X Y : Operand} (x y : Idn.I) (ho : o.op = .binOp .eql 57 X Y 57) (hx : a.eval X = idV x) (hy : a.eval Y = idV y) (W : World) : (execOp a.eval o).run Tryd.prog W = .ok (.value (.bool (decide (x = y)))) W := by
  obtain ⟨⟨a1, a2⟩, k1, n1⟩ := x
  obtain ⟨⟨b1, b2⟩, k2, n2⟩ := y
  unfold execOp
  simp only [ho, hx, hy]
  by_cases h1 : (a1 : Int) = (b1 : Int)
  · obtain rfl : a1 = b1 := by omega
    by_cases h2 : (a2 : Int) = (b2 : Int)
    · obtain rfl : a2 = b2 := by omega
      by_cases h3 : k1 = k2
      · subst h3
        by_cases h4 : n1 = n2
        · subst h4; go_simp
        · go_simp
      · go_simp
    · have h2' : ¬ a2 = b2 := by omega
      go_simp
  · have h1' : ¬ a1 = b1 := by omega
    go_simp
set_option maxRecDepth 100000 in
set_option maxHeartbeats 4000000 in
theorem iorder_ok (p q : Lab.L) (hp : Lab.ok p) (hq : Lab.ok q) (a b : Nat) (ha : a < 256) (hb : b < 256) (w : World) (hL : LaidAt w) :
    Calls Tryd.prog 10 #[labV p, labV q, .int .u8 (a : Int), .int .u8 (b : Int)] w fun e w' => e = .returned (.bool true) ∧ Below w.heap.size w w' := by
  have HB0 := Lib.hid (below_new (below_fresh w (.cells #[.int .u16 (p.1 : Int), .int .u16 (p.2 : Int)] 24)) (.cells #[.int .u16 (q.1 : Int), .int .u16 (q.2 : Int)] 24))
  have HLw := Lib.hid hL
  clear hL
  obtain ⟨i, hi⟩ : ∃ i : Int, i = ((a : Int) % 12) := ⟨_, rfl⟩
  obtain ⟨j, hj⟩ : ∃ j : Int, j = ((b : Int) % 12) := ⟨_, rfl⟩
  have hi0 : 0 ≤ i := by omega
  have hi1 : i < 12 := by omega
  have hj0 : 0 ≤ j := by omega
  have hj1 : j < 12 := by omega
  have HA1 := Lib.hid (fun w => mk_ok p i w)
  have HA2 := Lib.hid (fun w => mk_ok q j w)
  have HA3 := Lib.hid (fun w => mk_ok p j w)
  obtain ⟨x, hx⟩ : ∃ x, x = Idn.mk p i := ⟨_, rfl⟩
  obtain ⟨y, hy⟩ : ∃ y, y = Idn.mk q j := ⟨_, rfl⟩
  obtain ⟨z, hz⟩ : ∃ z, z = Idn.mk p j := ⟨_, rfl⟩
  rw [← hx] at HA1
  rw [← hy] at HA2
  rw [← hz] at HA3
  have HX := Lib.hid hx
  have HY := Lib.hid hy
  have HZ := Lib.hid hz
  clear hx hy hz
  have hwi : (a : Int) % 12 = i := hi.symm
  have hwj : (b : Int) % 12 = j := hj.symm
  clear hi hj
  go_enter Tryd.func10, Tryd.ntmps10
  go_upto_region 2 with (fail)
  have hp9 : LabIn w.heap.size p ((w.alloc (.cells #[.int .u16 (p.1 : Int), .int .u16 (p.2 : Int)] 24)).alloc (.cells #[.int .u16 (q.1 : Int), .int .u16 (q.2 : Int)] 24)) := block_below (below_fresh _ _) (heap_alloc_new w _)
  have hq9 : LabIn (w.heap.size + 1) q ((w.alloc (.cells #[.int .u16 (p.1 : Int), .int .u16 (p.2 : Int)] 24)).alloc (.cells #[.int .u16 (q.1 : Int), .int .u16 (q.2 : Int)] 24)) := by
    have := heap_alloc_new (w.alloc (.cells #[.int .u16 (p.1 : Int), .int .u16 (p.2 : Int)] 24)) (.cells #[.int .u16 (q.1 : Int), .int .u16 (q.2 : Int)] 24)
    rw [World.size_alloc] at this; exact this
  generalize ((w.alloc (.cells #[.int .u16 (p.1 : Int), .int .u16 (p.2 : Int)] 24)).alloc (.cells #[.int .u16 (q.1 : Int), .int .u16 (q.2 : Int)] 24)) = w9 at HB0 hp9 hq9 ⊢
  obtain ⟨c1, c2, c3, c4⟩ := pair_cells hp9
  obtain ⟨d1, d2, d3, d4⟩ := pair_cells hq9
  have l1 : w.heap.size < w9.heap.size := World.block_lt_of_cell? w9 _ c1
  have l2 : w.heap.size + 1 < w9.heap.size := World.block_lt_of_cell? w9 _ d1
  have HP9 := Lib.hid hp9
  have HQ9 := Lib.hid hq9
  clear hp9 hq9
  refine wp_region_freeA 12 [some 20, some 21, some 22, some 23, some 24, some 25, some 26, some 27, some 28, some 11, some 12, some 13] (fun W => ∃ X, W = over w9 X) [Fact.is (labV p), Fact.is (.int .i64 i), Fact.is (idV x), Fact.is (labV q), Fact.is (.int .i64 j), Fact.is (idV y), Fact.is (labV p), Fact.is (.int .i64 j), Fact.is (idV z), Fact.blk w9.heap.size (.cells #[.int .u16 0, .int .u16 0, .int .i64 0, .int .i64 0] 57), Fact.blk w9.heap.size (.cells #[.int .u16 0, .int .u16 0, .int .i64 0, .int .i64 0] 57), Fact.blk w9.heap.size (.cells #[.int .u16 0, .int .u16 0, .int .i64 0, .int .i64 0] 57)] [9, 10, 11] (by kernel_rfl) (by kernel_rfl) ?same (over_of (Below.refl _ _).drew) ?steps ?fin
  case same => kernel_rfl
  case steps =>
    simp only [List.take_succ_cons, List.take_zero, stepsI]
    refine ⟨⟨fun v u => by kernel_rfl, ?s0⟩, ⟨fun v u => by kernel_rfl, ?s1⟩, ⟨fun v u => by kernel_rfl, ?s2⟩, ⟨fun v u => by kernel_rfl, ?s3⟩, ⟨fun v u => by kernel_rfl, ?s4⟩, ⟨fun v u => by kernel_rfl, ?s5⟩, ⟨fun v u => by kernel_rfl, ?s6⟩, ⟨fun v u => by kernel_rfl, ?s7⟩, ⟨fun v u => by kernel_rfl, ?s8⟩, ⟨fun v u => by kernel_rfl, ?s9⟩, ⟨fun v u => by kernel_rfl, ?s10⟩, ⟨fun v u => by kernel_rfl, ?s11⟩, trivial⟩
    case s0 =>
      intro v W hW hp
      obtain ⟨X, rfl⟩ := hW
      clear hp
      simp only [mkA, setAll, List.setIfInBounds_toArray, List.set_cons_succ, List.set_cons_zero]
      refine .inl ⟨rfl, ?_⟩
      go_simp
      first | exact ⟨⟨X, rfl⟩, Below.refl _ _, rfl⟩ | exact ⟨⟨X, rfl⟩, Below.refl _ _, rfl, fun h => by cases h⟩
    case s1 =>
      intro v W hW hp
      obtain ⟨X, rfl⟩ := hW
      clear hp
      simp only [mkA, setAll, List.setIfInBounds_toArray, List.set_cons_succ, List.set_cons_zero]
      refine .inl ⟨rfl, ?_⟩
      go_simp
      first | exact ⟨⟨X, rfl⟩, Below.refl _ _, rfl⟩ | exact ⟨⟨X, rfl⟩, Below.refl _ _, rfl, fun h => by cases h⟩
    case s2 =>
      intro v W hW hp
      obtain ⟨X, rfl⟩ := hW
      have g0 : v 0 = labV p := hp ⟨0, .data⟩ (by simp) rfl
      have g1 : v 1 = .int .i64 i := hp ⟨1, .data⟩ (by simp) rfl
      clear hp
      simp only [mkA, setAll, List.setIfInBounds_toArray, List.set_cons_succ, List.set_cons_zero]
      refine .inl ⟨rfl, ?_⟩
      go_simp
      refine (HA1.out _).mono ?_
      rintro e W2 ⟨rfl, hb2⟩
      first | exact ⟨_, rfl, over_of (below_here (over_below _ _) hb2), hb2, rfl⟩ | exact ⟨_, rfl, over_of (below_here (over_below _ _) hb2), hb2, rfl, fun h => by cases h⟩
    case s3 =>
      intro v W hW hp
      obtain ⟨X, rfl⟩ := hW
      clear hp
      simp only [mkA, setAll, List.setIfInBounds_toArray, List.set_cons_succ, List.set_cons_zero]
      refine .inl ⟨rfl, ?_⟩
      go_simp
      first | exact ⟨⟨X, rfl⟩, Below.refl _ _, rfl⟩ | exact ⟨⟨X, rfl⟩, Below.refl _ _, rfl, fun h => by cases h⟩
    case s4 =>
      intro v W hW hp
      obtain ⟨X, rfl⟩ := hW
      clear hp
      simp only [mkA, setAll, List.setIfInBounds_toArray, List.set_cons_succ, List.set_cons_zero]
      refine .inl ⟨rfl, ?_⟩
      go_simp
      first | exact ⟨⟨X, rfl⟩, Below.refl _ _, rfl⟩ | exact ⟨⟨X, rfl⟩, Below.refl _ _, rfl, fun h => by cases h⟩
    case s5 =>
      intro v W hW hp
      obtain ⟨X, rfl⟩ := hW
      have g3 : v 3 = labV q := hp ⟨3, .data⟩ (by simp) rfl
      have g4 : v 4 = .int .i64 j := hp ⟨4, .data⟩ (by simp) rfl
      clear hp
      simp only [mkA, setAll, List.setIfInBounds_toArray, List.set_cons_succ, List.set_cons_zero]
      refine .inl ⟨rfl, ?_⟩
      go_simp
      refine (HA2.out _).mono ?_
      rintro e W2 ⟨rfl, hb2⟩
      first | exact ⟨_, rfl, over_of (below_here (over_below _ _) hb2), hb2, rfl⟩ | exact ⟨_, rfl, over_of (below_here (over_below _ _) hb2), hb2, rfl, fun h => by cases h⟩
    case s6 =>
      intro v W hW hp
      obtain ⟨X, rfl⟩ := hW
      clear hp
      simp only [mkA, setAll, List.setIfInBounds_toArray, List.set_cons_succ, List.set_cons_zero]
      refine .inl ⟨rfl, ?_⟩
      go_simp
      first | exact ⟨⟨X, rfl⟩, Below.refl _ _, rfl⟩ | exact ⟨⟨X, rfl⟩, Below.refl _ _, rfl, fun h => by cases h⟩
    case s7 =>
      intro v W hW hp
      obtain ⟨X, rfl⟩ := hW
      clear hp
      simp only [mkA, setAll, List.setIfInBounds_toArray, List.set_cons_succ, List.set_cons_zero]
      refine .inl ⟨rfl, ?_⟩
      go_simp
      first | exact ⟨⟨X, rfl⟩, Below.refl _ _, rfl⟩ | exact ⟨⟨X, rfl⟩, Below.refl _ _, rfl, fun h => by cases h⟩
    case s8 =>
      intro v W hW hp
      obtain ⟨X, rfl⟩ := hW
      have g6 : v 6 = labV p := hp ⟨6, .data⟩ (by simp) rfl
      have g7 : v 7 = .int .i64 j := hp ⟨7, .data⟩ (by simp) rfl
      clear hp
      simp only [mkA, setAll, List.setIfInBounds_toArray, List.set_cons_succ, List.set_cons_zero]
      refine .inl ⟨rfl, ?_⟩
      go_simp
      refine (HA3.out _).mono ?_
      rintro e W2 ⟨rfl, hb2⟩
      first | exact ⟨_, rfl, over_of (below_here (over_below _ _) hb2), hb2, rfl⟩ | exact ⟨_, rfl, over_of (below_here (over_below _ _) hb2), hb2, rfl, fun h => by cases h⟩
    case s9 =>
      intro v W hW hp
      obtain ⟨X, rfl⟩ := hW
      clear hp
      simp only [mkA, setAll, List.setIfInBounds_toArray, List.set_cons_succ, List.set_cons_zero]
      refine .inl ⟨rfl, ?_⟩
      go_simp
      exact ⟨over_of (below_new (over_below _ _) _), below_fresh _ _, ⟨_, rfl, heap_alloc_new _ _, (over_below w9 X).size⟩, _, rfl, Nat.le_refl _, by simp⟩
    case s10 =>
      intro v W hW hp
      obtain ⟨X, rfl⟩ := hW
      clear hp
      simp only [mkA, setAll, List.setIfInBounds_toArray, List.set_cons_succ, List.set_cons_zero]
      refine .inl ⟨rfl, ?_⟩
      go_simp
      exact ⟨over_of (below_new (over_below _ _) _), below_fresh _ _, ⟨_, rfl, heap_alloc_new _ _, (over_below w9 X).size⟩, _, rfl, Nat.le_refl _, by simp⟩
    case s11 =>
      intro v W hW hp
      obtain ⟨X, rfl⟩ := hW
      clear hp
      simp only [mkA, setAll, List.setIfInBounds_toArray, List.set_cons_succ, List.set_cons_zero]
      refine .inl ⟨rfl, ?_⟩
      go_simp
      exact ⟨over_of (below_new (over_below _ _) _), below_fresh _ _, ⟨_, rfl, heap_alloc_new _ _, (over_below w9 X).size⟩, _, rfl, Nat.le_refl _, by simp⟩
  case fin =>
    intro v W hW hR hD
    have hbW := below_of_over hW
    have g2 : v 2 = _ := hR 2 (by omega)
    have g5 : v 5 = _ := hR 5 (by omega)
    have g8 : v 8 = _ := hR 8 (by omega)
    obtain ⟨bx, g9, kx, nx⟩ := hR 9 (by omega)
    obtain ⟨by', g10, ky, ny⟩ := hR 10 (by omega)
    obtain ⟨bz, g11, kz, nz⟩ := hR 11 (by omega)
    have nxy : bx ≠ by' := fun h => hD 9 10 rfl rfl (by omega) (by omega) (by omega) (by rw [g9, g10, h])
    have nxz : bx ≠ bz := fun h => hD 9 11 rfl rfl (by omega) (by omega) (by omega) (by rw [g9, g11, h])
    have nyz : by' ≠ bz := fun h => hD 10 11 rfl rfl (by omega) (by omega) (by omega) (by rw [g10, g11, h])
    simp only [List.drop_succ_cons, List.drop_zero, mkA, setAll, List.setIfInBounds_toArray, List.set_cons_succ, List.set_cons_zero, g2, g5, g8, g9, g10, g11]
    generalize v 0 = u0
    generalize v 1 = u1
    generalize v 3 = u3
    generalize v 4 = u4
    generalize v 6 = u6
    generalize v 7 = u7
    clear hR hD hW g2 g5 g8 g9 g10 g11
    obtain ⟨⟨x0, x1, x2, x3⟩, x4, x5, x6, x7, x8⟩ := quad_cells kx
    obtain ⟨⟨y0, y1, y2, y3⟩, y4, y5, y6, y7, y8⟩ := quad_cells ky
    obtain ⟨⟨z0, z1, z2, z3⟩, z4, z5, z6, z7, z8⟩ := quad_cells kz
    clear c1 c2 c3 c4 d1 d2 d3 d4
    go_upto_region 3 with (fail)
    have kx1 := set_quad' W bx _ _ _ _ _ (.int .u16 (x.1.1 : Int)) (.int .u16 (x.1.2 : Int)) (.int .i64 x.2.1) (.int .i64 x.2.2) kx
    have ky1 := set_quad' _ by' _ _ _ _ _ (.int .u16 (y.1.1 : Int)) (.int .u16 (y.1.2 : Int)) (.int .i64 y.2.1) (.int .i64 y.2.2) (quad_keep nxy.symm (.int .u16 (x.1.1 : Int)) (.int .u16 (x.1.2 : Int)) (.int .i64 x.2.1) (.int .i64 x.2.2) ky)
    have kz1 := set_quad' _ bz _ _ _ _ _ (.int .u16 (z.1.1 : Int)) (.int .u16 (z.1.2 : Int)) (.int .i64 z.2.1) (.int .i64 z.2.2) (quad_keep nyz.symm (.int .u16 (y.1.1 : Int)) (.int .u16 (y.1.2 : Int)) (.int .i64 y.2.1) (.int .i64 y.2.2) (quad_keep nxz.symm (.int .u16 (x.1.1 : Int)) (.int .u16 (x.1.2 : Int)) (.int .i64 x.2.1) (.int .i64 x.2.2) kz))
    have kx2 := quad_keep nxz (.int .u16 (z.1.1 : Int)) (.int .u16 (z.1.2 : Int)) (.int .i64 z.2.1) (.int .i64 z.2.2) (quad_keep nxy (.int .u16 (y.1.1 : Int)) (.int .u16 (y.1.2 : Int)) (.int .i64 y.2.1) (.int .i64 y.2.2) kx1)
    have ky2 := quad_keep nyz (.int .u16 (z.1.1 : Int)) (.int .u16 (z.1.2 : Int)) (.int .i64 z.2.1) (.int .i64 z.2.2) ky1
    have hb4 := below_quad (below_quad (below_quad hbW nx (.int .u16 (x.1.1 : Int)) (.int .u16 (x.1.2 : Int)) (.int .i64 x.2.1) (.int .i64 x.2.2)) ny (.int .u16 (y.1.1 : Int)) (.int .u16 (y.1.2 : Int)) (.int .i64 y.2.1) (.int .i64 y.2.2)) nz (.int .u16 (z.1.1 : Int)) (.int .u16 (z.1.2 : Int)) (.int .i64 z.2.1) (.int .i64 z.2.2)
    generalize hW4 : ((((((((((((W.setCell ⟨bx, 0, none⟩ (.int .u16 (x.1.1 : Int))).setCell ⟨bx, 1, none⟩ (.int .u16 (x.1.2 : Int))).setCell ⟨bx, 2, none⟩ (.int .i64 x.2.1)).setCell ⟨bx, 3, none⟩ (.int .i64 x.2.2)).setCell ⟨by', 0, none⟩ (.int .u16 (y.1.1 : Int))).setCell ⟨by', 1, none⟩ (.int .u16 (y.1.2 : Int))).setCell ⟨by', 2, none⟩ (.int .i64 y.2.1)).setCell ⟨by', 3, none⟩ (.int .i64 y.2.2)).setCell ⟨bz, 0, none⟩ (.int .u16 (z.1.1 : Int))).setCell ⟨bz, 1, none⟩ (.int .u16 (z.1.2 : Int))).setCell ⟨bz, 2, none⟩ (.int .i64 z.2.1)).setCell ⟨bz, 3, none⟩ (.int .i64 z.2.2)) = w4 at kx2 ky2 kz1 hb4 ⊢
    clear hW4 kx1 ky1 kx ky kz x0 x1 x2 x3 x4 x5 x6 x7 x8 y0 y1 y2 y3 y4 y5 y6 y7 y8 z0 z1 z2 z3 z4 z5 z6 z7 z8 nxy nxz nyz nx ny nz hbW
    have HO := Lib.hid (show Ord5 w.heap.size bx by' bz p q x y z w4 from ⟨HP9.out.below hb4, HQ9.out.below hb4, kx2, ky2, kz1⟩)
    have HB4 := Lib.hid (below_here HB0.out hb4)
    clear kx2 ky2 kz1 hb4 l1 l2 HP9 HQ9 HB0 HA1 HA2 HA3 hwi hwj
    have hfx : Idn.fine x = true := by rw [HX.out]; exact Idn.fine_mk p hi0 hi1
    have hfy : Idn.fine y = true := by rw [HY.out]; exact Idn.fine_mk q hj0 hj1
    have hlx : Idn.lane x = i := by rw [HX.out]; exact Idn.lane_mk p hi0 hi1
    have hbx : x.1 = p := by rw [HX.out, Idn.mk_in p hi0 hi1]
    have hby : y.1 = q := by rw [HY.out, Idn.mk_in q hj0 hj1]
    have hbz : z.1 = p := by rw [HZ.out, Idn.mk_in p hj0 hj1]
    have okx : Lab.ok x.1 := by rw [hbx]; exact hp
    have oky : Lab.ok y.1 := by rw [hby]; exact hq
    have okz : Lab.ok z.1 := by rw [hbz]; exact hp
    have HF := Lib.hid (fun w => fine_ok x w)
    rw [hfx] at HF
    have HL := Lib.hid (fun w => lane_ok x w)
    rw [hlx] at HL
    have C1 := Lib.hid (fun w => icmp_ok x y okx oky w)
    have C2 := Lib.hid (fun w => icmp_ok y x oky okx w)
    have C3 := Lib.hid (fun w => icmp_ok x z okx okz w)
    rw [Idn.cmp_anti y x] at C2
    have hc0 := Idn.cmp_in x y
    have hcz := Idn.cmp_zero okx oky
    generalize Idn.cmp x y = c at C1 C2 hc0 hcz
    have hng : IntKind.i64.wrap (- -c) = c := by rw [Int.neg_neg]; exact IntWalk.i64_in _ (by omega)
    obtain ⟨hc1, hc2⟩ := hc0
    have HXO := Lib.hid HO.out
    have ho := HO.out
    obtain ⟨o1, o2, o3, o4, o5⟩ := ho
    obtain ⟨c1, c2, c3', c4⟩ := pair_cells o1
    obtain ⟨x0, x1, x2, x3⟩ := (quad_cells o3).1
    obtain ⟨y0, y1, y2, y3⟩ := (quad_cells o4).1
    obtain ⟨z0, z1, z2, z3⟩ := (quad_cells o5).1
    have l1 := (pair_cells o1 |>.1 |> World.block_lt_of_cell? w4 _)
    have lx := (quad_cells o3).2.2.2.2.2
    have ly := (quad_cells o4).2.2.2.2.2
    have lz := (quad_cells o5).2.2.2.2.2
    clear o1 o2 o3 o4 o5
    have hb1 : (p.1 : Int) = x.1.1 := by rw [hbx]
    have hb2 : (p.2 : Int) = x.1.2 := by rw [hbx]
    rw [hb1] at c1
    rw [hb2] at c2
    have hcd : (c == 0) = decide (x = y) := by rw [Bool.eq_iff_iff]; simp [hcz]
    have hij : (i == j) = decide (x = z) := by
      rw [Bool.eq_iff_iff, HX.out, HZ.out]; simp [Idn.mk_inj hi0 hi1 hj0 hj1]
    have hcl := Idn.cmp_mk p hp hi0 hi1 hj0 hj1
    rw [← HX.out, ← HZ.out] at hcl
    have HE1 : Hid (∀ (a : Act) (o : Oper) (X Y : Operand), o.op = .binOp .eql 57 X Y 57 → a.eval X = idV x → a.eval Y = idV y → ∀ W : World, (execOp a.eval o).run Tryd.prog W = .ok (.value (.bool (decide (x = y)))) W) := Lib.hid (fun a o X Y h1 h2 h3 W => eql_run x y h1 h2 h3 W)
    have HE2 : Hid (∀ (a : Act) (o : Oper) (X Y : Operand), o.op = .binOp .eql 57 X Y 57 → a.eval X = idV x → a.eval Y = idV z → ∀ W : World, (execOp a.eval o).run Tryd.prog W = .ok (.value (.bool (decide (x = z)))) W) := Lib.hid (fun a o X Y h1 h2 h3 W => eql_run x z h1 h2 h3 W)
    have TX := Lib.hid (fun w hT hW => itext_ok x okx w hT hW)
    have TY := Lib.hid (fun w hT hW => itext_ok y oky w hT hW)
    have htxy : ((⟨(Idn.text x).toArray⟩ : ByteArray).toList == (⟨(Idn.text y).toArray⟩ : ByteArray).toList) = decide (x = y) := by
      rw [Bool.eq_iff_iff, Lib.bytes_beq_iff, decide_eq_true_iff, ← Idn.text_inj okx oky hfx hfy]
      constructor
      · intro h; have := congrArg (fun s : ByteArray => s.data.toList) h; simpa using this
      · intro h; rw [h]
    have hlt3 : decide (Idn.cmp x z < 0) = decide (i < j) := by rw [Bool.eq_iff_iff]; simp [hcl]
    generalize Idn.cmp x z = c3 at C3 hlt3
    generalize (⟨(Idn.text x).toArray⟩ : ByteArray) = tx at TX htxy
    generalize (⟨(Idn.text y).toArray⟩ : ByteArray) = ty at TY htxy
    generalize decide (x = y) = d at hcd HE1 htxy
    generalize decide (x = z) = e at hij HE2
    have HTXY := Lib.hid htxy
    have HLT := Lib.hid hlt3
    clear hcz hfx hfy hlx hbx hby hbz okx oky okz hb1 hb2 hcl htxy hlt3
    refine wp_region_over (by kernel_rfl) (by kernel_rfl) ?_
    repeat (first
      | go_big_quiet_step (first
        | ((go_at_call 39; with_reducible exact Calls.over_of (HF.out _)))
        | ((go_at_call 40; with_reducible exact Calls.over_of (HL.out _)))
        | ((go_at_call 41; with_reducible exact Calls.over_of (C1.out _)))
        | ((go_at_call 41; with_reducible exact Calls.over_of (C2.out _))))
      | (go_big_quiet_want; refine quiet_value (.bool d) (fun W' _ => HE1.out _ _ _ _ rfl rfl rfl W') ?_; simp only [Act.put, List.setIfInBounds_toArray, List.set_cons_succ, List.set_cons_zero]; rename_i K hK; refine hK _ ?_; clear hK K)
      | (go_big_quiet_want; refine quiet_value (.bool e) (fun W' _ => HE2.out _ _ _ _ rfl rfl rfl W') ?_; simp only [Act.put, List.setIfInBounds_toArray, List.set_cons_succ, List.set_cons_zero]; rename_i K hK; refine hK _ ?_; clear hK K))
    refine wpQuiet_nil ?_
    intro W7 hW7
    have hb7 := below_of_over hW7
    clear hW7
    have HB7 := Lib.hid (below_here HB4.out hb7)
    have HL7 := Lib.hid (HLw.out.below (below_here HB4.out hb7))
    have ho := HXO.out.below hb7
    clear x0 x1 x2 x3 y0 y1 y2 y3 z0 z1 z2 z3 l1 lx ly lz c1 c2 c3' c4 hb7 hcd hij hng hc1 hc2 HB4 C1 C2 HF HL
    obtain ⟨o1, o2, o3, o4, o5⟩ := ho
    obtain ⟨x0, x1, x2, x3⟩ := (quad_cells o3).1
    obtain ⟨y0, y1, y2, y3⟩ := (quad_cells o4).1
    obtain ⟨z0, z1, z2, z3⟩ := (quad_cells o5).1
    have lx := (quad_cells o3).2.2.2.2.2
    have ly := (quad_cells o4).2.2.2.2.2
    have lz := (quad_cells o5).2.2.2.2.2
    clear o1 o2 o3 o4 o5
    have htxy := HTXY.out
    have hlt3 := HLT.out
    have hway : (c3 < 0 ∧ i < j) ∨ (¬ c3 < 0 ∧ ¬ i < j) := by
      by_cases h : i < j
      · exact .inl ⟨by simpa [h] using hlt3, h⟩
      · exact .inr ⟨by simpa [h] using hlt3, h⟩
    clear hlt3 HLT HTXY
    have HT7 := Lib.hid htxy
    clear htxy
    go_wp2_with fail
    rcases hway with ⟨hw1, hw2⟩ | ⟨hw1, hw2⟩
    have hk1 : decide (c3 < 0) = true := by simpa using hw1
    have hk2 : decide (i < j) = true := by simpa using hw2
    rotate_left
    have hk1 : decide (c3 < 0) = false := by simpa using hw1
    have hk2 : decide (i < j) = false := by simpa using hw2
    all_goals
      have htxy := HT7.out
      refine wp_region_over (by kernel_rfl) (by kernel_rfl) ?_
      repeat (first
        | go_big_quiet_step (first
          | ((go_at_call 41; with_reducible exact Calls.over_of (C3.out _)))
          | ((go_at_call 42; with_reducible exact Calls.over_of (TX.out _ (HL7.out.tab.below (over_below _ _)) (HL7.out.pow.below (over_below _ _)))))
          | ((go_at_call 42; with_reducible exact Calls.over_of (TY.out _ (HL7.out.tab.below (over_below _ _)) (HL7.out.pow.below (over_below _ _)))))
          | ((go_at_call 43; exact Calls.over_of (ialive_ok _ (HL7.out.below (over_below _ _))))))
        | (go_big_quiet_want; refine quiet_value (.bool d) (fun W' _ => HE1.out _ _ _ _ rfl rfl rfl W') ?_; simp only [Act.put, List.setIfInBounds_toArray, List.set_cons_succ, List.set_cons_zero]; rename_i K hK; refine hK _ ?_; clear hK K))
      refine wpQuiet_nil ?_
      intro W9 hW9
      have HB9 := Lib.hid (below_here HB7.out (below_of_over hW9))
      clear hW9
      go_wp2_with fail
      go_ret
      exact ⟨rfl, HB9.out⟩
end Go.Proofs.YtdjndnoiankicaaDoor
