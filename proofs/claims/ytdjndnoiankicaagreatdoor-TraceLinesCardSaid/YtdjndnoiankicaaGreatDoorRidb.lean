/- The document's names: lanes and texts. No conditions. -/
import Derived.Test.YtdjndnoiankicaaGreatDoorRid
namespace Go.Proofs.YtdjndnoiankicaaGreatDoor
open Go.RowKit Go.Shelf
set_option linter.unusedSimpArgs false
set_option linter.unusedVariables false
attribute [local go_sem] cell_over frozen_over

theorem quad_set1 {W : World} {b : Nat} {t : TypeId} {x0 x1 x2 x3 : Value} (v : Value) (h : W.heap[b]? = some (.cells #[x0, x1, x2, x3] t (0, 0))) : (W.setCell ⟨b, 1, none⟩ v).heap[b]? = some (.cells #[x0, v, x2, x3] t (0, 0)) := by
  simp [World.setCell, Array.getElem?_modify, h]
theorem quad_set2 {W : World} {b : Nat} {t : TypeId} {x0 x1 x2 x3 : Value} (v : Value) (h : W.heap[b]? = some (.cells #[x0, x1, x2, x3] t (0, 0))) : (W.setCell ⟨b, 2, none⟩ v).heap[b]? = some (.cells #[x0, x1, v, x3] t (0, 0)) := by
  simp [World.setCell, Array.getElem?_modify, h]
theorem quad_set3 {W : World} {b : Nat} {t : TypeId} {x0 x1 x2 x3 : Value} (v : Value) (h : W.heap[b]? = some (.cells #[x0, x1, x2, x3] t (0, 0))) : (W.setCell ⟨b, 3, none⟩ v).heap[b]? = some (.cells #[x0, x1, x2, v] t (0, 0)) := by
  simp [World.setCell, Array.getElem?_modify, h]
/-- Four cells of a name in a block. -/
def IdIn (b : Nat) (x : Idn.I) (W : World) : Prop := W.heap[b]? = some (.cells #[.int .u16 (x.1.1 : Int), .int .u16 (x.1.2 : Int), .int .i64 x.2.1, .int .i64 x.2.2] 26 (0, 0))
theorem IdIn.below {b : Nat} {x : Idn.I} {W W' : World} (h : IdIn b x W) (hb : Below W.heap.size W W') : IdIn b x W' := block_below hb h
set_option maxRecDepth 100000 in
set_option maxHeartbeats 4000000 in
theorem rat_ok (b : Lab.L) (j : Int) (hjb : -9223372036854775808 ≤ j ∧ j ≤ 9223372036854775807) (w : World) : Calls Tryz.prog 46 #[labV b, .int .i64 j] w fun e w' => e = .returned (idV (Idn.mk b j)) ∧ Below w.heap.size w w' := by
  have hb0 := below_new (below_new (below_fresh w (.cells #[.int .u16 (b.1 : Int), .int .u16 (b.2 : Int)] 24)) (.cells #[.int .u16 0, .int .u16 0, .int .i64 0, .int .i64 0] 26)) (.cells #[.int .u16 (b.1 : Int), .int .u16 (b.2 : Int), .int .i64 1, .int .i64 j] 26)
  have hr0 : IdIn (w.heap.size + 1) Idn.zero (((w.alloc (.cells #[.int .u16 (b.1 : Int), .int .u16 (b.2 : Int)] 24)).alloc (.cells #[.int .u16 0, .int .u16 0, .int .i64 0, .int .i64 0] 26)).alloc (.cells #[.int .u16 (b.1 : Int), .int .u16 (b.2 : Int), .int .i64 1, .int .i64 j] 26)) := by
    have := block_below (below_fresh _ (.cells #[.int .u16 (b.1 : Int), .int .u16 (b.2 : Int), .int .i64 1, .int .i64 j] 26)) (heap_alloc_new (w.alloc (.cells #[.int .u16 (b.1 : Int), .int .u16 (b.2 : Int)] 24)) (.cells #[.int .u16 0, .int .u16 0, .int .i64 0, .int .i64 0] 26))
    rwa [World.size_alloc] at this
  have hp0 : IdIn (w.heap.size + 1 + 1) (b, 1, j) (((w.alloc (.cells #[.int .u16 (b.1 : Int), .int .u16 (b.2 : Int)] 24)).alloc (.cells #[.int .u16 0, .int .u16 0, .int .i64 0, .int .i64 0] 26)).alloc (.cells #[.int .u16 (b.1 : Int), .int .u16 (b.2 : Int), .int .i64 1, .int .i64 j] 26)) := by
    have := heap_alloc_new ((w.alloc (.cells #[.int .u16 (b.1 : Int), .int .u16 (b.2 : Int)] 24)).alloc (.cells #[.int .u16 0, .int .u16 0, .int .i64 0, .int .i64 0] 26)) (.cells #[.int .u16 (b.1 : Int), .int .u16 (b.2 : Int), .int .i64 1, .int .i64 j] 26)
    rwa [World.size_alloc, World.size_alloc] at this
  have HB0 := Lib.hid hb0
  have HR0 := Lib.hid hr0
  have HP0 := Lib.hid hp0
  clear hb0 hr0 hp0
  go_enter Tryz.func46, Tryz.ntmps46
  go_wp2_with fail
  go_loopw [] (fun wr => ∃ (q : Nat), Hid (IdIn (w.heap.size + 1 + 1) (b, 1 + (q : Int), j - 4 * (q : Int)) wr) ∧ Hid (IdIn (w.heap.size + 1) Idn.zero wr) ∧ Hid (Below w.heap.size w wr) ∧ (q = 0 ∨ (0 ≤ j - 4 * (q : Int) ∧ j < 12))) (fun wr => (match wr.cell? ⟨w.heap.size + 1 + 1, 3, none⟩ with | some (.int .i64 n) => n.toNat | _ => 0))
  case atStart => exact ⟨0, by simpa using HP0, HR0, HB0, .inl rfl⟩
  case round =>
    obtain ⟨q, hp, hr, hW, hq⟩ := hrel
    obtain ⟨⟨x0, x1, x2, x3⟩, x4, x5, x6, x7, x8⟩ := quad_cells hp.out
    obtain ⟨kk, hkk⟩ : ∃ kk : Int, kk = 1 + (q : Int) := ⟨_, rfl⟩
    obtain ⟨mm, hmm⟩ : ∃ mm : Int, mm = j - 4 * (q : Int) := ⟨_, rfl⟩
    simp only [← hkk, ← hmm] at x0 x1 x2 x3 hp hq
    have hj : -9223372036854775808 ≤ j ∧ j ≤ 9223372036854775807 := hjb
    by_cases hin : 3 < mm ∧ mm < 12
    · obtain ⟨h1, h2⟩ := hin
      have hq3 : q ≤ 2 := by omega
      have hw1 : IntKind.i64.wrap (kk + 1) = kk + 1 := IntWalk.i64_in _ (by omega)
      have hw2 : IntKind.i64.wrap (mm - 4) = mm - 4 := IntWalk.i64_in _ (by omega)
      obtain ⟨W2, hW2⟩ : ∃ W2, W2 = (wr.setCell ⟨w.heap.size + 1 + 1, 2, none⟩ (.int .i64 (kk + 1))).setCell ⟨w.heap.size + 1 + 1, 3, none⟩ (.int .i64 (mm - 4)) := ⟨_, rfl⟩
      have hp2 : IdIn (w.heap.size + 1 + 1) (b, kk + 1, mm - 4) W2 := by rw [hW2]; exact quad_set3 _ (quad_set2 _ hp.out)
      have hr2 : IdIn (w.heap.size + 1) Idn.zero W2 := by
        rw [hW2]
        exact (Below.heap_setCell _ ⟨w.heap.size + 1 + 1, 3, none⟩ _ _ (by simp)).trans ((Below.heap_setCell _ ⟨w.heap.size + 1 + 1, 2, none⟩ _ _ (by simp)).trans hr.out)
      have hb2 : Below w.heap.size w W2 := by
        rw [hW2]
        exact (hW.out.setCell (p := ⟨w.heap.size + 1 + 1, 2, none⟩) (by simp; omega) _).setCell (p := ⟨w.heap.size + 1 + 1, 3, none⟩) (by simp; omega) _
      have HM : Hid (∀ W, W = W2 → (match W.cell? ⟨w.heap.size + 1 + 1, 3, none⟩ with | some (.int .i64 n) => n.toNat | _ => 0) = (mm - 4).toNat) := Lib.hid (fun W e => by rw [e, (quad_cells hp2).1.2.2.2])
      have HM0 : Hid ((match wr.cell? ⟨w.heap.size + 1 + 1, 3, none⟩ with | some (.int .i64 n) => n.toNat | _ => 0) = mm.toNat) := Lib.hid (by rw [x3])
      have HP2 := Lib.hid hp2
      have HR2 := Lib.hid hr2
      have HB2 := Lib.hid hb2
      have HWW := Lib.hid hW2
      have HE1 : Hid (1 + ((q + 1 : Nat) : Int) = kk + 1 ∧ j - 4 * ((q + 1 : Nat) : Int) = mm - 4 ∧ ((q + 1 : Nat) = 0 ∨ (0 ≤ j - 4 * ((q + 1 : Nat) : Int) ∧ j < 12))) := Lib.hid ⟨by omega, by omega, .inr (by omega)⟩
      clear hp2 hr2 hb2 hW2 hp hr hW hkk hmm hq
      go_wp2_with fail
      rw [← HWW.out]
      go_roundw
      case rel => exact ⟨q + 1, by rw [HE1.out.1, HE1.out.2.1]; exact HP2, HR2, HB2, HE1.out.2.2⟩
      case measure => rw [HM.out _ rfl, HM0.out]; omega
    · have hmk : Idn.mk b j = if Idn.fine (b, kk, mm) = true then (b, kk, mm) else Idn.zero := by
        by_cases hr : 0 ≤ j ∧ j < 12
        · have e1 : kk = j / 4 + 1 := by omega
          have e2 : mm = j % 4 := by omega
          rw [Idn.mk_in b hr.1 hr.2, if_pos (Idn.fine_iff.2 (by simp only; omega)), e1, e2]
        · have e : Idn.mk b j = Idn.zero := if_neg hr
          rw [e, if_neg (fun h => by have := Idn.fine_iff.1 h; simp only at this; omega)]
      have HF := Lib.hid (fun w => rfine_ok (b, kk, mm) w)
      have HMK := Lib.hid hmk
      have hways : mm ≤ 3 ∨ (3 < mm ∧ 12 ≤ mm) := by omega
      generalize Idn.fine (b, kk, mm) = d at HF HMK
      clear hmk hin hq hjb hj hkk hmm
      rcases hways with h1 | ⟨h1, h2⟩ <;> cases d
      all_goals
        go_wp2_with (go_at_call 18; refine (HF.out _).mono ?_; rintro e w1 ⟨rfl, hb1⟩; have hp1 := hp.out.below hb1; have hr1 := hr.out.below hb1; clear x0 x1 x2 x3 x4 x5 x6 x7 x8; obtain ⟨⟨x0, x1, x2, x3⟩, x4, x5, x6, x7, x8⟩ := quad_cells hp1; obtain ⟨⟨y0, y1, y2, y3⟩, y4, y5, y6, y7, y8⟩ := quad_cells hr1; have HR1 := Lib.hid hr1; have HB1 := Lib.hid (below_here hW.out hb1); clear hp1 hr1 hb1)
        rw [HMK.out]
        first
          | exact id_ret Tryz.results46 (w.heap.size + 1) rfl (b, kk, mm) (set_quad' _ _ _ _ _ _ _ _ _ _ _ HR1.out) rfl ⟨rfl, below_quad HB1.out (by omega) _ _ _ _⟩
          | exact id_ret Tryz.results46 (w.heap.size + 1) rfl Idn.zero (set_quad' _ _ _ _ _ _ _ _ _ _ _ HR1.out) rfl ⟨rfl, below_quad HB1.out (by omega) _ _ _ _⟩
end Go.Proofs.YtdjndnoiankicaaGreatDoor
