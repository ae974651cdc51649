/- Package label: Parse: what it returns. No conditions. -/
import Derived.Test.YtlmacaenbililaaGreatDoorLabb
namespace Go.Proofs.YtlmacaenbililaaGreatDoor
open Go.RowKit Go.Shelf
set_option linter.unusedSimpArgs false
set_option linter.unusedVariables false

theorem cut_len (l : List UInt8) : (Lib.cut l [47]).1.length ≤ l.length ∧ (Lib.cut l [47]).2.1.length ≤ l.length := by
  unfold Lib.cut
  split
  · simp only [List.length_take, List.length_drop]; omega
  · simp
theorem tagparse_of (l : List UInt8) : Tag.parse ⟨l.toArray⟩ = (match Tag.rparse l with | some x => ((x : Nat), (0 : Int)) | none => (0, 3)) := Tag.parse_is ⟨l.toArray⟩
theorem below_drew (w : World) (n : Nat) : Below w.heap.size w (w.drewN n) := below_drawn (Below.refl _ _) n
theorem info_lab : (Tryz.prog.info? 25).map (·.size) = some 2 := by kernel_rfl
/-- The return of a label that lies in a block, and of a value in a slot. -/
theorem lab_ret2 {fn : Func} {a : Act} {W : World} {R : Ending → World → Prop} {p u : Tmp} (h : fn.results = #[.cell p 25, .tmp u]) (b : Nat) (hp : a.tmps.getD p undef = .pointer (some ⟨b, 0, none⟩)) (v : Lab.L)
    (hb : W.heap[b]? = some (.cells #[.int .u16 (v.1 : Int), .int .u16 (v.2 : Int)] 25 (0, 0))) (hdf : a.defers = []) (hR : R (.returned (.tuple #[labV v, a.tmps.getD u undef])) W) : bodyPost Tryz.prog fn R .ret a W :=
  ret_cell_tmp h b 0 hp [.int .u16 (v.1 : Int), .int .u16 (v.2 : Int)] _ (range_of_block hb 0 _ fun j _ => by rw [Nat.zero_add]) Tryz.underlying25 rfl info_lab hdf hR
set_option maxRecDepth 100000 in
set_option maxHeartbeats 2000000 in
theorem lparse_ok (s : ByteArray) (hs : s.size ≤ 1000) (w : World) (hL : LaidAt w) :
    Calls Tryz.prog 77 #[.string s] w fun e w' => e = .returned (.tuple #[labV (Lab.parse s.data.toList).1, .int .i64 (Lab.parse s.data.toList).2]) ∧ Below w.heap.size w w' := by
  have hLn : (s.data.toList).length ≤ 1000 := by rw [Array.length_toList]; exact hs
  obtain ⟨hl1, hl2⟩ := cut_len s.data.toList
  have hb0 := below_new (Below.refl w.heap.size w) (.cells #[.int .u16 0, .int .u16 0] 25)
  obtain ⟨m, hm⟩ := (hL.below hb0).max
  have HCUT := Lib.hid (Tryz.strings_Cut s ⟨#[47]⟩ m (w.alloc (.cells #[.int .u16 0, .int .u16 0] 25)) (by omega) hm)
  have HP : Hid (Lab.parse s.data.toList = Lab.parse s.data.toList) := Lib.hid rfl
  have HL := Lib.hid hL
  rw [show (⟨#[47]⟩ : ByteArray).data.toList = [47] from rfl] at HCUT
  obtain ⟨x, hx⟩ : ∃ x, x = (Lib.cut s.data.toList [47]).1 := ⟨_, rfl⟩
  obtain ⟨y, hy⟩ : ∃ y, y = (Lib.cut s.data.toList [47]).2.1 := ⟨_, rfl⟩
  obtain ⟨z, hz⟩ : ∃ z, z = (Lib.cut s.data.toList [47]).2.2 := ⟨_, rfl⟩
  have hpe : Lab.parse s.data.toList = (match (if z then (match Tag.rparse x, Tag.rparse y with | some a, some b => some (a, b) | _, _ => none) else none : Option Lab.L) with | some a => (a, 0) | none => ((0, 0), 3)) := by
    rw [hx, hy, hz]; rfl
  rw [← hx, ← hy, ← hz] at HCUT
  rw [← hx] at hl1
  rw [← hy] at hl2
  have HX := Lib.hid (fun w h => parse_ok ⟨x.toArray⟩ (by simpa [ByteArray.size] using Nat.le_trans hl1 hLn) w h)
  have HY := Lib.hid (fun w h => parse_ok ⟨y.toArray⟩ (by simpa [ByteArray.size] using Nat.le_trans hl2 hLn) w h)
  rw [tagparse_of] at HX HY
  rw [hpe]
  have hr0 : (w.alloc (.cells #[.int .u16 0, .int .u16 0] 25)).heap[w.heap.size]? = some (.cells #[.int .u16 0, .int .u16 0] 25 (0, 0)) := heap_alloc_new _ _
  have HR := Lib.hid hr0
  clear hx hy hz hpe hm hL hLn hl1 hl2 hr0 HP
  generalize Tag.rparse x = rx at HX
  generalize Tag.rparse y = ry at HY
  have HB0 := Lib.hid hb0
  clear hb0
  cases z with
  | false =>
    go_enter Tryz.func77, Tryz.ntmps77
    go_wp2_with (go_at_call 152; refine HCUT.out.mono ?_; rintro e w1 ⟨rfl, n, rfl⟩)
    have hr1 : ((w.alloc (.cells #[.int .u16 0, .int .u16 0] 25)).drewN n).heap[w.heap.size]? = some (.cells #[.int .u16 0, .int .u16 0] 25 (0, 0)) := HR.out
    refine lab_ret2 Tryz.results77 w.heap.size rfl (0, 0) (pair_set1 (pair_set0 hr1)) rfl ⟨rfl, ?_⟩
    exact ((below_drawn HB0.out n).setCell (p := ⟨w.heap.size, 0, none⟩) (Nat.le_refl _) _).setCell (p := ⟨w.heap.size, 1, none⟩) (Nat.le_refl _) _
  | true =>
    cases rx with
    | none =>
      go_enter Tryz.func77, Tryz.ntmps77
      go_wp2_with (first
        | (go_at_call 152; refine HCUT.out.mono ?_; rintro e w1 ⟨rfl, n, rfl⟩; have HB1 := Lib.hid (below_drawn HB0.out n))
        | (go_at_call 124; refine (HX.out _ (HL.out.below HB1.out)).mono ?_; rintro e w2 ⟨rfl, hb2⟩; have hr2 := block_below hb2 HR.out; obtain ⟨r0, r1, q0, q1⟩ := pair_cells hr2; have q1' : ∀ v, (w2.setCell ⟨w.heap.size, 0, none⟩ v).frozen? ⟨w.heap.size, 1, none⟩ = false := fun v => (pair_cells (pair_set0 hr2)).2.2.2; have HR2 := Lib.hid hr2; have HB2 := Lib.hid (below_here HB1.out hb2); clear hr2 hb2))
      refine lab_ret2 Tryz.results77 w.heap.size rfl (0, 0) (pair_set1 (pair_set0 HR2.out)) rfl ⟨rfl, ?_⟩
      exact (HB2.out.setCell (p := ⟨w.heap.size, 0, none⟩) (Nat.le_refl _) _).setCell (p := ⟨w.heap.size, 1, none⟩) (Nat.le_refl _) _
    | some vx =>
      have HAB := Lib.hid (show ∀ w : World, True from fun _ => trivial)
      cases ry with
      | none =>
        go_enter Tryz.func77, Tryz.ntmps77
        go_wp2_with (first
          | (go_at_call 152; refine HCUT.out.mono ?_; rintro e w1 ⟨rfl, n, rfl⟩; have HB1 := Lib.hid (below_drawn HB0.out n))
          | (go_at_call 124; have _h := HAB; refine (HX.out _ (HL.out.below HB1.out)).mono ?_; rintro e w2 ⟨rfl, hb2⟩; have HR2 := Lib.hid (block_below hb2 HR.out); have HB2 := Lib.hid (below_here HB1.out hb2); clear hb2 HAB)
          | (go_at_call 124; refine (HY.out _ (HL.out.below HB2.out)).mono ?_; rintro e w3 ⟨rfl, hb3⟩; have hr3 := block_below hb3 HR2.out; obtain ⟨r0, r1, q0, q1⟩ := pair_cells hr3; have q1' : ∀ v, (w3.setCell ⟨w.heap.size, 0, none⟩ v).frozen? ⟨w.heap.size, 1, none⟩ = false := fun v => (pair_cells (pair_set0 hr3)).2.2.2; have HR3 := Lib.hid hr3; have HB3 := Lib.hid (below_here HB2.out hb3); clear hr3 hb3))
        refine lab_ret2 Tryz.results77 w.heap.size rfl (0, 0) (pair_set1 (pair_set0 HR3.out)) rfl ⟨rfl, ?_⟩
        exact (HB3.out.setCell (p := ⟨w.heap.size, 0, none⟩) (Nat.le_refl _) _).setCell (p := ⟨w.heap.size, 1, none⟩) (Nat.le_refl _) _
      | some vy =>
        go_enter Tryz.func77, Tryz.ntmps77
        go_wp2_with (first
          | (go_at_call 152; refine HCUT.out.mono ?_; rintro e w1 ⟨rfl, n, rfl⟩; have HB1 := Lib.hid (below_drawn HB0.out n))
          | (go_at_call 124; have _h := HAB; refine (HX.out _ (HL.out.below HB1.out)).mono ?_; rintro e w2 ⟨rfl, hb2⟩; have HR2 := Lib.hid (block_below hb2 HR.out); have HB2 := Lib.hid (below_here HB1.out hb2); clear hb2 HAB)
          | (go_at_call 124; refine (HY.out _ (HL.out.below HB2.out)).mono ?_; rintro e w3 ⟨rfl, hb3⟩; have hr3 := block_below hb3 HR2.out; obtain ⟨r0, r1, q0, q1⟩ := pair_cells hr3; have q1' : ∀ v, (w3.setCell ⟨w.heap.size, 0, none⟩ v).frozen? ⟨w.heap.size, 1, none⟩ = false := fun v => (pair_cells (pair_set0 hr3)).2.2.2; have HR3 := Lib.hid hr3; have HB3 := Lib.hid (below_here HB2.out hb3); clear hr3 hb3))
        refine lab_ret2 Tryz.results77 w.heap.size rfl (vx, vy) (pair_set1 (pair_set0 HR3.out)) rfl ⟨rfl, ?_⟩
        exact (HB3.out.setCell (p := ⟨w.heap.size, 0, none⟩) (Nat.le_refl _) _).setCell (p := ⟨w.heap.size, 1, none⟩) (Nat.le_refl _) _
end Go.Proofs.YtlmacaenbililaaGreatDoor
