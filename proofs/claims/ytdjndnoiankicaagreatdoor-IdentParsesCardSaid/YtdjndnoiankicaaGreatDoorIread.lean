/- Package ident: Read, of a name's bytes. No conditions. -/
import Derived.Test.YtdjndnoiankicaaGreatDoorWirec
namespace Go.Proofs.YtdjndnoiankicaaGreatDoor
open Go.RowKit Go.Shelf
set_option linter.unusedSimpArgs false
set_option linter.unusedVariables false
attribute [local go_sem] cell_over frozen_over

theorem KeptR.box {q r : Nat} {w w' : World} {o : Obj} (h : KeptR q w w') (hq : w.heap[r]? = some o) (hne : r ≠ q) : w'.heap[r]? = some o := h.2.2 r o hne hq
theorem KeptR.quad {q r : Nat} {w w' : World} (h : KeptR q w w') (hr : w.heap.size ≤ r) (hq : q ≤ r) (y0 y1 y2 y3 : Value) : KeptR q w ((((w'.setCell ⟨r, 0, none⟩ y0).setCell ⟨r, 1, none⟩ y1).setCell ⟨r, 2, none⟩ y2).setCell ⟨r, 3, none⟩ y3) := by
  refine ⟨below_quad h.1 hq _ _ _ _, ?_, fun k o hk h1 => ?_⟩
  · have := (setCells_rest r [y0, y1, y2, y3] 0 w').2.2.2
    exact Nat.le_trans h.2.1 (Nat.le_of_eq this.symm)
  · have hlt := (Array.getElem?_eq_some_iff.1 h1).1
    exact (heap_setCells_other r [y0, y1, y2, y3] 0 w' k (by omega)).trans (h.2.2 k o hk h1)
theorem RdAt.quad {q r : Nat} {w : World} (h : RdAt q [] w) (hr : r ≠ q) (y0 y1 y2 y3 : Value) : RdAt q [] ((((w.setCell ⟨r, 0, none⟩ y0).setCell ⟨r, 1, none⟩ y1).setCell ⟨r, 2, none⟩ y2).setCell ⟨r, 3, none⟩ y3) := by
  obtain ⟨g, off, cap, h1, h2, h3, h4, h5⟩ := h
  exact ⟨g, off, cap, (heap_setCells_other r [y0, y1, y2, y3] 0 w q (Ne.symm hr)).trans h1, h2, h3, h4, fun i hi => absurd hi (Nat.not_lt_zero _)⟩
set_option maxRecDepth 100000 in
set_option maxHeartbeats 4000000 in
theorem iread_ok (q : Nat) (x : Idn.I) (hx : Lab.ok x.1) (hf : Idn.fine x = true) (w : World) (hW : RdAt q (Idn.bytes x) w) :
    Calls Tryz.prog 96 #[.pointer (some ⟨q, 0, none⟩)] w fun e w' => e = .returned (idV x) ∧ RdAt q [] w' ∧ KeptR q w w' := by
  have hq := hW.lt
  obtain ⟨⟨a, b⟩, k, n⟩ := x
  obtain ⟨ha, hb⟩ := hx
  have HFI := Lib.hid (fine_ok ((a, b), k, n))
  rw [hf] at HFI
  obtain ⟨h1, h2, h3, h4⟩ := Idn.fine_iff.1 hf
  simp only at h1 h2 h3 h4 ha hb
  have hW' := hW
  unfold Idn.bytes at hW'
  simp only at hW'
  have ea : ((a / 256 : Nat) : Int) * 256 + ((a % 256 : Nat) : Int) = (a : Int) := by omega
  have eb : ((b / 256 : Nat) : Int) * 256 + ((b % 256 : Nat) : Int) = (b : Int) := by omega
  have N1 := Lib.hid (fun w h => rnum2_ok q ((a / 256 : Nat) : Int) ((a % 256 : Nat) : Int) [((b / 256 : Nat) : Int), ((b % 256 : Nat) : Int), k, n] 65535 (by omega) (by omega) (by omega) (by omega) (by omega) w h)
  have N2 := Lib.hid (fun w h => rnum2_ok q ((b / 256 : Nat) : Int) ((b % 256 : Nat) : Int) [k, n] 65535 (by omega) (by omega) (by omega) (by omega) (by omega) w h)
  have N3 := Lib.hid (fun w h => rnum1_ok q k [n] 3 (by omega) (by omega) (by omega) w h)
  have N4 := Lib.hid (fun w h => rnum1_ok q n [] 3 (by omega) (by omega) (by omega) w h)
  simp only [ea] at N1
  simp only [eb] at N2
  generalize [((b / 256 : Nat) : Int), ((b % 256 : Nat) : Int), k, n] = l1 at N1 N2 hW'
  have hB0 := below_fresh w (.cells #[.int .u16 0, .int .u16 0, .int .i64 0, .int .i64 0] 26)
  have HW := Lib.hid (hW'.below hB0)
  have HK := Lib.hid (KeptR.of_below hB0 (Nat.le_of_lt hq))
  have HR := Lib.hid (heap_alloc_new w (.cells #[.int .u16 0, .int .u16 0, .int .i64 0, .int .i64 0] 26))
  have hne : w.heap.size ≠ q := by omega
  have HNE := Lib.hid hne
  have hwa : IntKind.u16.wrap (a : Int) = a := wraps_u16 _ (by omega) (by omega)
  have hwb : IntKind.u16.wrap (b : Int) = b := wraps_u16 _ (by omega) (by omega)
  clear hW hW' hB0 hf ea eb hne
  go_enter Tryz.func96, Tryz.ntmps96
  go_wp2_with fail
  refine (N1.out _ HW.out).mono ?_
  rintro e w1 ⟨rfl, hW1, hK1⟩
  have HR1 := Lib.hid (hK1.box HR.out HNE.out)
  have HW1 := Lib.hid hW1
  have HK1 := Lib.hid (HK.out.trans hK1)
  clear hW1 hK1
  go_wp2_with fail
  refine (N2.out _ HW1.out).mono ?_
  rintro e w2 ⟨rfl, hW2, hK2⟩
  have HR2 := Lib.hid (hK2.box HR1.out HNE.out)
  have HW2 := Lib.hid hW2
  have HK2 := Lib.hid (HK1.out.trans hK2)
  clear hW2 hK2
  go_wp2_with fail
  refine (N3.out _ HW2.out).mono ?_
  rintro e w3 ⟨rfl, hW3, hK3⟩
  have HR3 := Lib.hid (hK3.box HR2.out HNE.out)
  have HW3 := Lib.hid hW3
  have HK3 := Lib.hid (HK2.out.trans hK3)
  clear hW3 hK3
  go_wp2_with fail
  refine (N4.out _ HW3.out).mono ?_
  rintro e w4 ⟨rfl, hW4, hK4⟩
  have HR4 := Lib.hid (hK4.box HR3.out HNE.out)
  have hB5 := below_fresh w4 (.cells #[.int .u16 (a : Int), .int .u16 (b : Int), .int .i64 k, .int .i64 n] 26)
  have HW5 := Lib.hid (hW4.below hB5)
  have HR5 := Lib.hid (block_below hB5 HR4.out)
  have HB5 := Lib.hid hB5
  have HQ5 := Lib.hid (heap_alloc_new w4 (.cells #[.int .u16 (a : Int), .int .u16 (b : Int), .int .i64 k, .int .i64 n] 26))
  have HK4 := Lib.hid ((HK3.out.trans hK4).trans (KeptR.of_below hB5 (Nat.le_of_lt (hW4.lt))))
  clear hW4 hK4 hB5
  go_upto_region 3 with (fail)
  generalize w4.alloc (.cells #[.int .u16 (a : Int), .int .u16 (b : Int), .int .i64 k, .int .i64 n] 26) = w5 at HW5 HR5 HB5 HQ5 HK4 ⊢
  generalize w4.heap.size = n5 at HQ5 HB5 ⊢
  obtain ⟨⟨x0, x1, x2, x3⟩, y0, y1, y2, y3, hpl1⟩ := quad_cells HQ5.out
  go_wp2_with (first
    | (go_at_call 42; refine (HFI.out _).mono ?_; rintro e w6 ⟨rfl, hb6⟩; have HW6 := Lib.hid (HW5.out.below hb6); have HB6 := Lib.hid hb6; have HQ6 := Lib.hid (block_below hb6 HQ5.out); have HR6 := Lib.hid (block_below hb6 HR5.out); clear hb6 x0 x1 x2 x3 y0 y1 y2 y3 hpl1)
    | (go_at_call 178; refine (rerr_ok q _ _ HW6.out).mono ?_; rintro e w7 ⟨rfl, hw7⟩; obtain rfl := hw7.symm; obtain ⟨⟨x0, x1, x2, x3⟩, y0, y1, y2, y3, hpl1⟩ := quad_cells HQ6.out; obtain ⟨⟨c0, c1, c2, c3⟩, f0, f1, f2, f3, hrl⟩ := quad_cells HR6.out))
  have hK6 := (HK4.out.trans (KeptR.of_below HB6.out (Nat.le_of_lt HW5.out.lt)))
  refine id_ret Tryz.results96 w.heap.size rfl ((a, b), k, n) (set_quad' _ _ _ _ _ _ _ _ _ _ _ HR6.out) rfl ⟨rfl, HW6.out.quad HNE.out _ _ _ _, hK6.quad (Nat.le_refl _) (Nat.le_of_lt hq) _ _ _ _⟩
end Go.Proofs.YtdjndnoiankicaaGreatDoor
