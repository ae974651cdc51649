/- The document's names: their lanes and their order. No conditions. -/
import Derived.Test.YtlmacaenbililaaGreatDoorRidd
namespace Go.Proofs.YtlmacaenbililaaGreatDoor
open Go.RowKit Go.Shelf
set_option linter.unusedSimpArgs false
set_option linter.unusedVariables false
attribute [local go_sem] cell_over frozen_over

theorem eql_idn {a : Act} {o : Oper} {X Y : Operand} (x y : Idn.I) (ho : o.op = .binOp .eql 64 X Y 64) (hx : a.eval X = idV x) (hy : a.eval Y = idV y) (W : World) : (execOp a.eval o).run Tryz.prog W = .ok (.value (.bool (decide (x = y)))) W := by
  obtain ⟨⟨a1, a2⟩, k1, n1⟩ := x
  obtain ⟨⟨b1, b2⟩, k2, n2⟩ := y
  unfold execOp
  simp only [ho, hx, hy]
  by_cases h1 : (a1 : Int) = (b1 : Int)
  · obtain rfl : a1 = b1 := by omega
    by_cases h2 : (a2 : Int) = (b2 : Int)
    · obtain rfl : a2 = b2 := by omega
      by_cases h3 : k1 = k2
      · subst h3
        by_cases h4 : n1 = n2
        · subst h4; go_simp
        · go_simp
      · go_simp
    · have h2' : ¬ a2 = b2 := by omega
      go_simp
  · have h1' : ¬ a1 = b1 := by omega
    go_simp
namespace Idn
theorem lane_hit {x : I} {n : Nat} (hn : n < 12) (h : mk x.1 (n : Int) = x) : lane x = (n : Int) := by
  rw [← h]; exact lane_mk _ (by omega) (by omega)
theorem lane_miss {x : I} (h : ∀ n, n < 12 → mk x.1 ((n : Nat) : Int) ≠ x) : lane x = -1 := by
  by_cases hf : fine x = true
  · exfalso
    obtain ⟨l1, l2, l3, l4⟩ := fine_iff.1 hf
    have hl := lane_fine hf
    exact h (lane x).toNat (by omega) (by rw [show (((lane x).toNat : Nat) : Int) = lane x by omega]; exact mk_lane hf)
  · exact if_neg hf
end Idn
set_option maxRecDepth 100000 in
set_option maxHeartbeats 4000000 in
theorem rlane_ok (x : Idn.I) (w : World) : Calls Tryz.prog 34 #[idV x] w fun e w' => e = .returned (.int .i64 (Idn.lane x)) ∧ Below w.heap.size w w' := by
  have HB := Lib.hid (below_fresh w (.cells #[.int .u16 (x.1.1 : Int), .int .u16 (x.1.2 : Int), .int .i64 x.2.1, .int .i64 x.2.2] 64))
  have HI := Lib.hid (show IdIn w.heap.size x (w.alloc (.cells #[.int .u16 (x.1.1 : Int), .int .u16 (x.1.2 : Int), .int .i64 x.2.1, .int .i64 x.2.2] 64)) from heap_alloc_new w _)
  obtain ⟨RES, hRES⟩ : ∃ RES, RES = Idn.lane x := ⟨_, rfl⟩
  rw [← hRES]
  have HRES := Lib.hid hRES
  clear hRES
  go_enter Tryz.func34, Tryz.ntmps34
  go_wp2_with fail
  go_loopw [3] (fun i wr => ∃ (n : Nat), i = .int .i64 (n : Int) ∧ n ≤ 12 ∧ Hid (∀ m, m < n → Idn.mk x.1 ((m : Nat) : Int) ≠ x) ∧ Hid (IdIn w.heap.size x wr) ∧ Hid (Below w.heap.size w wr)) (fun i _ => 12 - (intOf i).toNat)
  case atStart => exact ⟨0, rfl, by omega, Lib.hid (fun m hm => absurd hm (Nat.not_lt_zero _)), HI, HB⟩
  case round =>
    obtain ⟨n, rfl, hn, hT, hI, hW⟩ := hrel
    by_cases hn12 : n = 12
    · subst hn12
      have hr := Lib.hid (show RES = -1 by rw [HRES.out]; exact Idn.lane_miss hT.out)
      go_wp2_with fail
      go_ret
      exact ⟨by rw [hr.out]; rfl, hW.out⟩
    · have hnl : n < 12 := by omega
      have hni : (n : Int) < 12 := by omega
      have HA := Lib.hid (fun w => rat_ok x.1 (n : Int) (by omega) w)
      have HH := Lib.hid (fun h : Idn.mk x.1 (n : Int) = x => HRES.out.trans (Idn.lane_hit hnl h))
      have HNE : Hid (Idn.mk x.1 (n : Int) ≠ x → ∀ m, m < n + 1 → Idn.mk x.1 ((m : Nat) : Int) ≠ x) := Lib.hid (fun h m hm => by
        by_cases e : m = n
        · subst e; exact h
        · exact hT.out m (by omega))
      have HE : Hid (∀ (a : Act) (o : Oper) (X Y : Operand), o.op = .binOp .eql 64 X Y 64 → a.eval X = idV (Idn.mk x.1 (n : Int)) → a.eval Y = idV x → ∀ W : World, (execOp a.eval o).run Tryz.prog W = .ok (.value (.bool (decide (Idn.mk x.1 (n : Int) = x)))) W) := Lib.hid (fun a o X Y h1 h2 h3 W => eql_idn _ _ h1 h2 h3 W)
      generalize Idn.mk x.1 (n : Int) = y at HA HH HNE HE
      obtain ⟨d, hd⟩ : ∃ d, d = decide (y = x) := ⟨_, rfl⟩
      rw [← hd] at HE
      have HD := Lib.hid hd
      obtain ⟨⟨x0, x1, x2, x3⟩, x4, x5, x6, x7, x8⟩ := quad_cells hI.out
      clear hn12 hT hd HRES HB HI
      go_wp2_with fail
      refine wp_region_over (by kernel_rfl) (by kernel_rfl) ?_
      repeat (first
        | go_big_quiet_step ((go_at_call 36; exact Calls.over_of (HA.out _)))
        | (go_big_quiet_want; refine quiet_value (.bool d) (fun W' _ => HE.out _ _ _ _ rfl rfl rfl W') ?_; simp only [Act.put, List.setIfInBounds_toArray, List.set_cons_succ, List.set_cons_zero]; rename_i K hK; refine hK _ ?_; clear hK K))
      refine wpQuiet_nil ?_
      intro W7 hW7
      have hb7 := below_of_over hW7
      have HI7 := Lib.hid (hI.out.below hb7)
      have HB7 := Lib.hid (below_here hW.out hb7)
      clear hW7 hb7 HE HA x0 x1 x2 x3 x4 x5 x6 x7 x8
      cases d with
      | true =>
        have hr := Lib.hid (HH.out (by have := HD.out; simpa using this.symm))
        go_wp2_with fail
        go_ret
        exact ⟨by rw [hr.out]; rfl, HB7.out⟩
      | false =>
        have hr := Lib.hid (HNE.out (by have := HD.out; simpa using this.symm))
        go_wp2_with fail
        go_roundw
        case rel => exact ⟨n + 1, by go_num, by omega, hr, HI7, HB7⟩
        case measure => simp [intOf]; omega
namespace Idn
/-- The document's order. -/
def rcmp (x y : I) : Int := if x.1 ≠ y.1 then Lab.cmp x.1 y.1 else if lane x < lane y then -1 else if lane y < lane x then 1 else 0
theorem rcmp_is {x y : I} (hx : Lab.ok x.1) (hy : Lab.ok y.1) (fx : fine x = true) (fy : fine y = true) : rcmp x y = cmp x y := by
  unfold rcmp
  by_cases h : x.1 = y.1
  · rw [if_neg (by simpa using h)]
    have hcm := cmp_mk x.1 hx (i := lane x) (j := lane y)
    obtain ⟨a1, a2, a3, a4⟩ := fine_iff.1 fx
    obtain ⟨b1, b2, b3, b4⟩ := fine_iff.1 fy
    have lx := lane_fine fx
    have ly := lane_fine fy
    have hm1 := mk_lane fx
    have hm2 := mk_lane fy
    rw [h, hm2] at hcm
    rw [← h] at hcm
    have hcm' := hcm (by omega) (by omega) (by omega) (by omega)
    rw [hm1] at hcm'
    have hcr := cmp_mk x.1 hx (i := lane y) (j := lane x) (by omega) (by omega) (by omega) (by omega)
    rw [hm1] at hcr
    rw [h, hm2] at hcr
    have han := cmp_anti x y
    have hin := cmp_in x y
    by_cases h1 : lane x < lane y
    · rw [if_pos h1]
      have := hcm'.2 h1
      omega
    · rw [if_neg h1]
      by_cases h2 : lane y < lane x
      · rw [if_pos h2]
        have := hcr.2 h2
        omega
      · rw [if_neg h2]
        have n1 : ¬ cmp x y < 0 := fun h => h1 (hcm'.1 h)
        have n2 : ¬ cmp y x < 0 := fun h => h2 (hcr.1 h)
        omega
  · rw [if_pos h]
    have hne : x ≠ y := fun e => h (by rw [e])
    have hc : Lab.cmp x.1 y.1 ≠ 0 := fun e => h ((Lab.cmp_zero hx hy).1 e)
    unfold cmp
    rw [if_neg hne, or_three, if_pos hc]
end Idn
set_option maxRecDepth 100000 in
set_option maxHeartbeats 4000000 in
theorem ricmp_ok (x y : Idn.I) (hx : Lab.ok x.1) (hy : Lab.ok y.1) (w : World) : Calls Tryz.prog 42 #[idV x, idV y] w fun e w' => e = .returned (.int .i64 (Idn.rcmp x y)) ∧ Below w.heap.size w w' := by
  have HB := Lib.hid (below_new (below_fresh w (.cells #[.int .u16 (x.1.1 : Int), .int .u16 (x.1.2 : Int), .int .i64 x.2.1, .int .i64 x.2.2] 64)) (.cells #[.int .u16 (y.1.1 : Int), .int .u16 (y.1.2 : Int), .int .i64 y.2.1, .int .i64 y.2.2] 64))
  have HC := Lib.hid (fun w => rcmp_ok x.1 y.1 hx hy w)
  have HLX := Lib.hid (fun w => rlane_ok x w)
  have HLY := Lib.hid (fun w => rlane_ok y w)
  have HR : Hid (Idn.rcmp x y = if x.1 ≠ y.1 then Lab.cmp x.1 y.1 else if Idn.lane x < Idn.lane y then -1 else if Idn.lane y < Idn.lane x then 1 else 0) := Lib.hid rfl
  generalize Idn.rcmp x y = R at HR ⊢
  generalize Idn.lane x = lx at HLX HR
  generalize Idn.lane y = ly at HLY HR
  generalize Lab.cmp x.1 y.1 = lc at HC HR
  obtain ⟨⟨a1, a2⟩, k1, n1⟩ := x
  obtain ⟨⟨b1, b2⟩, k2, n2⟩ := y
  simp only at HB HC HR
  clear hx hy
  by_cases h : (a1, a2) = (b1, b2)
  · obtain ⟨rfl, rfl⟩ : a1 = b1 ∧ a2 = b2 := by simpa using h
    rw [if_neg (by simp)] at HR
    clear h HC
    by_cases h1 : lx < ly
    · rw [if_pos h1] at HR
      go_enter Tryz.func42, Tryz.ntmps42
      go_wp2_with fail
      refine wp_region_over (by kernel_rfl) (by kernel_rfl) ?_
      repeat (go_big_quiet_step (first
        | ((go_at_call 34; with_reducible exact Calls.over_of (HLX.out _)))
        | ((go_at_call 34; with_reducible exact Calls.over_of (HLY.out _)))))
      refine wpQuiet_nil ?_
      intro W7 hW7
      have hb7 := below_here HB.out (below_of_over hW7)
      go_wp2_with fail
      go_ret
      exact ⟨by rw [HR.out]; rfl, hb7⟩
    · rw [if_neg h1] at HR
      by_cases h2 : ly < lx
      · rw [if_pos h2] at HR
        go_enter Tryz.func42, Tryz.ntmps42
        go_wp2_with fail
        refine wp_region_over (by kernel_rfl) (by kernel_rfl) ?_
        repeat (go_big_quiet_step (first
          | ((go_at_call 34; with_reducible exact Calls.over_of (HLX.out _)))
          | ((go_at_call 34; with_reducible exact Calls.over_of (HLY.out _)))))
        refine wpQuiet_nil ?_
        intro W7 hW7
        have hb7 := below_here HB.out (below_of_over hW7)
        go_wp2_with fail
        go_ret
        exact ⟨by rw [HR.out]; rfl, hb7⟩
      · rw [if_neg h2] at HR
        go_enter Tryz.func42, Tryz.ntmps42
        go_wp2_with fail
        refine wp_region_over (by kernel_rfl) (by kernel_rfl) ?_
        repeat (go_big_quiet_step (first
          | ((go_at_call 34; with_reducible exact Calls.over_of (HLX.out _)))
          | ((go_at_call 34; with_reducible exact Calls.over_of (HLY.out _)))))
        refine wpQuiet_nil ?_
        intro W7 hW7
        have hb7 := below_here HB.out (below_of_over hW7)
        go_wp2_with fail
        go_ret
        exact ⟨by rw [HR.out]; rfl, hb7⟩
  · rw [if_pos h] at HR
    have hways : (a1 : Int) ≠ (b1 : Int) ∨ ((a1 : Int) = (b1 : Int) ∧ (a2 : Int) ≠ (b2 : Int)) := by
      by_cases e : a1 = b1
      · refine .inr ⟨by omega, fun e2 => h ?_⟩
        rw [e, show a2 = b2 by omega]
      · exact .inl (by omega)
    clear h
    rcases hways with g1 | ⟨g1, g2⟩
    · have g1' : ((a1 : Int) == (b1 : Int)) = false := by simpa using g1
      have g3 : ¬ a1 = b1 := by omega
      go_enter Tryz.func42, Tryz.ntmps42
      go_wp2_with fail
      refine (HC.out _).mono ?_
      rintro r w1 ⟨rfl, hb⟩
      go_wp2_with fail
      go_ret
      exact ⟨by rw [HR.out]; rfl, below_here HB.out hb⟩
    · obtain rfl : a1 = b1 := by omega
      have g2' : ((a2 : Int) == (b2 : Int)) = false := by simpa using g2
      have g3 : ¬ a2 = b2 := by omega
      go_enter Tryz.func42, Tryz.ntmps42
      go_wp2_with fail
      refine (HC.out _).mono ?_
      rintro r w1 ⟨rfl, hb⟩
      go_wp2_with fail
      go_ret
      exact ⟨by rw [HR.out]; rfl, below_here HB.out hb⟩
end Go.Proofs.YtlmacaenbililaaGreatDoor
