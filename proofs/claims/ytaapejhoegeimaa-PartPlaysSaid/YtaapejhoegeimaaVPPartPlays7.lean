/- Words and contracts of the reference's functions, begun as a print and cut down to what this claim reaches. No conditions. -/
import Derived.Test.YtaapejhoegeimaaVPPartPlays0
import Derived.Test.YtaapejhoegeimaaVPPartPlays6
namespace Go.Proofs.Ytaapejhoegeimaa.PPartPlays
open Go.RowKit Go.Proofs.YtaapejhoegeimaaW.PrintWords Go.Proofs.YtaapejhoegeimaaW.PrintLast Go.Proofs.YtaapejhoegeimaaW.PrintMore
attribute [local go_sem] max2_int min2_int max_two min_two max_three min_three max_four min_four   -- for this text's walks alone
set_option linter.unusedVariables false
set_option linter.unusedSimpArgs false

/-! ### forepeakref26_With: function 47 -/
def forepeakref26_With.l0 : Nat → List (S39) → Int → Int → Int → Int → Int → Int → Int → Int → Bool → Int → Int → Int → ByteArray → Bool → Int → List (S89) → List (S89) → List (S89) → Option ((List (S39)))
  | 0, _, _, _, _, _, _, _, _, _, _, _, _, _, _, _, _, _, _, _ => none
  | k + 1, x0, x5, x153000, x153001, x153002, x153003, x153004, x153005, x153006, x153007, x153008, x153009, x153010, x153011, x153012, x153013, x153014, x153015, x153016 => if x5 < (x0.length : Int) then (if 0 ≤ x5 then ((forepeakref21_Cmp.f k ((rd_T39 x0 x5).f0.f0.f0) ((rd_T39 x0 x5).f0.f0.f1) ((rd_T39 x0 x5).f0.f1) ((rd_T39 x0 x5).f0.f2) x153000 x153001 x153002 x153003).bind fun t154 => (if t154 < 0 then (forepeakref26_With.l0 k x0 (wrap64 (x5 + 1)) x153000 x153001 x153002 x153003 x153004 x153005 x153006 x153007 x153008 x153009 x153010 x153011 x153012 x153013 x153014 x153015 x153016) else ((some (([] : List (S39)) : List (S39))).bind fun y155 => (if x5 ≤ (x0.length : Int) then ((some (x0.take (x5 : Int).toNat : List (S39))).bind fun y158 => (if y155.length + y158.length < 879609302220 then ((some (y155 ++ y158 : List (S39))).bind fun y163 => (if y163.length < 879609302220 then ((some (y163 ++ [(⟨(⟨(⟨x153000, x153001⟩ : S24), x153002, x153003⟩ : S34), (⟨x153004, x153005⟩ : S24), x153006, x153007, (⟨x153008, x153009⟩ : S24), x153010, x153011, x153012, (⟨x153013, x153014, x153015, x153016⟩ : S37)⟩ : S39)] : List (S39))).bind fun y166 => ((some (x0.drop (x5 : Int).toNat : List (S39))).bind fun y169 => (if y166.length + y169.length < 879609302220 then (some (y166 ++ y169)) else (none)))) else (none))) else (none))) else (none))))) else (none)) else ((some (([] : List (S39)) : List (S39))).bind fun y177 => (if 0 ≤ x5 then (if x5 ≤ (x0.length : Int) then ((some (x0.take (x5 : Int).toNat : List (S39))).bind fun y180 => (if y177.length + y180.length < 879609302220 then ((some (y177 ++ y180 : List (S39))).bind fun y185 => (if y185.length < 879609302220 then ((some (y185 ++ [(⟨(⟨(⟨x153000, x153001⟩ : S24), x153002, x153003⟩ : S34), (⟨x153004, x153005⟩ : S24), x153006, x153007, (⟨x153008, x153009⟩ : S24), x153010, x153011, x153012, (⟨x153013, x153014, x153015, x153016⟩ : S37)⟩ : S39)] : List (S39))).bind fun y188 => ((some (x0.drop (x5 : Int).toNat : List (S39))).bind fun y191 => (if y188.length + y191.length < 879609302220 then (some (y188 ++ y191)) else (none)))) else (none))) else (none))) else (none)) else (none)))
def forepeakref26_With.f (k : Nat) (l0 : List (S39)) (a1_0 : Int) (a1_1 : Int) (a1_2 : Int) (a1_3 : Int) (a1_4 : Int) (a1_5 : Int) (a1_6 : Int) (a1_7 : Bool) (a1_8 : Int) (a1_9 : Int) (a1_10 : Int) (a1_11 : ByteArray) (a1_12 : Bool) (a1_13 : Int) (l1_14 : List (S89)) (l1_15 : List (S89)) (l1_16 : List (S89)) : Option ((List (S39))) := forepeakref26_With.l0 k l0 0 a1_0 a1_1 a1_2 a1_3 a1_4 a1_5 a1_6 a1_7 a1_8 a1_9 a1_10 a1_11 a1_12 a1_13 l1_14 l1_15 l1_16
theorem forepeakref26_With.mono_l : ∀ k, (∀ y0 y1 y2 y3 y4 y5 y6 y7 y8 y9 y10 y11 y12 y13 y14 y15 y16 y17 y18, LeO (forepeakref26_With.l0 k y0 y1 y2 y3 y4 y5 y6 y7 y8 y9 y10 y11 y12 y13 y14 y15 y16 y17 y18) (forepeakref26_With.l0 (k + 1) y0 y1 y2 y3 y4 y5 y6 y7 y8 y9 y10 y11 y12 y13 y14 y15 y16 y17 y18))
  | 0 => fun _ _ _ _ _ _ _ _ _ _ _ _ _ _ _ _ _ _ _ r h => by simp [forepeakref26_With.l0] at h
  | k + 1 => by
    have ih0 := forepeakref26_With.mono_l k
    · intro y0 y1 y2 y3 y4 y5 y6 y7 y8 y9 y10 y11 y12 y13 y14 y15 y16 y17 y18
      unfold forepeakref26_With.l0
      repeat' first
      | (with_reducible exact ih0 _ _ _ _ _ _ _ _ _ _ _ _ _ _ _ _ _ _ _)
      | (with_reducible exact forepeakref21_Cmp.mono _ _ _ _ _ _ _ _ _)
      | (with_reducible exact LeO.refl _)
      | (with_reducible exact LeO.none _)
      | (with_reducible refine LeO.ite ?_ ?_)
      | (with_reducible refine LeO.bind ?_ (fun _ => ?_))
      | exact ih0 _ _ _ _ _ _ _ _ _ _ _ _ _ _ _ _ _ _ _
      | exact forepeakref21_Cmp.mono _ _ _ _ _ _ _ _ _
      | exact LeO.none _
      | refine LeO.ite ?_ ?_
      | refine LeO.bind ?_ (fun _ => ?_)
theorem forepeakref26_With.mono : ∀ a0 a1 a2 a3 a4 a5 a6 a7 a8 a9 a10 a11 a12 a13 a14 a15 a16 a17 k, LeO (forepeakref26_With.f k a0 a1 a2 a3 a4 a5 a6 a7 a8 a9 a10 a11 a12 a13 a14 a15 a16 a17) (forepeakref26_With.f (k + 1) a0 a1 a2 a3 a4 a5 a6 a7 a8 a9 a10 a11 a12 a13 a14 a15 a16 a17) := by
  intro a0 a1 a2 a3 a4 a5 a6 a7 a8 a9 a10 a11 a12 a13 a14 a15 a16 a17 k
  have ih0 := forepeakref26_With.mono_l k
  unfold forepeakref26_With.f
  repeat' first
      | (with_reducible exact ih0 _ _ _ _ _ _ _ _ _ _ _ _ _ _ _ _ _ _ _)
      | (with_reducible exact forepeakref21_Cmp.mono _ _ _ _ _ _ _ _ _)
      | (with_reducible exact LeO.refl _)
      | (with_reducible exact LeO.none _)
      | (with_reducible refine LeO.ite ?_ ?_)
      | (with_reducible refine LeO.bind ?_ (fun _ => ?_))
      | exact ih0 _ _ _ _ _ _ _ _ _ _ _ _ _ _ _ _ _ _ _
      | exact forepeakref21_Cmp.mono _ _ _ _ _ _ _ _ _
      | exact LeO.none _
      | refine LeO.ite ?_ ?_
      | refine LeO.bind ?_ (fun _ => ?_)
def forepeakref26_With.T2 : Bool × List (List Nat × List Nat) := (true, [([], []), ([], []), ([1], [1]), ([0, 2], [0, 2]), ([3], [3]), ([4], [4]), ([4], [4]), ([5, 6, 4], [4, 5, 6]), ([7, 4], [4, 7]), ([8, 4], [4, 8]), ([4], [4]), ([10, 4], [4, 10]), ([9, 11, 4, 4], [4, 9, 11]), ([12, 4], [4, 12]), ([4, 13], [4, 13])])
def forepeakref26_With.B2 : List Nat := [0, 0, 2, 7, 15, 31, 31, 127, 255, 511, 31, 1055, 4095, 8191, 16383]
theorem forepeakref26_With.tab2 : rtab .any (opsOf Try.f47 2) = forepeakref26_With.T2 := by kernel_rfl
theorem forepeakref26_With.bits2 : waitsOk forepeakref26_With.T2.2 forepeakref26_With.B2 = true := by kernel_rfl
set_option maxHeartbeats 8000000 in
set_option maxRecDepth 100000 in
theorem forepeakref26_With.calls (k : Nat) (P0_ : Nat → Prop) (A0 : Option Addr) (c0 : Nat) (l0 : List (S39)) (a1_0 : Int) (a1_1 : Int) (a1_2 : Int) (a1_3 : Int) (a1_4 : Int) (a1_5 : Int) (a1_6 : Int) (a1_7 : Bool) (a1_8 : Int) (a1_9 : Int) (a1_10 : Int) (a1_11 : ByteArray) (a1_12 : Bool) (a1_13 : Int) (P1_14_ : Nat → Prop) (A1_14 : Option Addr) (c1_14 : Nat) (l1_14 : List (S89)) (P1_15_ : Nat → Prop) (A1_15 : Option Addr) (c1_15 : Nat) (l1_15 : List (S89)) (P1_16_ : Nat → Prop) (A1_16 : Option Addr) (c1_16 : Nat) (l1_16 : List (S89)) (r : List (S39)) (w : World) (hs0 : Kd.V k39 39 w w.heap.size (fun k_ => P0_ k_) (.slice A0 l0.length c0) l0) (hs1_14 : Kd.V k89 89 w w.heap.size (fun k_ => P1_14_ k_) (.slice A1_14 l1_14.length c1_14) l1_14) (hs1_15 : Kd.V k89 89 w w.heap.size (fun k_ => P1_15_ k_) (.slice A1_15 l1_15.length c1_15) l1_15) (hs1_16 : Kd.V k89 89 w w.heap.size (fun k_ => P1_16_ k_) (.slice A1_16 l1_16.length c1_16) l1_16) (h : forepeakref26_With.f k l0 a1_0 a1_1 a1_2 a1_3 a1_4 a1_5 a1_6 a1_7 a1_8 a1_9 a1_10 a1_11 a1_12 a1_13 l1_14 l1_15 l1_16 = some r) :
    Calls Try.prog 47 #[.slice A0 l0.length c0, .agg #[.int .u16 a1_0, .int .u16 a1_1, .int .i64 a1_2, .int .i64 a1_3, .int .u16 a1_4, .int .u16 a1_5, .int .i64 a1_6, .bool a1_7, .int .u16 a1_8, .int .u16 a1_9, .int .i64 a1_10, .string a1_11, .bool a1_12, .int .i64 a1_13, .slice A1_14 l1_14.length c1_14, .slice A1_15 l1_15.length c1_15, .slice A1_16 l1_16.length c1_16]] w fun e w' => ∃ v0_ : Value, e = .returned (v0_) ∧ Kd.N k39 39 w' w.heap.size (fun k_ => ((P0_ k_ ∨ P1_14_ k_ ∨ P1_15_ k_ ∨ P1_16_ k_) ∨ w.heap.size ≤ k_)) v0_ r ∧ Below w.heap.size w w' := by
  have hu39 := Try.underlying39
  have hu34 := Try.underlying34
  have HO0 := Aside0.mk (show Kd.V k39 39 w w.heap.size (fun k_ => ((P0_ k_ ∨ P1_14_ k_ ∨ P1_15_ k_ ∨ P1_16_ k_) ∨ w.heap.size ≤ k_)) (.slice A0 l0.length c0) l0 from Kd.V_mono hs0 (fun k_ hk => .inl (.inl hk)))
  have HO1_14 := Aside0.mk (show Kd.V k89 89 w w.heap.size (fun k_ => ((P0_ k_ ∨ P1_14_ k_ ∨ P1_15_ k_ ∨ P1_16_ k_) ∨ w.heap.size ≤ k_)) (.slice A1_14 l1_14.length c1_14) l1_14 from Kd.V_mono hs1_14 (fun k_ hk => .inl (.inr (.inl hk))))
  have HO1_15 := Aside0.mk (show Kd.V k89 89 w w.heap.size (fun k_ => ((P0_ k_ ∨ P1_14_ k_ ∨ P1_15_ k_ ∨ P1_16_ k_) ∨ w.heap.size ≤ k_)) (.slice A1_15 l1_15.length c1_15) l1_15 from Kd.V_mono hs1_15 (fun k_ hk => .inl (.inr (.inr (.inl hk)))))
  have HO1_16 := Aside0.mk (show Kd.V k89 89 w w.heap.size (fun k_ => ((P0_ k_ ∨ P1_14_ k_ ∨ P1_15_ k_ ∨ P1_16_ k_) ∨ w.heap.size ≤ k_)) (.slice A1_16 l1_16.length c1_16) l1_16 from Kd.V_mono hs1_16 (fun k_ hk => .inl (.inr (.inr (.inr hk)))))
  have HB := Aside0.mk (Below.refl w.heap.size w)
  have H : (forepeakref26_With.l0 k l0 0 a1_0 a1_1 a1_2 a1_3 a1_4 a1_5 a1_6 a1_7 a1_8 a1_9 a1_10 a1_11 a1_12 a1_13 l1_14 l1_15 l1_16) = some r := h
  clear h
  have H' := Aside0.mk H
  clear H
  go_enter Try.func47, Try.ntmps47
  go_wp2_with (first | ((with_reducible refine gate_dst (N := 3) rfl ?_); refine box_event ?hg (N := 3) ?hd (cs := #[.int .u16 a1_0, .int .u16 a1_1, .int .i64 a1_2, .int .i64 a1_3, .int .u16 a1_4, .int .u16 a1_5, .int .i64 a1_6, .bool a1_7, .int .u16 a1_8, .int .u16 a1_9, .int .i64 a1_10, .string a1_11, .bool a1_12, .int .i64 a1_13, .slice A1_14 l1_14.length c1_14, .slice A1_15 l1_15.length c1_15, .slice A1_16 l1_16.length c1_16]) (t := 39) ?hr ?_; (case hd => rfl); (case hg => rfl); (case hr => first | (go_simp; done) | (go_simp; rfl)); intro gb152 hg w3 hbox hb; have n0_ := Aside0.mk (Kd.V_below (Kd.V_elderB (by (with_reducible repeat (first | apply Kd.V_alloc | apply Kd.V_drewN | apply Kd.V_drew)); exact HO0.out) gb152 (Nat.le_of_eq hg.symm)) hb); have n1_ := Aside0.mk (Kd.V_below (Kd.V_elderB (by (with_reducible repeat (first | apply Kd.V_alloc | apply Kd.V_drewN | apply Kd.V_drew)); exact HO1_14.out) gb152 (Nat.le_of_eq hg.symm)) hb); have n2_ := Aside0.mk (Kd.V_below (Kd.V_elderB (by (with_reducible repeat (first | apply Kd.V_alloc | apply Kd.V_drewN | apply Kd.V_drew)); exact HO1_15.out) gb152 (Nat.le_of_eq hg.symm)) hb); have n3_ := Aside0.mk (Kd.V_below (Kd.V_elderB (by (with_reducible repeat (first | apply Kd.V_alloc | apply Kd.V_drewN | apply Kd.V_drew)); exact HO1_16.out) gb152 (Nat.le_of_eq hg.symm)) hb); have n4_ := Aside0.mk (below_step (by repeat (first | (with_reducible first | exact HB.out | apply below_alloc | apply pw_below_drewN | apply below_drew1) | exact HB.out)) hb); have n5_ := Aside0.mk (hbox); have n6_ := Aside0.mk ((by rw [hg]; exact (below_size (by repeat (first | (with_reducible first | exact HB.out | apply below_alloc | apply pw_below_drewN | apply below_drew1) | exact HB.out))) : w.heap.size ≤ gb152)); have n7_ := Aside0.mk ((by rw [hg]; exact (below_size (by repeat (first | (with_reducible first | exact HB.out | apply below_alloc | apply pw_below_drewN | apply below_drew1) | exact HB.out))) : w.heap.size ≤ gb152)); clear HO0; clear HO1_14; clear HO1_15; clear HO1_16; clear HB; have HO0 := n0_; have HO1_14 := n1_; have HO1_15 := n2_; have HO1_16 := n3_; have HB := n4_; have BK152 := n5_; have GW152 := n6_; have GE152 := n7_; clear n0_ n1_ n2_ n3_ n4_ n5_ n6_ n7_; clear hb hbox hg))
  go_loopg [5] k (fun kq v5 w' => ∃ (x5_1 : Int), v5 = .int .i64 x5_1 ∧ Aside0 (forepeakref26_With.l0 kq l0 x5_1 a1_0 a1_1 a1_2 a1_3 a1_4 a1_5 a1_6 a1_7 a1_8 a1_9 a1_10 a1_11 a1_12 a1_13 l1_14 l1_15 l1_16 = some r) ∧ Aside0 (kq ≤ k) ∧ Aside0 (Kd.V k39 39 w' w.heap.size (fun k_ => ((P0_ k_ ∨ P1_14_ k_ ∨ P1_15_ k_ ∨ P1_16_ k_) ∨ w.heap.size ≤ k_) ∧ k_ ≠ gb152) (.slice A0 l0.length c0) l0) ∧ Aside0 (Kd.V k89 89 w' w.heap.size (fun k_ => ((P0_ k_ ∨ P1_14_ k_ ∨ P1_15_ k_ ∨ P1_16_ k_) ∨ w.heap.size ≤ k_) ∧ k_ ≠ gb152) (.slice A1_14 l1_14.length c1_14) l1_14) ∧ Aside0 (Kd.V k89 89 w' w.heap.size (fun k_ => ((P0_ k_ ∨ P1_14_ k_ ∨ P1_15_ k_ ∨ P1_16_ k_) ∨ w.heap.size ≤ k_) ∧ k_ ≠ gb152) (.slice A1_15 l1_15.length c1_15) l1_15) ∧ Aside0 (Kd.V k89 89 w' w.heap.size (fun k_ => ((P0_ k_ ∨ P1_14_ k_ ∨ P1_15_ k_ ∨ P1_16_ k_) ∨ w.heap.size ≤ k_) ∧ k_ ≠ gb152) (.slice A1_16 l1_16.length c1_16) l1_16) ∧ Aside0 (w'.heap[gb152]? = some (.cells #[.int .u16 a1_0, .int .u16 a1_1, .int .i64 a1_2, .int .i64 a1_3, .int .u16 a1_4, .int .u16 a1_5, .int .i64 a1_6, .bool a1_7, .int .u16 a1_8, .int .u16 a1_9, .int .i64 a1_10, .string a1_11, .bool a1_12, .int .i64 a1_13, (.slice A1_14 l1_14.length c1_14), (.slice A1_15 l1_15.length c1_15), (.slice A1_16 l1_16.length c1_16)] 39 (0, 0))) ∧ Aside0 (Below w.heap.size w w'))
  case atStart => exact ⟨(0), (by first | rfl | (simp; done) | (simp [*]; done)), H', ⟨Nat.le_refl _⟩, ⟨by (with_reducible repeat (first | apply Kd.V_alloc | apply Kd.V_drewN | apply Kd.V_drew)); exact HO0.out⟩, ⟨by (with_reducible repeat (first | apply Kd.V_alloc | apply Kd.V_drewN | apply Kd.V_drew)); exact HO1_14.out⟩, ⟨by (with_reducible repeat (first | apply Kd.V_alloc | apply Kd.V_drewN | apply Kd.V_drew)); exact HO1_15.out⟩, ⟨by (with_reducible repeat (first | apply Kd.V_alloc | apply Kd.V_drewN | apply Kd.V_drew)); exact HO1_16.out⟩, ⟨by (with_reducible repeat (first | refine blk_drewN ?_ _ | refine blk_drew ?_ | refine blk_alloc ?_ _)); exact BK152.out⟩, ⟨by repeat (first | (with_reducible first | exact HB.out | apply below_alloc | apply pw_below_drewN | apply below_drew1 | refine below_set ?_ GE152.out) | exact HB.out)⟩⟩
  case round =>
    clear H'
    try clear c1
    try clear p2
    obtain ⟨x5_1, rfl, HA, HK1, HO_0, HO_153014, HO_153015, HO_153016, BK152, HB⟩ := hrel
    cases gk with
    | zero => exact absurd HA.out (by simp [forepeakref26_With.l0])
    | succ k1 =>
      have H := HA.out
      clear HA
      simp only [forepeakref26_With.l0] at H
      by_cases c4 : x5_1 < (l0.length : Int)
      · rw [if_pos c4] at H
        have c4b0 : decide (x5_1 < (l0.length : Int)) = true := decide_eq_true c4
        clear c4
        by_cases c5 : 0 ≤ x5_1
        · rw [if_pos c5] at H
          have c5b0 : decide (0 ≤ x5_1) = true := decide_eq_true c5
          clear c5
          replace H := Option.bind_eq_some_iff.mp H
          obtain ⟨t154, A60, H⟩ := H
          replace H : (if t154 < 0 then (forepeakref26_With.l0 k1 l0 (wrap64 (x5_1 + 1)) a1_0 a1_1 a1_2 a1_3 a1_4 a1_5 a1_6 a1_7 a1_8 a1_9 a1_10 a1_11 a1_12 a1_13 l1_14 l1_15 l1_16) else ((some (([] : List (S39)) : List (S39))).bind fun y155 => (if x5_1 ≤ (l0.length : Int) then ((some (l0.take (x5_1 : Int).toNat : List (S39))).bind fun y158 => (if y155.length + y158.length < 879609302220 then ((some (y155 ++ y158 : List (S39))).bind fun y163 => (if y163.length < 879609302220 then ((some (y163 ++ [(⟨(⟨(⟨a1_0, a1_1⟩ : S24), a1_2, a1_3⟩ : S34), (⟨a1_4, a1_5⟩ : S24), a1_6, a1_7, (⟨a1_8, a1_9⟩ : S24), a1_10, a1_11, a1_12, (⟨a1_13, l1_14, l1_15, l1_16⟩ : S37)⟩ : S39)] : List (S39))).bind fun y166 => ((some (l0.drop (x5_1 : Int).toNat : List (S39))).bind fun y169 => (if y166.length + y169.length < 879609302220 then (some (y166 ++ y169)) else (none)))) else (none))) else (none))) else (none)))) = some r := H
          have A6 := Aside0.mk A60
          clear A60
          by_cases c7 : t154 < 0
          · rw [if_pos c7] at H
            have c7b0 : decide (t154 < 0) = true := decide_eq_true c7
            clear c7
            have H' := Aside0.mk H
            clear H
            try go_wp2
            have n0_ := Aside0.mk (Kd.V_drew HO_0.out)
            have n1_ := Aside0.mk (Kd.V_drew HO_153014.out)
            have n2_ := Aside0.mk (Kd.V_drew HO_153015.out)
            have n3_ := Aside0.mk (Kd.V_drew HO_153016.out)
            have n4_ := Aside0.mk (blk_drew BK152.out)
            have n5_ := Aside0.mk (below_drew1 HB.out)
            clear HO_0
            clear HO_153014
            clear HO_153015
            clear HO_153016
            clear BK152
            clear HB
            have HO_0 := n0_
            have HO_153014 := n1_
            have HO_153015 := n2_
            have HO_153016 := n3_
            have BK152 := n4_
            have HB := n5_
            clear n0_ n1_ n2_ n3_ n4_ n5_
            have p153 : 0 ≤ (x5_1 : Int) := of_decide_eq_true (by first | (with_reducible assumption) | assumption)
            have q153 : x5_1 < (l0.length : Int) := of_decide_eq_true (by first | (with_reducible assumption) | assumption)
            obtain ⟨ad153, A153_14, c153_14, A153_15, c153_15, A153_16, c153_16, e153, hx153_0, hx153_1, hx153_2, hx153_3, hx153_4, hx153_5, hx153_6, hx153_7, hx153_8, hx153_9, hx153_10, hx153_11, hx153_12, hx153_13, hx153_14, hx153_15, hx153_16, hl153_14, hi153_14, hl153_15, hi153_15, hl153_16, hi153_16⟩ := at_T39 (Kd.V_reads' HO_0.out).2.2 x5_1 p153 q153
            cases e153
            obtain ⟨ce153, hce153, hMe153, hcc153⟩ := Kd.V_get HO_0.out z39 x5_1 p153 (by first | exact q153 | exact of_decide_eq_true (by first | (with_reducible assumption) | assumption) | (have e_ := (Kd.V_reads' HO_0.out).1; omega))
            obtain ⟨ua153_14, uc153_14, ua153_15, uc153_15, ua153_16, uc153_16, rfl, ul153_14, ge153_14, ul153_15, ge153_15, ul153_16, ge153_16⟩ := k39_openF hMe153
            have hv153_14 := hcc153 14 _ rfl
            rw [add_field _ _ 14 (by omega)] at hv153_14
            replace hv153_14 := Option.some.inj (hv153_14.symm.trans hx153_14)
            injection hv153_14 with hva_ hvn_ hvc_
            rw [hva_] at ge153_14
            rw [hvc_] at ul153_14
            have HL153_14 := Aside0.mk (show Kd.V k89 89 _ w.heap.size _ _ ((rd_T39 l0 x5_1).f8.f1) from Kd.V_mk ul153_14 ge153_14)
            clear hva_ hvn_ hvc_ ge153_14 ul153_14
            have hv153_15 := hcc153 15 _ rfl
            rw [add_field _ _ 15 (by omega)] at hv153_15
            replace hv153_15 := Option.some.inj (hv153_15.symm.trans hx153_15)
            injection hv153_15 with hva_ hvn_ hvc_
            rw [hva_] at ge153_15
            rw [hvc_] at ul153_15
            have HL153_15 := Aside0.mk (show Kd.V k89 89 _ w.heap.size _ _ ((rd_T39 l0 x5_1).f8.f2) from Kd.V_mk ul153_15 ge153_15)
            clear hva_ hvn_ hvc_ ge153_15 ul153_15
            have hv153_16 := hcc153 16 _ rfl
            rw [add_field _ _ 16 (by omega)] at hv153_16
            replace hv153_16 := Option.some.inj (hv153_16.symm.trans hx153_16)
            injection hv153_16 with hva_ hvn_ hvc_
            rw [hva_] at ge153_16
            rw [hvc_] at ul153_16
            have HL153_16 := Aside0.mk (show Kd.V k89 89 _ w.heap.size _ _ ((rd_T39 l0 x5_1).f8.f3) from Kd.V_mk ul153_16 ge153_16)
            clear hva_ hvn_ hvc_ ge153_16 ul153_16
            clear hcc153 hce153
            have HR153_14 := Aside0.mk hi153_14
            have HC153_14 := Aside0.mk hl153_14
            clear hi153_14 hl153_14
            have HR153_15 := Aside0.mk hi153_15
            have HC153_15 := Aside0.mk hl153_15
            clear hi153_15 hl153_15
            have HR153_16 := Aside0.mk hi153_16
            have HC153_16 := Aside0.mk hl153_16
            clear hi153_16 hl153_16
            replace p153 := eq_true p153
            replace q153 := eq_true q153
            refine start_ (n := 15) (S := fun w' => w'.cell? ⟨gb152, 0, none⟩ = some (.int .u16 a1_0) ∧ w'.cell? ⟨gb152, 1, none⟩ = some (.int .u16 a1_1) ∧ w'.cell? ⟨gb152, 2, none⟩ = some (.int .i64 a1_2) ∧ w'.cell? ⟨gb152, 3, none⟩ = some (.int .i64 a1_3) ∧ w'.cell? ⟨gb152, 4, none⟩ = some (.int .u16 a1_4) ∧ w'.cell? ⟨gb152, 5, none⟩ = some (.int .u16 a1_5) ∧ w'.cell? ⟨gb152, 6, none⟩ = some (.int .i64 a1_6) ∧ w'.cell? ⟨gb152, 7, none⟩ = some (.bool a1_7) ∧ w'.cell? ⟨gb152, 8, none⟩ = some (.int .u16 a1_8) ∧ w'.cell? ⟨gb152, 9, none⟩ = some (.int .u16 a1_9) ∧ w'.cell? ⟨gb152, 10, none⟩ = some (.int .i64 a1_10) ∧ w'.cell? ⟨gb152, 11, none⟩ = some (.string a1_11) ∧ w'.cell? ⟨gb152, 12, none⟩ = some (.bool a1_12) ∧ w'.cell? ⟨gb152, 13, none⟩ = some (.int .i64 a1_13) ∧ w'.cell? ⟨gb152, 14, none⟩ = some (.slice A1_14 l1_14.length c1_14) ∧ w'.cell? ⟨gb152, 15, none⟩ = some (.slice A1_15 l1_15.length c1_15) ∧ w'.cell? ⟨gb152, 16, none⟩ = some (.slice A1_16 l1_16.length c1_16) ∧ w'.cell? (ad153.add ((x5_1).toNat * 17)) = some (.int .u16 ((rd_T39 l0 x5_1).f0.f0.f0)) ∧ w'.cell? ⟨(ad153.add ((x5_1).toNat * 17)).block, (ad153.add ((x5_1).toNat * 17)).off + 1, none⟩ = some (.int .u16 ((rd_T39 l0 x5_1).f0.f0.f1)) ∧ w'.cell? ⟨(ad153.add ((x5_1).toNat * 17)).block, (ad153.add ((x5_1).toNat * 17)).off + 2, none⟩ = some (.int .i64 ((rd_T39 l0 x5_1).f0.f1)) ∧ w'.cell? ⟨(ad153.add ((x5_1).toNat * 17)).block, (ad153.add ((x5_1).toNat * 17)).off + 3, none⟩ = some (.int .i64 ((rd_T39 l0 x5_1).f0.f2)) ∧ w'.cell? ⟨(ad153.add ((x5_1).toNat * 17)).block, (ad153.add ((x5_1).toNat * 17)).off + 4, none⟩ = some (.int .u16 ((rd_T39 l0 x5_1).f1.f0)) ∧ w'.cell? ⟨(ad153.add ((x5_1).toNat * 17)).block, (ad153.add ((x5_1).toNat * 17)).off + 5, none⟩ = some (.int .u16 ((rd_T39 l0 x5_1).f1.f1)) ∧ w'.cell? ⟨(ad153.add ((x5_1).toNat * 17)).block, (ad153.add ((x5_1).toNat * 17)).off + 6, none⟩ = some (.int .i64 ((rd_T39 l0 x5_1).f2)) ∧ w'.cell? ⟨(ad153.add ((x5_1).toNat * 17)).block, (ad153.add ((x5_1).toNat * 17)).off + 7, none⟩ = some (.bool ((rd_T39 l0 x5_1).f3)) ∧ w'.cell? ⟨(ad153.add ((x5_1).toNat * 17)).block, (ad153.add ((x5_1).toNat * 17)).off + 8, none⟩ = some (.int .u16 ((rd_T39 l0 x5_1).f4.f0)) ∧ w'.cell? ⟨(ad153.add ((x5_1).toNat * 17)).block, (ad153.add ((x5_1).toNat * 17)).off + 9, none⟩ = some (.int .u16 ((rd_T39 l0 x5_1).f4.f1)) ∧ w'.cell? ⟨(ad153.add ((x5_1).toNat * 17)).block, (ad153.add ((x5_1).toNat * 17)).off + 10, none⟩ = some (.int .i64 ((rd_T39 l0 x5_1).f5)) ∧ w'.cell? ⟨(ad153.add ((x5_1).toNat * 17)).block, (ad153.add ((x5_1).toNat * 17)).off + 11, none⟩ = some (.string ((rd_T39 l0 x5_1).f6)) ∧ w'.cell? ⟨(ad153.add ((x5_1).toNat * 17)).block, (ad153.add ((x5_1).toNat * 17)).off + 12, none⟩ = some (.bool ((rd_T39 l0 x5_1).f7)) ∧ w'.cell? ⟨(ad153.add ((x5_1).toNat * 17)).block, (ad153.add ((x5_1).toNat * 17)).off + 13, none⟩ = some (.int .i64 ((rd_T39 l0 x5_1).f8.f0)) ∧ w'.cell? ⟨(ad153.add ((x5_1).toNat * 17)).block, (ad153.add ((x5_1).toNat * 17)).off + 14, none⟩ = some (.slice A153_14 ((rd_T39 l0 x5_1).f8.f1).length c153_14) ∧ w'.cell? ⟨(ad153.add ((x5_1).toNat * 17)).block, (ad153.add ((x5_1).toNat * 17)).off + 15, none⟩ = some (.slice A153_15 ((rd_T39 l0 x5_1).f8.f2).length c153_15) ∧ w'.cell? ⟨(ad153.add ((x5_1).toNat * 17)).block, (ad153.add ((x5_1).toNat * 17)).off + 16, none⟩ = some (.slice A153_16 ((rd_T39 l0 x5_1).f8.f3).length c153_16)) (ds := []) #[false, false, false, false, false, false, false, false, false, false, false, false, false, false, false] (by kernel_rfl) rfl rfl ⟨(blk_cell BK152.out 0).trans rfl, (blk_cell BK152.out 1).trans rfl, (blk_cell BK152.out 2).trans rfl, (blk_cell BK152.out 3).trans rfl, (blk_cell BK152.out 4).trans rfl, (blk_cell BK152.out 5).trans rfl, (blk_cell BK152.out 6).trans rfl, (blk_cell BK152.out 7).trans rfl, (blk_cell BK152.out 8).trans rfl, (blk_cell BK152.out 9).trans rfl, (blk_cell BK152.out 10).trans rfl, (blk_cell BK152.out 11).trans rfl, (blk_cell BK152.out 12).trans rfl, (blk_cell BK152.out 13).trans rfl, (blk_cell BK152.out 14).trans rfl, (blk_cell BK152.out 15).trans rfl, (blk_cell BK152.out 16).trans rfl, hx153_0, hx153_1, hx153_2, hx153_3, hx153_4, hx153_5, hx153_6, hx153_7, hx153_8, hx153_9, hx153_10, hx153_11, hx153_12, hx153_13, hx153_14, hx153_15, hx153_16⟩ (fun hHeld => ?_); refine with_tabW forepeakref26_With.tab2 forepeakref26_With.bits2 (fun HT_ HW_ => ?_)
            generalize wr.drew = w8 at HO_0 HO_153014 HO_153015 HO_153016 BK152 HB HL153_14 HL153_15 HL153_16 HR153_14 HR153_15 HR153_16 hx153_0 hx153_1 hx153_10 hx153_11 hx153_12 hx153_13 hx153_14 hx153_15 hx153_16 hx153_2 hx153_3 hx153_4 hx153_5 hx153_6 hx153_7 hx153_8 hx153_9 hHeld ⊢
            refine pure_ (i := 0) (N := some 7) (v := ?_) (a' := ?_) #[true, false, false, false, false, false, false, false, false, false, false, false, false, false, false] rfl rfl (any_of HT_.out (by kernel_rfl)) (fun _ _ _ h => h) (Or.inl ⟨by rfl, ?_⟩) ?_ ?_
            rotate_left
            · intro w'
              go_simp
              with_reducible rfl
            rotate_left
            · simp only [Act.put, List.setIfInBounds_toArray, List.set_cons_zero, List.set_cons_succ, i64_w, i32_w]
              rfl
            refine pure_ (i := 1) (N := some 8) (v := ?_) (a' := ?_) #[true, true, false, false, false, false, false, false, false, false, false, false, false, false, false] rfl rfl (any_of HT_.out (by kernel_rfl)) (fun _ _ _ h => h) (Or.inl ⟨by rfl, ?_⟩) ?_ ?_
            rotate_left
            · intro w'
              go_simp
              with_reducible rfl
            rotate_left
            · simp only [Act.put, List.setIfInBounds_toArray, List.set_cons_zero, List.set_cons_succ, i64_w, i32_w]
              rfl
            refine pure_ (i := 2) (N := some 9) (v := ?_) (a' := ?_) #[true, true, true, false, false, false, false, false, false, false, false, false, false, false, false] rfl rfl (any_of HT_.out (by kernel_rfl)) (fun _ _ _ h => h) (Or.inl ⟨by rfl, ?_⟩) ?_ ?_
            rotate_left
            · intro w'
              go_simp
              with_reducible rfl
            rotate_left
            · simp only [Act.put, List.setIfInBounds_toArray, List.set_cons_zero, List.set_cons_succ, i64_w, i32_w]
              rfl
            refine pure_ (i := 3) (N := some 10) (v := ?_) (a' := ?_) #[true, true, true, true, false, false, false, false, false, false, false, false, false, false, false] rfl rfl (any_of HT_.out (by kernel_rfl)) (fun _ _ _ h => h) (Or.inl ⟨by rfl, ?_⟩) ?_ ?_
            rotate_left
            · intro w'
              go_simp
              with_reducible rfl
            rotate_left
            · simp only [Act.put, List.setIfInBounds_toArray, List.set_cons_zero, List.set_cons_succ, i64_w, i32_w]
              rfl
            refine pure_ (i := 4) (N := some 11) (v := ?_) (a' := ?_) #[true, true, true, true, true, false, false, false, false, false, false, false, false, false, false] rfl rfl (any_of HT_.out (by kernel_rfl)) (fun _ _ _ h => h) (Or.inl ⟨by rfl, ?_⟩) ?_ ?_
            rotate_left
            · intro w'
              go_simp
              with_reducible rfl
            rotate_left
            · simp only [Act.put, List.setIfInBounds_toArray, List.set_cons_zero, List.set_cons_succ, i64_w, i32_w]
              rfl
            refine pure_ (i := 5) (N := some 12) (v := ?_) (a' := ?_) #[true, true, true, true, true, true, false, false, false, false, false, false, false, false, false] rfl rfl (any_of HT_.out (by kernel_rfl)) (fun _ _ _ h => h) (Or.inl ⟨by rfl, ?_⟩) ?_ ?_
            rotate_left
            · intro w'
              go_simp
              with_reducible rfl
            rotate_left
            · simp only [Act.put, List.setIfInBounds_toArray, List.set_cons_zero, List.set_cons_succ, i64_w, i32_w]
              rfl
            refine pure_ (i := 6) (N := some 13) (v := ?_) (a' := ?_) #[true, true, true, true, true, true, true, false, false, false, false, false, false, false, false] rfl rfl (any_of HT_.out (by kernel_rfl)) (fun _ _ _ h => h) (Or.inl ⟨by rfl, ?_⟩) ?_ ?_
            rotate_left
            · intro w'
              go_simp
              with_reducible rfl
            rotate_left
            · simp only [Act.put, List.setIfInBounds_toArray, List.set_cons_zero, List.set_cons_succ, i64_w, i32_w]
              rfl
            refine pure_ (i := 7) (N := some 14) (v := ?_) (a' := ?_) #[true, true, true, true, true, true, true, true, false, false, false, false, false, false, false] rfl rfl (any_of HT_.out (by kernel_rfl)) (fun _ _ _ h => h) (Or.inl ⟨by rfl, ?_⟩) ?_ ?_
            rotate_left
            · intro w'
              go_simp
              with_reducible rfl
            rotate_left
            · simp only [Act.put, List.setIfInBounds_toArray, List.set_cons_zero, List.set_cons_succ, i64_w, i32_w]
              rfl
            refine pure_ (i := 8) (N := some 15) (v := ?_) (a' := ?_) #[true, true, true, true, true, true, true, true, true, false, false, false, false, false, false] rfl rfl (any_of HT_.out (by kernel_rfl)) (fun _ _ _ h => h) (Or.inl ⟨by rfl, ?_⟩) ?_ ?_
            rotate_left
            · intro w'
              go_simp
              with_reducible rfl
            rotate_left
            · simp only [Act.put, List.setIfInBounds_toArray, List.set_cons_zero, List.set_cons_succ, i64_w, i32_w]
              rfl
            refine pure_ (i := 10) (N := some 17) (v := ?_) (a' := ?_) #[true, true, true, true, true, true, true, true, true, false, true, false, false, false, false] rfl rfl (any_of HT_.out (by kernel_rfl)) (fun _ _ _ h => h) (Or.inl ⟨by rfl, ?_⟩) ?_ ?_
            rotate_left
            · intro w'
              go_simp
              with_reducible rfl
            rotate_left
            · simp only [Act.put, List.setIfInBounds_toArray, List.set_cons_zero, List.set_cons_succ, i64_w, i32_w]
              rfl
            refine take_ (i := 9) (N := some 16) (v := ?_) (a' := ?_) #[true, true, true, true, true, true, true, true, true, true, true, false, false, false, false] rfl rfl (take_ofW HT_.out HW_.out (by kernel_rfl)) (fun _ _ _ h => h) (Or.inl ⟨by rfl, ?_⟩) hHeld ?_ ?_
            rotate_left
            · rintro w' ⟨s0, s1, s2, s3, s4, s5, s6, s7, s8, s9, s10, s11, s12, s13, s14, s15, s16, s17, s18, s19, s20, s21, s22, s23, s24, s25, s26, s27, s28, s29, s30, s31, s32, s33⟩
              go_simp
              with_reducible rfl
            rotate_left
            · simp only [Act.put, List.setIfInBounds_toArray, List.set_cons_zero, List.set_cons_succ, i64_w, i32_w]
              rfl
            refine take_ (i := 11) (N := some 18) (v := ?_) (a' := ?_) #[true, true, true, true, true, true, true, true, true, true, true, true, false, false, false] rfl rfl (take_ofW HT_.out HW_.out (by kernel_rfl)) (fun _ _ _ h => h) (Or.inl ⟨by rfl, ?_⟩) hHeld ?_ ?_
            rotate_left
            · rintro w' ⟨s0, s1, s2, s3, s4, s5, s6, s7, s8, s9, s10, s11, s12, s13, s14, s15, s16, s17, s18, s19, s20, s21, s22, s23, s24, s25, s26, s27, s28, s29, s30, s31, s32, s33⟩
              go_simp
              with_reducible rfl
            rotate_left
            · simp only [Act.put, List.setIfInBounds_toArray, List.set_cons_zero, List.set_cons_succ, i64_w, i32_w]
              rfl
            refine one_ (i := 12) (N := some 19) #[true, true, true, true, true, true, true, true, true, true, true, true, true, false, false] rfl rfl (one_of HT_.out (by kernel_rfl)) (by decide) (fun K hK => ?_)
            refine goes_ Try.func53 (by kernel_rfl) rfl #[.agg #[.int .u16 ((rd_T39 l0 x5_1).f0.f0.f0), .int .u16 ((rd_T39 l0 x5_1).f0.f0.f1), .int .i64 ((rd_T39 l0 x5_1).f0.f1), .int .i64 ((rd_T39 l0 x5_1).f0.f2)], .agg #[.int .u16 a1_0, .int .u16 a1_1, .int .i64 a1_2, .int .i64 a1_3]] (by rfl) rfl rfl (by (try simp only [List.map_toArray, List.map_cons, List.map_nil]); first | done | rfl | (simp only [List.length_drop, List.length_take]; rfl)) ?_
            with_reducible refine (forepeakref21_Cmp.calls k1 ((rd_T39 l0 x5_1).f0.f0.f0) ((rd_T39 l0 x5_1).f0.f0.f1) ((rd_T39 l0 x5_1).f0.f1) ((rd_T39 l0 x5_1).f0.f2) a1_0 a1_1 a1_2 a1_3 t154 _ A6.out).mono ?_
            rintro e w9 ⟨rfl, hb⟩
            have HS17_ := (hb.cell (World.block_lt_of_cell? _ _ (hHeld.2.2.2.2.2.2.2.2.2.2.2.2.2.2.2.2.2.1))).trans (hHeld.2.2.2.2.2.2.2.2.2.2.2.2.2.2.2.2.2.1)
            have HS18_ := (hb.cell (World.block_lt_of_cell? _ _ (hHeld.2.2.2.2.2.2.2.2.2.2.2.2.2.2.2.2.2.2.1))).trans (hHeld.2.2.2.2.2.2.2.2.2.2.2.2.2.2.2.2.2.2.1)
            have HS19_ := (hb.cell (World.block_lt_of_cell? _ _ (hHeld.2.2.2.2.2.2.2.2.2.2.2.2.2.2.2.2.2.2.2.1))).trans (hHeld.2.2.2.2.2.2.2.2.2.2.2.2.2.2.2.2.2.2.2.1)
            have HS20_ := (hb.cell (World.block_lt_of_cell? _ _ (hHeld.2.2.2.2.2.2.2.2.2.2.2.2.2.2.2.2.2.2.2.2.1))).trans (hHeld.2.2.2.2.2.2.2.2.2.2.2.2.2.2.2.2.2.2.2.2.1)
            have HS21_ := (hb.cell (World.block_lt_of_cell? _ _ (hHeld.2.2.2.2.2.2.2.2.2.2.2.2.2.2.2.2.2.2.2.2.2.1))).trans (hHeld.2.2.2.2.2.2.2.2.2.2.2.2.2.2.2.2.2.2.2.2.2.1)
            have HS22_ := (hb.cell (World.block_lt_of_cell? _ _ (hHeld.2.2.2.2.2.2.2.2.2.2.2.2.2.2.2.2.2.2.2.2.2.2.1))).trans (hHeld.2.2.2.2.2.2.2.2.2.2.2.2.2.2.2.2.2.2.2.2.2.2.1)
            have HS23_ := (hb.cell (World.block_lt_of_cell? _ _ (hHeld.2.2.2.2.2.2.2.2.2.2.2.2.2.2.2.2.2.2.2.2.2.2.2.1))).trans (hHeld.2.2.2.2.2.2.2.2.2.2.2.2.2.2.2.2.2.2.2.2.2.2.2.1)
            have HS24_ := (hb.cell (World.block_lt_of_cell? _ _ (hHeld.2.2.2.2.2.2.2.2.2.2.2.2.2.2.2.2.2.2.2.2.2.2.2.2.1))).trans (hHeld.2.2.2.2.2.2.2.2.2.2.2.2.2.2.2.2.2.2.2.2.2.2.2.2.1)
            have HS25_ := (hb.cell (World.block_lt_of_cell? _ _ (hHeld.2.2.2.2.2.2.2.2.2.2.2.2.2.2.2.2.2.2.2.2.2.2.2.2.2.1))).trans (hHeld.2.2.2.2.2.2.2.2.2.2.2.2.2.2.2.2.2.2.2.2.2.2.2.2.2.1)
            have HS26_ := (hb.cell (World.block_lt_of_cell? _ _ (hHeld.2.2.2.2.2.2.2.2.2.2.2.2.2.2.2.2.2.2.2.2.2.2.2.2.2.2.1))).trans (hHeld.2.2.2.2.2.2.2.2.2.2.2.2.2.2.2.2.2.2.2.2.2.2.2.2.2.2.1)
            have HS27_ := (hb.cell (World.block_lt_of_cell? _ _ (hHeld.2.2.2.2.2.2.2.2.2.2.2.2.2.2.2.2.2.2.2.2.2.2.2.2.2.2.2.1))).trans (hHeld.2.2.2.2.2.2.2.2.2.2.2.2.2.2.2.2.2.2.2.2.2.2.2.2.2.2.2.1)
            have HS28_ := (hb.cell (World.block_lt_of_cell? _ _ (hHeld.2.2.2.2.2.2.2.2.2.2.2.2.2.2.2.2.2.2.2.2.2.2.2.2.2.2.2.2.1))).trans (hHeld.2.2.2.2.2.2.2.2.2.2.2.2.2.2.2.2.2.2.2.2.2.2.2.2.2.2.2.2.1)
            have HS29_ := (hb.cell (World.block_lt_of_cell? _ _ (hHeld.2.2.2.2.2.2.2.2.2.2.2.2.2.2.2.2.2.2.2.2.2.2.2.2.2.2.2.2.2.1))).trans (hHeld.2.2.2.2.2.2.2.2.2.2.2.2.2.2.2.2.2.2.2.2.2.2.2.2.2.2.2.2.2.1)
            have HS30_ := (hb.cell (World.block_lt_of_cell? _ _ (hHeld.2.2.2.2.2.2.2.2.2.2.2.2.2.2.2.2.2.2.2.2.2.2.2.2.2.2.2.2.2.2.1))).trans (hHeld.2.2.2.2.2.2.2.2.2.2.2.2.2.2.2.2.2.2.2.2.2.2.2.2.2.2.2.2.2.2.1)
            have HS31_ := (hb.cell (World.block_lt_of_cell? _ _ (hHeld.2.2.2.2.2.2.2.2.2.2.2.2.2.2.2.2.2.2.2.2.2.2.2.2.2.2.2.2.2.2.2.1))).trans (hHeld.2.2.2.2.2.2.2.2.2.2.2.2.2.2.2.2.2.2.2.2.2.2.2.2.2.2.2.2.2.2.2.1)
            have HS32_ := (hb.cell (World.block_lt_of_cell? _ _ (hHeld.2.2.2.2.2.2.2.2.2.2.2.2.2.2.2.2.2.2.2.2.2.2.2.2.2.2.2.2.2.2.2.2.1))).trans (hHeld.2.2.2.2.2.2.2.2.2.2.2.2.2.2.2.2.2.2.2.2.2.2.2.2.2.2.2.2.2.2.2.2.1)
            have HS33_ := (hb.cell (World.block_lt_of_cell? _ _ (hHeld.2.2.2.2.2.2.2.2.2.2.2.2.2.2.2.2.2.2.2.2.2.2.2.2.2.2.2.2.2.2.2.2.2))).trans (hHeld.2.2.2.2.2.2.2.2.2.2.2.2.2.2.2.2.2.2.2.2.2.2.2.2.2.2.2.2.2.2.2.2.2)
            refine ⟨_, rfl, ?_⟩
            have n0_ := Aside0.mk (Kd.V_below (by (with_reducible repeat (first | apply Kd.V_alloc | apply Kd.V_drewN | apply Kd.V_drew)); exact HO_0.out) hb)
            have n1_ := Aside0.mk (Kd.V_below (by (with_reducible repeat (first | apply Kd.V_alloc | apply Kd.V_drewN | apply Kd.V_drew)); exact HO_153014.out) hb)
            have n2_ := Aside0.mk (Kd.V_below (by (with_reducible repeat (first | apply Kd.V_alloc | apply Kd.V_drewN | apply Kd.V_drew)); exact HO_153015.out) hb)
            have n3_ := Aside0.mk (Kd.V_below (by (with_reducible repeat (first | apply Kd.V_alloc | apply Kd.V_drewN | apply Kd.V_drew)); exact HO_153016.out) hb)
            have n4_ := Aside0.mk (Kd.V_below (by (with_reducible repeat (first | apply Kd.V_alloc | apply Kd.V_drewN | apply Kd.V_drew)); exact HL153_14.out) hb)
            have n5_ := Aside0.mk (Kd.V_below (by (with_reducible repeat (first | apply Kd.V_alloc | apply Kd.V_drewN | apply Kd.V_drew)); exact HL153_15.out) hb)
            have n6_ := Aside0.mk (Kd.V_below (by (with_reducible repeat (first | apply Kd.V_alloc | apply Kd.V_drewN | apply Kd.V_drew)); exact HL153_16.out) hb)
            have n7_ := Aside0.mk (blk_below (g := gb152) (o := .cells #[.int .u16 a1_0, .int .u16 a1_1, .int .i64 a1_2, .int .i64 a1_3, .int .u16 a1_4, .int .u16 a1_5, .int .i64 a1_6, .bool a1_7, .int .u16 a1_8, .int .u16 a1_9, .int .i64 a1_10, .string a1_11, .bool a1_12, .int .i64 a1_13, .slice A1_14 l1_14.length c1_14, .slice A1_15 l1_15.length c1_15, .slice A1_16 l1_16.length c1_16] 39 (0, 0)) (by (with_reducible repeat (first | refine blk_drewN ?_ _ | refine blk_drew ?_ | refine blk_alloc ?_ _)); exact BK152.out) hb)
            have n8_ := Aside0.mk (Kd.C_below (by repeat (first | (with_reducible exact HR153_14.out) | (with_reducible refine Kd.C_alloc ?_ _) | (with_reducible refine Kd.C_drewN ?_ _) | (with_reducible refine Kd.C_drew ?_) | exact HR153_14.out)) hb)
            have n9_ := Aside0.mk (Kd.C_below (by repeat (first | (with_reducible exact HR153_15.out) | (with_reducible refine Kd.C_alloc ?_ _) | (with_reducible refine Kd.C_drewN ?_ _) | (with_reducible refine Kd.C_drew ?_) | exact HR153_15.out)) hb)
            have n10_ := Aside0.mk (Kd.C_below (by repeat (first | (with_reducible exact HR153_16.out) | (with_reducible refine Kd.C_alloc ?_ _) | (with_reducible refine Kd.C_drewN ?_ _) | (with_reducible refine Kd.C_drew ?_) | exact HR153_16.out)) hb)
            have n11_ := Aside0.mk (below_step (by repeat (first | (with_reducible first | exact HB.out | apply below_alloc | apply pw_below_drewN | apply below_drew1 | refine below_set ?_ GE152.out) | exact HB.out)) hb)
            clear HO_0
            clear HO_153014
            clear HO_153015
            clear HO_153016
            clear HL153_14
            clear HL153_15
            clear HL153_16
            clear BK152
            clear HR153_14
            clear HR153_15
            clear HR153_16
            clear HB
            have HO_0 := n0_
            have HO_153014 := n1_
            have HO_153015 := n2_
            have HO_153016 := n3_
            have HL153_14 := n4_
            have HL153_15 := n5_
            have HL153_16 := n6_
            have BK152 := n7_
            have HR153_14 := n8_
            have HR153_15 := n9_
            have HR153_16 := n10_
            have HB := n11_
            clear n0_ n1_ n2_ n3_ n4_ n5_ n6_ n7_ n8_ n9_ n10_ n11_
            (try clear hb)
            (try clear hb2)
            (try clear hk)
            (try clear hi)
            refine hK.out _ _ ⟨(blk_cell BK152.out 0).trans rfl, (blk_cell BK152.out 1).trans rfl, (blk_cell BK152.out 2).trans rfl, (blk_cell BK152.out 3).trans rfl, (blk_cell BK152.out 4).trans rfl, (blk_cell BK152.out 5).trans rfl, (blk_cell BK152.out 6).trans rfl, (blk_cell BK152.out 7).trans rfl, (blk_cell BK152.out 8).trans rfl, (blk_cell BK152.out 9).trans rfl, (blk_cell BK152.out 10).trans rfl, (blk_cell BK152.out 11).trans rfl, (blk_cell BK152.out 12).trans rfl, (blk_cell BK152.out 13).trans rfl, (blk_cell BK152.out 14).trans rfl, (blk_cell BK152.out 15).trans rfl, (blk_cell BK152.out 16).trans rfl, HS17_, HS18_, HS19_, HS20_, HS21_, HS22_, HS23_, HS24_, HS25_, HS26_, HS27_, HS28_, HS29_, HS30_, HS31_, HS32_, HS33_⟩ (fun hHeld => ?_)
            clear hK K
            refine norm_ (a' := ?_) ?_ ?_
            rotate_left
            · show Act.put _ (some 19) _ = _
              simp only [Act.put, List.setIfInBounds_toArray, List.set_cons_zero, List.set_cons_succ, i64_w, i32_w]
              rfl
            refine pure_ (i := 13) (N := some 20) (v := ?_) (a' := ?_) #[true, true, true, true, true, true, true, true, true, true, true, true, true, true, false] rfl rfl (any_of HT_.out (by kernel_rfl)) (fun _ _ _ h => h) (Or.inl ⟨by rfl, ?_⟩) ?_ ?_
            rotate_left
            · intro w'
              go_simp
              with_reducible rfl
            rotate_left
            · simp only [Act.put, List.setIfInBounds_toArray, List.set_cons_zero, List.set_cons_succ, i64_w, i32_w]
              rfl
            refine pure_ (i := 14) (N := some 21) (v := ?_) (a' := ?_) #[true, true, true, true, true, true, true, true, true, true, true, true, true, true, true] rfl rfl (any_of HT_.out (by kernel_rfl)) (fun _ _ _ h => h) (Or.inl ⟨by rfl, ?_⟩) ?_ ?_
            rotate_left
            · intro w'
              go_simp
              with_reducible rfl
            rotate_left
            · simp only [Act.put, List.setIfInBounds_toArray, List.set_cons_zero, List.set_cons_succ, i64_w, i32_w]
              rfl
            refine done_ (done_of HT_.out (by kernel_rfl)) ?_
            try go_wp2
            go_roundg k1
            case measure => have := HK1.out; omega
            case rel => exact ⟨(wrap64 (x5_1 + 1)), (by first | rfl | (simp; done) | (simp [*]; done)), H', ⟨by have := HK1.out; omega⟩, ⟨by (with_reducible repeat (first | apply Kd.V_alloc | apply Kd.V_drewN | apply Kd.V_drew)); exact HO_0.out⟩, ⟨by (with_reducible repeat (first | apply Kd.V_alloc | apply Kd.V_drewN | apply Kd.V_drew)); exact HO_153014.out⟩, ⟨by (with_reducible repeat (first | apply Kd.V_alloc | apply Kd.V_drewN | apply Kd.V_drew)); exact HO_153015.out⟩, ⟨by (with_reducible repeat (first | apply Kd.V_alloc | apply Kd.V_drewN | apply Kd.V_drew)); exact HO_153016.out⟩, ⟨by (with_reducible repeat (first | refine blk_drewN ?_ _ | refine blk_drew ?_ | refine blk_alloc ?_ _)); exact BK152.out⟩, ⟨by repeat (first | (with_reducible first | exact HB.out | apply below_alloc | apply pw_below_drewN | apply below_drew1 | refine below_set ?_ GE152.out) | exact HB.out)⟩⟩
          · rw [if_neg c7] at H
            have c7b0 : decide (t154 < 0) = false := decide_eq_false c7
            clear c7
            obtain ⟨y155, hy155⟩ : ∃ y_ : List (S39), y_ = (([] : List (S39))) := ⟨_, rfl⟩
            replace H : (if x5_1 ≤ (l0.length : Int) then ((some (l0.take (x5_1 : Int).toNat : List (S39))).bind fun y158 => (if y155.length + y158.length < 879609302220 then ((some (y155 ++ y158 : List (S39))).bind fun y163 => (if y163.length < 879609302220 then ((some (y163 ++ [(⟨(⟨(⟨a1_0, a1_1⟩ : S24), a1_2, a1_3⟩ : S34), (⟨a1_4, a1_5⟩ : S24), a1_6, a1_7, (⟨a1_8, a1_9⟩ : S24), a1_10, a1_11, a1_12, (⟨a1_13, l1_14, l1_15, l1_16⟩ : S37)⟩ : S39)] : List (S39))).bind fun y166 => ((some (l0.drop (x5_1 : Int).toNat : List (S39))).bind fun y169 => (if y166.length + y169.length < 879609302220 then (some (y166 ++ y169)) else (none)))) else (none))) else (none))) else (none)) = some r := by first | (rw [hy155]; with_reducible exact H) | (have H2_ := (Option.bind_some _ _).symm.trans H; rw [hy155]; with_reducible exact H2_) | (have H2_ := (Option.bind_some _ _).symm.trans H; with_reducible exact H2_) | with_reducible exact H | (rw [hy155]; exact H) | exact H
            have Ny155 := Aside0.mk hy155
            clear hy155
            have c10b0 := eq_true (of_decide_eq_true (by first | (with_reducible assumption) | assumption) : 0 ≤ x5_1)
            by_cases c11 : x5_1 ≤ (l0.length : Int)
            · rw [if_pos c11] at H
              have c11b0 := eq_true c11
              have c11b1 : decide (x5_1 ≤ (l0.length : Int)) = true := decide_eq_true c11
              clear c11
              obtain ⟨y158, hy158⟩ : ∃ y_ : List (S39), y_ = (l0.take (x5_1 : Int).toNat) := ⟨_, rfl⟩
              replace H : (if y155.length + y158.length < 879609302220 then ((some (y155 ++ y158 : List (S39))).bind fun y163 => (if y163.length < 879609302220 then ((some (y163 ++ [(⟨(⟨(⟨a1_0, a1_1⟩ : S24), a1_2, a1_3⟩ : S34), (⟨a1_4, a1_5⟩ : S24), a1_6, a1_7, (⟨a1_8, a1_9⟩ : S24), a1_10, a1_11, a1_12, (⟨a1_13, l1_14, l1_15, l1_16⟩ : S37)⟩ : S39)] : List (S39))).bind fun y166 => ((some (l0.drop (x5_1 : Int).toNat : List (S39))).bind fun y169 => (if y166.length + y169.length < 879609302220 then (some (y166 ++ y169)) else (none)))) else (none))) else (none)) = some r := by first | (rw [hy158]; with_reducible exact H) | (have H2_ := (Option.bind_some _ _).symm.trans H; rw [hy158]; with_reducible exact H2_) | (have H2_ := (Option.bind_some _ _).symm.trans H; with_reducible exact H2_) | with_reducible exact H | (rw [hy158]; exact H) | exact H
              have Ny158 := Aside0.mk hy158
              clear hy158
              by_cases c12 : y155.length + y158.length < 879609302220
              · rw [if_pos c12] at H
                have LMc12 := Aside0.mk c12
                clear c12
                obtain ⟨y163, hy163⟩ : ∃ y_ : List (S39), y_ = (y155 ++ y158) := ⟨_, rfl⟩
                replace H : (if y163.length < 879609302220 then ((some (y163 ++ [(⟨(⟨(⟨a1_0, a1_1⟩ : S24), a1_2, a1_3⟩ : S34), (⟨a1_4, a1_5⟩ : S24), a1_6, a1_7, (⟨a1_8, a1_9⟩ : S24), a1_10, a1_11, a1_12, (⟨a1_13, l1_14, l1_15, l1_16⟩ : S37)⟩ : S39)] : List (S39))).bind fun y166 => ((some (l0.drop (x5_1 : Int).toNat : List (S39))).bind fun y169 => (if y166.length + y169.length < 879609302220 then (some (y166 ++ y169)) else (none)))) else (none)) = some r := by first | (rw [hy163]; with_reducible exact H) | (have H2_ := (Option.bind_some _ _).symm.trans H; rw [hy163]; with_reducible exact H2_) | (have H2_ := (Option.bind_some _ _).symm.trans H; with_reducible exact H2_) | with_reducible exact H | (rw [hy163]; exact H) | exact H
                have Ny163 := Aside0.mk hy163
                clear hy163
                by_cases c13 : y163.length < 879609302220
                · rw [if_pos c13] at H
                  have LMc13 := Aside0.mk c13
                  clear c13
                  obtain ⟨y166, hy166⟩ : ∃ y_ : List (S39), y_ = (y163 ++ [(⟨(⟨(⟨a1_0, a1_1⟩ : S24), a1_2, a1_3⟩ : S34), (⟨a1_4, a1_5⟩ : S24), a1_6, a1_7, (⟨a1_8, a1_9⟩ : S24), a1_10, a1_11, a1_12, (⟨a1_13, l1_14, l1_15, l1_16⟩ : S37)⟩ : S39)]) := ⟨_, rfl⟩
                  replace H : ((some (l0.drop (x5_1 : Int).toNat : List (S39))).bind fun y169 => (if y166.length + y169.length < 879609302220 then (some (y166 ++ y169)) else (none))) = some r := by first | (rw [hy166]; with_reducible exact H) | (have H2_ := (Option.bind_some _ _).symm.trans H; rw [hy166]; with_reducible exact H2_) | (have H2_ := (Option.bind_some _ _).symm.trans H; with_reducible exact H2_) | with_reducible exact H | (rw [hy166]; exact H) | exact H
                  have Ny166 := Aside0.mk hy166
                  clear hy166
                  have c14b0 := eq_true (of_decide_eq_true (by first | (with_reducible assumption) | assumption) : 0 ≤ x5_1)
                  have c15b0 := eq_true (of_decide_eq_true (by first | (with_reducible assumption) | assumption) : x5_1 ≤ (l0.length : Int))
                  obtain ⟨y169, hy169⟩ : ∃ y_ : List (S39), y_ = (l0.drop (x5_1 : Int).toNat) := ⟨_, rfl⟩
                  replace H : (if y166.length + y169.length < 879609302220 then (some (y166 ++ y169)) else (none)) = some r := by first | (rw [hy169]; with_reducible exact H) | (have H2_ := (Option.bind_some _ _).symm.trans H; rw [hy169]; with_reducible exact H2_) | (have H2_ := (Option.bind_some _ _).symm.trans H; with_reducible exact H2_) | with_reducible exact H | (rw [hy169]; exact H) | exact H
                  have Ny169 := Aside0.mk hy169
                  clear hy169
                  by_cases c16 : y166.length + y169.length < 879609302220
                  · rw [if_pos c16] at H
                    have LMc16 := Aside0.mk c16
                    clear c16
                    obtain ⟨y174, hy174⟩ : ∃ y_ : List (S39), y_ = (y166 ++ y169) := ⟨_, rfl⟩
                    replace H : (some y174) = some r := by first | (rw [hy174]; with_reducible exact H) | (have H2_ := (Option.bind_some _ _).symm.trans H; rw [hy174]; with_reducible exact H2_) | (have H2_ := (Option.bind_some _ _).symm.trans H; with_reducible exact H2_) | with_reducible exact H | (rw [hy174]; exact H) | exact H
                    have Ny174 := Aside0.mk hy174
                    clear hy174
                    obtain rfl := Option.some.inj H
                    try go_wp2
                    have n0_ := Aside0.mk (Kd.V_drew HO_0.out)
                    have n1_ := Aside0.mk (Kd.V_drew HO_153014.out)
                    have n2_ := Aside0.mk (Kd.V_drew HO_153015.out)
                    have n3_ := Aside0.mk (Kd.V_drew HO_153016.out)
                    have n4_ := Aside0.mk (blk_drew BK152.out)
                    have n5_ := Aside0.mk (below_drew1 HB.out)
                    clear HO_0
                    clear HO_153014
                    clear HO_153015
                    clear HO_153016
                    clear BK152
                    clear HB
                    have HO_0 := n0_
                    have HO_153014 := n1_
                    have HO_153015 := n2_
                    have HO_153016 := n3_
                    have BK152 := n4_
                    have HB := n5_
                    clear n0_ n1_ n2_ n3_ n4_ n5_
                    have p153 : 0 ≤ (x5_1 : Int) := of_decide_eq_true (by first | (with_reducible assumption) | assumption)
                    have q153 : x5_1 < (l0.length : Int) := of_decide_eq_true (by first | (with_reducible assumption) | assumption)
                    obtain ⟨ad153, A153_14, c153_14, A153_15, c153_15, A153_16, c153_16, e153, hx153_0, hx153_1, hx153_2, hx153_3, hx153_4, hx153_5, hx153_6, hx153_7, hx153_8, hx153_9, hx153_10, hx153_11, hx153_12, hx153_13, hx153_14, hx153_15, hx153_16, hl153_14, hi153_14, hl153_15, hi153_15, hl153_16, hi153_16⟩ := at_T39 (Kd.V_reads' HO_0.out).2.2 x5_1 p153 q153
                    cases e153
                    obtain ⟨ce153, hce153, hMe153, hcc153⟩ := Kd.V_get HO_0.out z39 x5_1 p153 (by first | exact q153 | exact of_decide_eq_true (by first | (with_reducible assumption) | assumption) | (have e_ := (Kd.V_reads' HO_0.out).1; omega))
                    obtain ⟨ua153_14, uc153_14, ua153_15, uc153_15, ua153_16, uc153_16, rfl, ul153_14, ge153_14, ul153_15, ge153_15, ul153_16, ge153_16⟩ := k39_openF hMe153
                    have hv153_14 := hcc153 14 _ rfl
                    rw [add_field _ _ 14 (by omega)] at hv153_14
                    replace hv153_14 := Option.some.inj (hv153_14.symm.trans hx153_14)
                    injection hv153_14 with hva_ hvn_ hvc_
                    rw [hva_] at ge153_14
                    rw [hvc_] at ul153_14
                    have HL153_14 := Aside0.mk (show Kd.V k89 89 _ w.heap.size _ _ ((rd_T39 l0 x5_1).f8.f1) from Kd.V_mk ul153_14 ge153_14)
                    clear hva_ hvn_ hvc_ ge153_14 ul153_14
                    have hv153_15 := hcc153 15 _ rfl
                    rw [add_field _ _ 15 (by omega)] at hv153_15
                    replace hv153_15 := Option.some.inj (hv153_15.symm.trans hx153_15)
                    injection hv153_15 with hva_ hvn_ hvc_
                    rw [hva_] at ge153_15
                    rw [hvc_] at ul153_15
                    have HL153_15 := Aside0.mk (show Kd.V k89 89 _ w.heap.size _ _ ((rd_T39 l0 x5_1).f8.f2) from Kd.V_mk ul153_15 ge153_15)
                    clear hva_ hvn_ hvc_ ge153_15 ul153_15
                    have hv153_16 := hcc153 16 _ rfl
                    rw [add_field _ _ 16 (by omega)] at hv153_16
                    replace hv153_16 := Option.some.inj (hv153_16.symm.trans hx153_16)
                    injection hv153_16 with hva_ hvn_ hvc_
                    rw [hva_] at ge153_16
                    rw [hvc_] at ul153_16
                    have HL153_16 := Aside0.mk (show Kd.V k89 89 _ w.heap.size _ _ ((rd_T39 l0 x5_1).f8.f3) from Kd.V_mk ul153_16 ge153_16)
                    clear hva_ hvn_ hvc_ ge153_16 ul153_16
                    clear hcc153 hce153
                    have HR153_14 := Aside0.mk hi153_14
                    have HC153_14 := Aside0.mk hl153_14
                    clear hi153_14 hl153_14
                    have HR153_15 := Aside0.mk hi153_15
                    have HC153_15 := Aside0.mk hl153_15
                    clear hi153_15 hl153_15
                    have HR153_16 := Aside0.mk hi153_16
                    have HC153_16 := Aside0.mk hl153_16
                    clear hi153_16 hl153_16
                    replace p153 := eq_true p153
                    replace q153 := eq_true q153
                    refine start_ (n := 15) (S := fun w' => w'.cell? ⟨gb152, 0, none⟩ = some (.int .u16 a1_0) ∧ w'.cell? ⟨gb152, 1, none⟩ = some (.int .u16 a1_1) ∧ w'.cell? ⟨gb152, 2, none⟩ = some (.int .i64 a1_2) ∧ w'.cell? ⟨gb152, 3, none⟩ = some (.int .i64 a1_3) ∧ w'.cell? ⟨gb152, 4, none⟩ = some (.int .u16 a1_4) ∧ w'.cell? ⟨gb152, 5, none⟩ = some (.int .u16 a1_5) ∧ w'.cell? ⟨gb152, 6, none⟩ = some (.int .i64 a1_6) ∧ w'.cell? ⟨gb152, 7, none⟩ = some (.bool a1_7) ∧ w'.cell? ⟨gb152, 8, none⟩ = some (.int .u16 a1_8) ∧ w'.cell? ⟨gb152, 9, none⟩ = some (.int .u16 a1_9) ∧ w'.cell? ⟨gb152, 10, none⟩ = some (.int .i64 a1_10) ∧ w'.cell? ⟨gb152, 11, none⟩ = some (.string a1_11) ∧ w'.cell? ⟨gb152, 12, none⟩ = some (.bool a1_12) ∧ w'.cell? ⟨gb152, 13, none⟩ = some (.int .i64 a1_13) ∧ w'.cell? ⟨gb152, 14, none⟩ = some (.slice A1_14 l1_14.length c1_14) ∧ w'.cell? ⟨gb152, 15, none⟩ = some (.slice A1_15 l1_15.length c1_15) ∧ w'.cell? ⟨gb152, 16, none⟩ = some (.slice A1_16 l1_16.length c1_16) ∧ w'.cell? (ad153.add ((x5_1).toNat * 17)) = some (.int .u16 ((rd_T39 l0 x5_1).f0.f0.f0)) ∧ w'.cell? ⟨(ad153.add ((x5_1).toNat * 17)).block, (ad153.add ((x5_1).toNat * 17)).off + 1, none⟩ = some (.int .u16 ((rd_T39 l0 x5_1).f0.f0.f1)) ∧ w'.cell? ⟨(ad153.add ((x5_1).toNat * 17)).block, (ad153.add ((x5_1).toNat * 17)).off + 2, none⟩ = some (.int .i64 ((rd_T39 l0 x5_1).f0.f1)) ∧ w'.cell? ⟨(ad153.add ((x5_1).toNat * 17)).block, (ad153.add ((x5_1).toNat * 17)).off + 3, none⟩ = some (.int .i64 ((rd_T39 l0 x5_1).f0.f2)) ∧ w'.cell? ⟨(ad153.add ((x5_1).toNat * 17)).block, (ad153.add ((x5_1).toNat * 17)).off + 4, none⟩ = some (.int .u16 ((rd_T39 l0 x5_1).f1.f0)) ∧ w'.cell? ⟨(ad153.add ((x5_1).toNat * 17)).block, (ad153.add ((x5_1).toNat * 17)).off + 5, none⟩ = some (.int .u16 ((rd_T39 l0 x5_1).f1.f1)) ∧ w'.cell? ⟨(ad153.add ((x5_1).toNat * 17)).block, (ad153.add ((x5_1).toNat * 17)).off + 6, none⟩ = some (.int .i64 ((rd_T39 l0 x5_1).f2)) ∧ w'.cell? ⟨(ad153.add ((x5_1).toNat * 17)).block, (ad153.add ((x5_1).toNat * 17)).off + 7, none⟩ = some (.bool ((rd_T39 l0 x5_1).f3)) ∧ w'.cell? ⟨(ad153.add ((x5_1).toNat * 17)).block, (ad153.add ((x5_1).toNat * 17)).off + 8, none⟩ = some (.int .u16 ((rd_T39 l0 x5_1).f4.f0)) ∧ w'.cell? ⟨(ad153.add ((x5_1).toNat * 17)).block, (ad153.add ((x5_1).toNat * 17)).off + 9, none⟩ = some (.int .u16 ((rd_T39 l0 x5_1).f4.f1)) ∧ w'.cell? ⟨(ad153.add ((x5_1).toNat * 17)).block, (ad153.add ((x5_1).toNat * 17)).off + 10, none⟩ = some (.int .i64 ((rd_T39 l0 x5_1).f5)) ∧ w'.cell? ⟨(ad153.add ((x5_1).toNat * 17)).block, (ad153.add ((x5_1).toNat * 17)).off + 11, none⟩ = some (.string ((rd_T39 l0 x5_1).f6)) ∧ w'.cell? ⟨(ad153.add ((x5_1).toNat * 17)).block, (ad153.add ((x5_1).toNat * 17)).off + 12, none⟩ = some (.bool ((rd_T39 l0 x5_1).f7)) ∧ w'.cell? ⟨(ad153.add ((x5_1).toNat * 17)).block, (ad153.add ((x5_1).toNat * 17)).off + 13, none⟩ = some (.int .i64 ((rd_T39 l0 x5_1).f8.f0)) ∧ w'.cell? ⟨(ad153.add ((x5_1).toNat * 17)).block, (ad153.add ((x5_1).toNat * 17)).off + 14, none⟩ = some (.slice A153_14 ((rd_T39 l0 x5_1).f8.f1).length c153_14) ∧ w'.cell? ⟨(ad153.add ((x5_1).toNat * 17)).block, (ad153.add ((x5_1).toNat * 17)).off + 15, none⟩ = some (.slice A153_15 ((rd_T39 l0 x5_1).f8.f2).length c153_15) ∧ w'.cell? ⟨(ad153.add ((x5_1).toNat * 17)).block, (ad153.add ((x5_1).toNat * 17)).off + 16, none⟩ = some (.slice A153_16 ((rd_T39 l0 x5_1).f8.f3).length c153_16)) (ds := []) #[false, false, false, false, false, false, false, false, false, false, false, false, false, false, false] (by kernel_rfl) rfl rfl ⟨(blk_cell BK152.out 0).trans rfl, (blk_cell BK152.out 1).trans rfl, (blk_cell BK152.out 2).trans rfl, (blk_cell BK152.out 3).trans rfl, (blk_cell BK152.out 4).trans rfl, (blk_cell BK152.out 5).trans rfl, (blk_cell BK152.out 6).trans rfl, (blk_cell BK152.out 7).trans rfl, (blk_cell BK152.out 8).trans rfl, (blk_cell BK152.out 9).trans rfl, (blk_cell BK152.out 10).trans rfl, (blk_cell BK152.out 11).trans rfl, (blk_cell BK152.out 12).trans rfl, (blk_cell BK152.out 13).trans rfl, (blk_cell BK152.out 14).trans rfl, (blk_cell BK152.out 15).trans rfl, (blk_cell BK152.out 16).trans rfl, hx153_0, hx153_1, hx153_2, hx153_3, hx153_4, hx153_5, hx153_6, hx153_7, hx153_8, hx153_9, hx153_10, hx153_11, hx153_12, hx153_13, hx153_14, hx153_15, hx153_16⟩ (fun hHeld => ?_); refine with_tabW forepeakref26_With.tab2 forepeakref26_With.bits2 (fun HT_ HW_ => ?_)
                    generalize wr.drew = w17 at HO_0 HO_153014 HO_153015 HO_153016 BK152 HB HL153_14 HL153_15 HL153_16 HR153_14 HR153_15 HR153_16 hx153_0 hx153_1 hx153_10 hx153_11 hx153_12 hx153_13 hx153_14 hx153_15 hx153_16 hx153_2 hx153_3 hx153_4 hx153_5 hx153_6 hx153_7 hx153_8 hx153_9 hHeld ⊢
                    refine pure_ (i := 0) (N := some 7) (v := ?_) (a' := ?_) #[true, false, false, false, false, false, false, false, false, false, false, false, false, false, false] rfl rfl (any_of HT_.out (by kernel_rfl)) (fun _ _ _ h => h) (Or.inl ⟨by rfl, ?_⟩) ?_ ?_
                    rotate_left
                    · intro w'
                      go_simp
                      with_reducible rfl
                    rotate_left
                    · simp only [Act.put, List.setIfInBounds_toArray, List.set_cons_zero, List.set_cons_succ, i64_w, i32_w]
                      rfl
                    refine pure_ (i := 1) (N := some 8) (v := ?_) (a' := ?_) #[true, true, false, false, false, false, false, false, false, false, false, false, false, false, false] rfl rfl (any_of HT_.out (by kernel_rfl)) (fun _ _ _ h => h) (Or.inl ⟨by rfl, ?_⟩) ?_ ?_
                    rotate_left
                    · intro w'
                      go_simp
                      with_reducible rfl
                    rotate_left
                    · simp only [Act.put, List.setIfInBounds_toArray, List.set_cons_zero, List.set_cons_succ, i64_w, i32_w]
                      rfl
                    refine pure_ (i := 2) (N := some 9) (v := ?_) (a' := ?_) #[true, true, true, false, false, false, false, false, false, false, false, false, false, false, false] rfl rfl (any_of HT_.out (by kernel_rfl)) (fun _ _ _ h => h) (Or.inl ⟨by rfl, ?_⟩) ?_ ?_
                    rotate_left
                    · intro w'
                      go_simp
                      with_reducible rfl
                    rotate_left
                    · simp only [Act.put, List.setIfInBounds_toArray, List.set_cons_zero, List.set_cons_succ, i64_w, i32_w]
                      rfl
                    refine pure_ (i := 3) (N := some 10) (v := ?_) (a' := ?_) #[true, true, true, true, false, false, false, false, false, false, false, false, false, false, false] rfl rfl (any_of HT_.out (by kernel_rfl)) (fun _ _ _ h => h) (Or.inl ⟨by rfl, ?_⟩) ?_ ?_
                    rotate_left
                    · intro w'
                      go_simp
                      with_reducible rfl
                    rotate_left
                    · simp only [Act.put, List.setIfInBounds_toArray, List.set_cons_zero, List.set_cons_succ, i64_w, i32_w]
                      rfl
                    refine pure_ (i := 4) (N := some 11) (v := ?_) (a' := ?_) #[true, true, true, true, true, false, false, false, false, false, false, false, false, false, false] rfl rfl (any_of HT_.out (by kernel_rfl)) (fun _ _ _ h => h) (Or.inl ⟨by rfl, ?_⟩) ?_ ?_
                    rotate_left
                    · intro w'
                      go_simp
                      with_reducible rfl
                    rotate_left
                    · simp only [Act.put, List.setIfInBounds_toArray, List.set_cons_zero, List.set_cons_succ, i64_w, i32_w]
                      rfl
                    refine pure_ (i := 5) (N := some 12) (v := ?_) (a' := ?_) #[true, true, true, true, true, true, false, false, false, false, false, false, false, false, false] rfl rfl (any_of HT_.out (by kernel_rfl)) (fun _ _ _ h => h) (Or.inl ⟨by rfl, ?_⟩) ?_ ?_
                    rotate_left
                    · intro w'
                      go_simp
                      with_reducible rfl
                    rotate_left
                    · simp only [Act.put, List.setIfInBounds_toArray, List.set_cons_zero, List.set_cons_succ, i64_w, i32_w]
                      rfl
                    refine pure_ (i := 6) (N := some 13) (v := ?_) (a' := ?_) #[true, true, true, true, true, true, true, false, false, false, false, false, false, false, false] rfl rfl (any_of HT_.out (by kernel_rfl)) (fun _ _ _ h => h) (Or.inl ⟨by rfl, ?_⟩) ?_ ?_
                    rotate_left
                    · intro w'
                      go_simp
                      with_reducible rfl
                    rotate_left
                    · simp only [Act.put, List.setIfInBounds_toArray, List.set_cons_zero, List.set_cons_succ, i64_w, i32_w]
                      rfl
                    refine pure_ (i := 7) (N := some 14) (v := ?_) (a' := ?_) #[true, true, true, true, true, true, true, true, false, false, false, false, false, false, false] rfl rfl (any_of HT_.out (by kernel_rfl)) (fun _ _ _ h => h) (Or.inl ⟨by rfl, ?_⟩) ?_ ?_
                    rotate_left
                    · intro w'
                      go_simp
                      with_reducible rfl
                    rotate_left
                    · simp only [Act.put, List.setIfInBounds_toArray, List.set_cons_zero, List.set_cons_succ, i64_w, i32_w]
                      rfl
                    refine pure_ (i := 8) (N := some 15) (v := ?_) (a' := ?_) #[true, true, true, true, true, true, true, true, true, false, false, false, false, false, false] rfl rfl (any_of HT_.out (by kernel_rfl)) (fun _ _ _ h => h) (Or.inl ⟨by rfl, ?_⟩) ?_ ?_
                    rotate_left
                    · intro w'
                      go_simp
                      with_reducible rfl
                    rotate_left
                    · simp only [Act.put, List.setIfInBounds_toArray, List.set_cons_zero, List.set_cons_succ, i64_w, i32_w]
                      rfl
                    refine pure_ (i := 10) (N := some 17) (v := ?_) (a' := ?_) #[true, true, true, true, true, true, true, true, true, false, true, false, false, false, false] rfl rfl (any_of HT_.out (by kernel_rfl)) (fun _ _ _ h => h) (Or.inl ⟨by rfl, ?_⟩) ?_ ?_
                    rotate_left
                    · intro w'
                      go_simp
                      with_reducible rfl
                    rotate_left
                    · simp only [Act.put, List.setIfInBounds_toArray, List.set_cons_zero, List.set_cons_succ, i64_w, i32_w]
                      rfl
                    refine take_ (i := 9) (N := some 16) (v := ?_) (a' := ?_) #[true, true, true, true, true, true, true, true, true, true, true, false, false, false, false] rfl rfl (take_ofW HT_.out HW_.out (by kernel_rfl)) (fun _ _ _ h => h) (Or.inl ⟨by rfl, ?_⟩) hHeld ?_ ?_
                    rotate_left
                    · rintro w' ⟨s0, s1, s2, s3, s4, s5, s6, s7, s8, s9, s10, s11, s12, s13, s14, s15, s16, s17, s18, s19, s20, s21, s22, s23, s24, s25, s26, s27, s28, s29, s30, s31, s32, s33⟩
                      go_simp
                      with_reducible rfl
                    rotate_left
                    · simp only [Act.put, List.setIfInBounds_toArray, List.set_cons_zero, List.set_cons_succ, i64_w, i32_w]
                      rfl
                    refine take_ (i := 11) (N := some 18) (v := ?_) (a' := ?_) #[true, true, true, true, true, true, true, true, true, true, true, true, false, false, false] rfl rfl (take_ofW HT_.out HW_.out (by kernel_rfl)) (fun _ _ _ h => h) (Or.inl ⟨by rfl, ?_⟩) hHeld ?_ ?_
                    rotate_left
                    · rintro w' ⟨s0, s1, s2, s3, s4, s5, s6, s7, s8, s9, s10, s11, s12, s13, s14, s15, s16, s17, s18, s19, s20, s21, s22, s23, s24, s25, s26, s27, s28, s29, s30, s31, s32, s33⟩
                      go_simp
                      with_reducible rfl
                    rotate_left
                    · simp only [Act.put, List.setIfInBounds_toArray, List.set_cons_zero, List.set_cons_succ, i64_w, i32_w]
                      rfl
                    refine one_ (i := 12) (N := some 19) #[true, true, true, true, true, true, true, true, true, true, true, true, true, false, false] rfl rfl (one_of HT_.out (by kernel_rfl)) (by decide) (fun K hK => ?_)
                    refine goes_ Try.func53 (by kernel_rfl) rfl #[.agg #[.int .u16 ((rd_T39 l0 x5_1).f0.f0.f0), .int .u16 ((rd_T39 l0 x5_1).f0.f0.f1), .int .i64 ((rd_T39 l0 x5_1).f0.f1), .int .i64 ((rd_T39 l0 x5_1).f0.f2)], .agg #[.int .u16 a1_0, .int .u16 a1_1, .int .i64 a1_2, .int .i64 a1_3]] (by rfl) rfl rfl (by (try simp only [List.map_toArray, List.map_cons, List.map_nil]); first | done | rfl | (simp only [List.length_drop, List.length_take]; rfl)) ?_
                    with_reducible refine (forepeakref21_Cmp.calls k1 ((rd_T39 l0 x5_1).f0.f0.f0) ((rd_T39 l0 x5_1).f0.f0.f1) ((rd_T39 l0 x5_1).f0.f1) ((rd_T39 l0 x5_1).f0.f2) a1_0 a1_1 a1_2 a1_3 t154 _ A6.out).mono ?_
                    rintro e w18 ⟨rfl, hb⟩
                    have HS17_ := (hb.cell (World.block_lt_of_cell? _ _ (hHeld.2.2.2.2.2.2.2.2.2.2.2.2.2.2.2.2.2.1))).trans (hHeld.2.2.2.2.2.2.2.2.2.2.2.2.2.2.2.2.2.1)
                    have HS18_ := (hb.cell (World.block_lt_of_cell? _ _ (hHeld.2.2.2.2.2.2.2.2.2.2.2.2.2.2.2.2.2.2.1))).trans (hHeld.2.2.2.2.2.2.2.2.2.2.2.2.2.2.2.2.2.2.1)
                    have HS19_ := (hb.cell (World.block_lt_of_cell? _ _ (hHeld.2.2.2.2.2.2.2.2.2.2.2.2.2.2.2.2.2.2.2.1))).trans (hHeld.2.2.2.2.2.2.2.2.2.2.2.2.2.2.2.2.2.2.2.1)
                    have HS20_ := (hb.cell (World.block_lt_of_cell? _ _ (hHeld.2.2.2.2.2.2.2.2.2.2.2.2.2.2.2.2.2.2.2.2.1))).trans (hHeld.2.2.2.2.2.2.2.2.2.2.2.2.2.2.2.2.2.2.2.2.1)
                    have HS21_ := (hb.cell (World.block_lt_of_cell? _ _ (hHeld.2.2.2.2.2.2.2.2.2.2.2.2.2.2.2.2.2.2.2.2.2.1))).trans (hHeld.2.2.2.2.2.2.2.2.2.2.2.2.2.2.2.2.2.2.2.2.2.1)
                    have HS22_ := (hb.cell (World.block_lt_of_cell? _ _ (hHeld.2.2.2.2.2.2.2.2.2.2.2.2.2.2.2.2.2.2.2.2.2.2.1))).trans (hHeld.2.2.2.2.2.2.2.2.2.2.2.2.2.2.2.2.2.2.2.2.2.2.1)
                    have HS23_ := (hb.cell (World.block_lt_of_cell? _ _ (hHeld.2.2.2.2.2.2.2.2.2.2.2.2.2.2.2.2.2.2.2.2.2.2.2.1))).trans (hHeld.2.2.2.2.2.2.2.2.2.2.2.2.2.2.2.2.2.2.2.2.2.2.2.1)
                    have HS24_ := (hb.cell (World.block_lt_of_cell? _ _ (hHeld.2.2.2.2.2.2.2.2.2.2.2.2.2.2.2.2.2.2.2.2.2.2.2.2.1))).trans (hHeld.2.2.2.2.2.2.2.2.2.2.2.2.2.2.2.2.2.2.2.2.2.2.2.2.1)
                    have HS25_ := (hb.cell (World.block_lt_of_cell? _ _ (hHeld.2.2.2.2.2.2.2.2.2.2.2.2.2.2.2.2.2.2.2.2.2.2.2.2.2.1))).trans (hHeld.2.2.2.2.2.2.2.2.2.2.2.2.2.2.2.2.2.2.2.2.2.2.2.2.2.1)
                    have HS26_ := (hb.cell (World.block_lt_of_cell? _ _ (hHeld.2.2.2.2.2.2.2.2.2.2.2.2.2.2.2.2.2.2.2.2.2.2.2.2.2.2.1))).trans (hHeld.2.2.2.2.2.2.2.2.2.2.2.2.2.2.2.2.2.2.2.2.2.2.2.2.2.2.1)
                    have HS27_ := (hb.cell (World.block_lt_of_cell? _ _ (hHeld.2.2.2.2.2.2.2.2.2.2.2.2.2.2.2.2.2.2.2.2.2.2.2.2.2.2.2.1))).trans (hHeld.2.2.2.2.2.2.2.2.2.2.2.2.2.2.2.2.2.2.2.2.2.2.2.2.2.2.2.1)
                    have HS28_ := (hb.cell (World.block_lt_of_cell? _ _ (hHeld.2.2.2.2.2.2.2.2.2.2.2.2.2.2.2.2.2.2.2.2.2.2.2.2.2.2.2.2.1))).trans (hHeld.2.2.2.2.2.2.2.2.2.2.2.2.2.2.2.2.2.2.2.2.2.2.2.2.2.2.2.2.1)
                    have HS29_ := (hb.cell (World.block_lt_of_cell? _ _ (hHeld.2.2.2.2.2.2.2.2.2.2.2.2.2.2.2.2.2.2.2.2.2.2.2.2.2.2.2.2.2.1))).trans (hHeld.2.2.2.2.2.2.2.2.2.2.2.2.2.2.2.2.2.2.2.2.2.2.2.2.2.2.2.2.2.1)
                    have HS30_ := (hb.cell (World.block_lt_of_cell? _ _ (hHeld.2.2.2.2.2.2.2.2.2.2.2.2.2.2.2.2.2.2.2.2.2.2.2.2.2.2.2.2.2.2.1))).trans (hHeld.2.2.2.2.2.2.2.2.2.2.2.2.2.2.2.2.2.2.2.2.2.2.2.2.2.2.2.2.2.2.1)
                    have HS31_ := (hb.cell (World.block_lt_of_cell? _ _ (hHeld.2.2.2.2.2.2.2.2.2.2.2.2.2.2.2.2.2.2.2.2.2.2.2.2.2.2.2.2.2.2.2.1))).trans (hHeld.2.2.2.2.2.2.2.2.2.2.2.2.2.2.2.2.2.2.2.2.2.2.2.2.2.2.2.2.2.2.2.1)
                    have HS32_ := (hb.cell (World.block_lt_of_cell? _ _ (hHeld.2.2.2.2.2.2.2.2.2.2.2.2.2.2.2.2.2.2.2.2.2.2.2.2.2.2.2.2.2.2.2.2.1))).trans (hHeld.2.2.2.2.2.2.2.2.2.2.2.2.2.2.2.2.2.2.2.2.2.2.2.2.2.2.2.2.2.2.2.2.1)
                    have HS33_ := (hb.cell (World.block_lt_of_cell? _ _ (hHeld.2.2.2.2.2.2.2.2.2.2.2.2.2.2.2.2.2.2.2.2.2.2.2.2.2.2.2.2.2.2.2.2.2))).trans (hHeld.2.2.2.2.2.2.2.2.2.2.2.2.2.2.2.2.2.2.2.2.2.2.2.2.2.2.2.2.2.2.2.2.2)
                    refine ⟨_, rfl, ?_⟩
                    have n0_ := Aside0.mk (Kd.V_below (by (with_reducible repeat (first | apply Kd.V_alloc | apply Kd.V_drewN | apply Kd.V_drew)); exact HO_0.out) hb)
                    have n1_ := Aside0.mk (Kd.V_below (by (with_reducible repeat (first | apply Kd.V_alloc | apply Kd.V_drewN | apply Kd.V_drew)); exact HO_153014.out) hb)
                    have n2_ := Aside0.mk (Kd.V_below (by (with_reducible repeat (first | apply Kd.V_alloc | apply Kd.V_drewN | apply Kd.V_drew)); exact HO_153015.out) hb)
                    have n3_ := Aside0.mk (Kd.V_below (by (with_reducible repeat (first | apply Kd.V_alloc | apply Kd.V_drewN | apply Kd.V_drew)); exact HO_153016.out) hb)
                    have n4_ := Aside0.mk (Kd.V_below (by (with_reducible repeat (first | apply Kd.V_alloc | apply Kd.V_drewN | apply Kd.V_drew)); exact HL153_14.out) hb)
                    have n5_ := Aside0.mk (Kd.V_below (by (with_reducible repeat (first | apply Kd.V_alloc | apply Kd.V_drewN | apply Kd.V_drew)); exact HL153_15.out) hb)
                    have n6_ := Aside0.mk (Kd.V_below (by (with_reducible repeat (first | apply Kd.V_alloc | apply Kd.V_drewN | apply Kd.V_drew)); exact HL153_16.out) hb)
                    have n7_ := Aside0.mk (blk_below (g := gb152) (o := .cells #[.int .u16 a1_0, .int .u16 a1_1, .int .i64 a1_2, .int .i64 a1_3, .int .u16 a1_4, .int .u16 a1_5, .int .i64 a1_6, .bool a1_7, .int .u16 a1_8, .int .u16 a1_9, .int .i64 a1_10, .string a1_11, .bool a1_12, .int .i64 a1_13, .slice A1_14 l1_14.length c1_14, .slice A1_15 l1_15.length c1_15, .slice A1_16 l1_16.length c1_16] 39 (0, 0)) (by (with_reducible repeat (first | refine blk_drewN ?_ _ | refine blk_drew ?_ | refine blk_alloc ?_ _)); exact BK152.out) hb)
                    have n8_ := Aside0.mk (Kd.C_below (by repeat (first | (with_reducible exact HR153_14.out) | (with_reducible refine Kd.C_alloc ?_ _) | (with_reducible refine Kd.C_drewN ?_ _) | (with_reducible refine Kd.C_drew ?_) | exact HR153_14.out)) hb)
                    have n9_ := Aside0.mk (Kd.C_below (by repeat (first | (with_reducible exact HR153_15.out) | (with_reducible refine Kd.C_alloc ?_ _) | (with_reducible refine Kd.C_drewN ?_ _) | (with_reducible refine Kd.C_drew ?_) | exact HR153_15.out)) hb)
                    have n10_ := Aside0.mk (Kd.C_below (by repeat (first | (with_reducible exact HR153_16.out) | (with_reducible refine Kd.C_alloc ?_ _) | (with_reducible refine Kd.C_drewN ?_ _) | (with_reducible refine Kd.C_drew ?_) | exact HR153_16.out)) hb)
                    have n11_ := Aside0.mk (below_step (by repeat (first | (with_reducible first | exact HB.out | apply below_alloc | apply pw_below_drewN | apply below_drew1 | refine below_set ?_ GE152.out) | exact HB.out)) hb)
                    clear HO_0
                    clear HO_153014
                    clear HO_153015
                    clear HO_153016
                    clear HL153_14
                    clear HL153_15
                    clear HL153_16
                    clear BK152
                    clear HR153_14
                    clear HR153_15
                    clear HR153_16
                    clear HB
                    have HO_0 := n0_
                    have HO_153014 := n1_
                    have HO_153015 := n2_
                    have HO_153016 := n3_
                    have HL153_14 := n4_
                    have HL153_15 := n5_
                    have HL153_16 := n6_
                    have BK152 := n7_
                    have HR153_14 := n8_
                    have HR153_15 := n9_
                    have HR153_16 := n10_
                    have HB := n11_
                    clear n0_ n1_ n2_ n3_ n4_ n5_ n6_ n7_ n8_ n9_ n10_ n11_
                    (try clear hb)
                    (try clear hb2)
                    (try clear hk)
                    (try clear hi)
                    refine hK.out _ _ ⟨(blk_cell BK152.out 0).trans rfl, (blk_cell BK152.out 1).trans rfl, (blk_cell BK152.out 2).trans rfl, (blk_cell BK152.out 3).trans rfl, (blk_cell BK152.out 4).trans rfl, (blk_cell BK152.out 5).trans rfl, (blk_cell BK152.out 6).trans rfl, (blk_cell BK152.out 7).trans rfl, (blk_cell BK152.out 8).trans rfl, (blk_cell BK152.out 9).trans rfl, (blk_cell BK152.out 10).trans rfl, (blk_cell BK152.out 11).trans rfl, (blk_cell BK152.out 12).trans rfl, (blk_cell BK152.out 13).trans rfl, (blk_cell BK152.out 14).trans rfl, (blk_cell BK152.out 15).trans rfl, (blk_cell BK152.out 16).trans rfl, HS17_, HS18_, HS19_, HS20_, HS21_, HS22_, HS23_, HS24_, HS25_, HS26_, HS27_, HS28_, HS29_, HS30_, HS31_, HS32_, HS33_⟩ (fun hHeld => ?_)
                    clear hK K
                    refine norm_ (a' := ?_) ?_ ?_
                    rotate_left
                    · show Act.put _ (some 19) _ = _
                      simp only [Act.put, List.setIfInBounds_toArray, List.set_cons_zero, List.set_cons_succ, i64_w, i32_w]
                      rfl
                    refine pure_ (i := 13) (N := some 20) (v := ?_) (a' := ?_) #[true, true, true, true, true, true, true, true, true, true, true, true, true, true, false] rfl rfl (any_of HT_.out (by kernel_rfl)) (fun _ _ _ h => h) (Or.inl ⟨by rfl, ?_⟩) ?_ ?_
                    rotate_left
                    · intro w'
                      go_simp
                      with_reducible rfl
                    rotate_left
                    · simp only [Act.put, List.setIfInBounds_toArray, List.set_cons_zero, List.set_cons_succ, i64_w, i32_w]
                      rfl
                    refine pure_ (i := 14) (N := some 21) (v := ?_) (a' := ?_) #[true, true, true, true, true, true, true, true, true, true, true, true, true, true, true] rfl rfl (any_of HT_.out (by kernel_rfl)) (fun _ _ _ h => h) (Or.inl ⟨by rfl, ?_⟩) ?_ ?_
                    rotate_left
                    · intro w'
                      go_simp
                      with_reducible rfl
                    rotate_left
                    · simp only [Act.put, List.setIfInBounds_toArray, List.set_cons_zero, List.set_cons_succ, i64_w, i32_w]
                      rfl
                    refine done_ (done_of HT_.out (by kernel_rfl)) ?_
                    try go_wp2_with (first | ((with_reducible refine gate_dst (N := 24) rfl ?_); refine Kd.N_lit k39 _ 39 ?hg (N' := 24) ?hd (xs := ([] : List (S39))) (inner := []) (ok := (fun k_ => ((P0_ k_ ∨ P1_14_ k_ ∨ P1_15_ k_ ∨ P1_16_ k_) ∨ w.heap.size ≤ k_) ∧ k_ ≠ gb152)) (okp := (fun k_ => ((P0_ k_ ∨ P1_14_ k_ ∨ P1_15_ k_ ∨ P1_16_ k_) ∨ w.heap.size ≤ k_) ∧ k_ ≠ gb152)) ?hr ?hp (fun _ hk => hk) ((show ∀ k_, w18.heap.size ≤ k_ → (fun k_ => ((P0_ k_ ∨ P1_14_ k_ ∨ P1_15_ k_ ∨ P1_16_ k_) ∨ w.heap.size ≤ k_) ∧ k_ ≠ gb152) k_ from fun k_ hk => ⟨(.inr (Nat.le_trans (below_size (by repeat (first | (with_reducible first | exact HB.out | apply below_alloc | apply pw_below_drewN | apply below_drew1 | refine below_set ?_ GE152.out) | exact HB.out))) hk)), Kd.freshB (g := gb152) (o := .cells #[.int .u16 a1_0, .int .u16 a1_1, .int .i64 a1_2, .int .i64 a1_3, .int .u16 a1_4, .int .u16 a1_5, .int .i64 a1_6, .bool a1_7, .int .u16 a1_8, .int .u16 a1_9, .int .i64 a1_10, .string a1_11, .bool a1_12, .int .i64 a1_13, .slice A1_14 l1_14.length c1_14, .slice A1_15 l1_15.length c1_15, .slice A1_16 l1_16.length c1_16] 39 (0, 0)) (by (with_reducible repeat (first | refine blk_drewN ?_ _ | refine blk_drew ?_ | refine blk_alloc ?_ _)); exact BK152.out) k_ hk⟩) _ (Nat.le_refl _)) (Below.refl _ _) (Nat.le_refl _) (by simp) ?_; (case hd => rfl); (case hg => rfl); (case hr => first | (go_simp; done) | (go_simp; rfl)); (case hp => exact (Reps.none _ _)); intro v156 w19 ho20 hb hg_ hnew_; clear hg_ hnew_; (first | rw [← Ny155.out] at ho20 | (simp only [Int.reduceToNat] at ho20; rw [← Ny155.out] at ho20)); have n0_ := Aside0.mk (Kd.V_elder' (by (with_reducible repeat (first | apply Kd.V_alloc | apply Kd.V_drewN | apply Kd.V_drew)); exact HO_0.out) (Kd.N_base ho20) hb); have n1_ := Aside0.mk (Kd.V_elder' (by (with_reducible repeat (first | apply Kd.V_alloc | apply Kd.V_drewN | apply Kd.V_drew)); exact HO_153014.out) (Kd.N_base ho20) hb); have n2_ := Aside0.mk (Kd.V_elder' (by (with_reducible repeat (first | apply Kd.V_alloc | apply Kd.V_drewN | apply Kd.V_drew)); exact HO_153015.out) (Kd.N_base ho20) hb); have n3_ := Aside0.mk (Kd.V_elder' (by (with_reducible repeat (first | apply Kd.V_alloc | apply Kd.V_drewN | apply Kd.V_drew)); exact HO_153016.out) (Kd.N_base ho20) hb); have n4_ := Aside0.mk (Kd.V_elder' (by (with_reducible repeat (first | apply Kd.V_alloc | apply Kd.V_drewN | apply Kd.V_drew)); exact HL153_14.out) (Kd.N_base ho20) hb); have n5_ := Aside0.mk (Kd.V_elder' (by (with_reducible repeat (first | apply Kd.V_alloc | apply Kd.V_drewN | apply Kd.V_drew)); exact HL153_15.out) (Kd.N_base ho20) hb); have n6_ := Aside0.mk (Kd.V_elder' (by (with_reducible repeat (first | apply Kd.V_alloc | apply Kd.V_drewN | apply Kd.V_drew)); exact HL153_16.out) (Kd.N_base ho20) hb); have n7_ := Aside0.mk (Kd.N_lower ho20 (below_size (by repeat (first | (with_reducible first | exact HB.out | apply below_alloc | apply pw_below_drewN | apply below_drew1 | refine below_set ?_ GE152.out) | exact HB.out)))); have n8_ := Aside0.mk (blk_below (g := gb152) (o := .cells #[.int .u16 a1_0, .int .u16 a1_1, .int .i64 a1_2, .int .i64 a1_3, .int .u16 a1_4, .int .u16 a1_5, .int .i64 a1_6, .bool a1_7, .int .u16 a1_8, .int .u16 a1_9, .int .i64 a1_10, .string a1_11, .bool a1_12, .int .i64 a1_13, .slice A1_14 l1_14.length c1_14, .slice A1_15 l1_15.length c1_15, .slice A1_16 l1_16.length c1_16] 39 (0, 0)) (by (with_reducible repeat (first | refine blk_drewN ?_ _ | refine blk_drew ?_ | refine blk_alloc ?_ _)); exact BK152.out) hb); have n9_ := Aside0.mk (Kd.C_below (by repeat (first | (with_reducible exact HR153_14.out) | (with_reducible refine Kd.C_alloc ?_ _) | (with_reducible refine Kd.C_drewN ?_ _) | (with_reducible refine Kd.C_drew ?_) | exact HR153_14.out)) hb); have n10_ := Aside0.mk (Kd.C_below (by repeat (first | (with_reducible exact HR153_15.out) | (with_reducible refine Kd.C_alloc ?_ _) | (with_reducible refine Kd.C_drewN ?_ _) | (with_reducible refine Kd.C_drew ?_) | exact HR153_15.out)) hb); have n11_ := Aside0.mk (Kd.C_below (by repeat (first | (with_reducible exact HR153_16.out) | (with_reducible refine Kd.C_alloc ?_ _) | (with_reducible refine Kd.C_drewN ?_ _) | (with_reducible refine Kd.C_drew ?_) | exact HR153_16.out)) hb); have n12_ := Aside0.mk (below_step (by repeat (first | (with_reducible first | exact HB.out | apply below_alloc | apply pw_below_drewN | apply below_drew1 | refine below_set ?_ GE152.out) | exact HB.out)) hb); clear HO_0; clear HO_153014; clear HO_153015; clear HO_153016; clear HL153_14; clear HL153_15; clear HL153_16; clear BK152; clear HR153_14; clear HR153_15; clear HR153_16; clear HB; have HO_0 := n0_; have HO_153014 := n1_; have HO_153015 := n2_; have HO_153016 := n3_; have HL153_14 := n4_; have HL153_15 := n5_; have HL153_16 := n6_; have HO157 := n7_; have BK152 := n8_; have HR153_14 := n9_; have HR153_15 := n10_; have HR153_16 := n11_; have HB := n12_; clear n0_ n1_ n2_ n3_ n4_ n5_ n6_ n7_ n8_ n9_ n10_ n11_ n12_; clear hb ho20; have q21 : (x5_1 : Int) ≤ ((l0.length : Int) : Int) := of_decide_eq_true (by first | (with_reducible assumption) | assumption); obtain ⟨i021, hi021, _, hsz21, _⟩ := info_parts info39; have hroom21 : l0.length ≤ c0 := (Kd.V_reads' HO_0.out).2.1; have hC21 : Kd.F k39 _ _ (some ad153) l0.length l0 := (Kd.V_at (base := w.heap.size) HO_0.out).2.2; have hcut21 := cut_to (P := Try.prog) 29 39 .i64 Try.underlying29 hi021 (some ad153) l0.length c0 x5_1 (of_decide_eq_true (by first | (with_reducible assumption) | assumption)) q21 hroom21; have hr21 := Kd.F_take (m := (x5_1 : Int).toNat) hC21 (by omega); have hy21 : y158.length = (x5_1 : Int).toNat := (by rw [Ny158.out, List.length_take]; omega); rw [← Ny158.out] at hr21; rw [← hy21] at hcut21; have HO162 := Aside0.mk (show Kd.V k39 39 _ w.heap.size _ (.slice (some ad153) y158.length c0) y158 from Kd.V_mk (by omega) hr21); have HC162 := Aside0.mk (show y158.length ≤ c0 from by omega); clear hr21 hC21 hroom21 hi021 hsz21; have KY21 := Aside0.mk hy21; clear hy21; replace q21 := eq_true q21) | ((with_reducible refine gate_builtin (b := .append) (xs := #[.tmp 24, .tmp 27]) rfl ?_); at_builtin; refine Kd.N_append_rows k39 (w0 := w) w.heap.size rfl (.tmp 24) (.tmp 27) 29 39 (.agg #[(.int .u16 0), (.int .u16 0), (.int .i64 0), (.int .i64 0), (.int .u16 0), (.int .u16 0), (.int .i64 0), (.bool false), (.int .u16 0), (.int .u16 0), (.int .i64 0), (.string ⟨#[]⟩), (.bool false), (.int .i64 0), (.slice none 0 0), (.slice none 0 0), (.slice none 0 0)]) 160 rfl Try.underlying29 info39 rfl (by decide) (by omega) v156 y155 y158 _ _ _ (fun k_ => ((P0_ k_ ∨ P1_14_ k_ ∨ P1_15_ k_ ∨ P1_16_ k_) ∨ w.heap.size ≤ k_) ∧ k_ ≠ gb152) (fun k_ => ((fun k_ => ((P0_ k_ ∨ P1_14_ k_ ∨ P1_15_ k_ ∨ P1_16_ k_) ∨ w.heap.size ≤ k_) ∧ k_ ≠ gb152)) k_ ∧ some k_ ≠ (v156 : Value).ownBlock) rfl rfl ?aO ?aR (fun _ hk => hk) ?aF ?aB ?aS ?aL ?_; (case aR => exact (by skip; exact Kd.V_F (Kd.V_mono (ok' := (fun k_ => ((fun k_ => ((P0_ k_ ∨ P1_14_ k_ ∨ P1_15_ k_ ∨ P1_16_ k_) ∨ w.heap.size ≤ k_) ∧ k_ ≠ gb152)) k_ ∧ some k_ ≠ (v156 : Value).ownBlock)) (HO162.out) (fun k_ hk => ⟨⟨hk.1.1, hk.1.2⟩, hk.2⟩)))); (case aB => exact (by repeat (first | (with_reducible first | exact HB.out | apply below_alloc | apply pw_below_drewN | apply below_drew1 | refine below_set ?_ GE152.out) | exact HB.out))); (case aF => exact (fun k_ hk => ⟨(.inr (Nat.le_trans (below_size (by repeat (first | (with_reducible first | exact HB.out | apply below_alloc | apply pw_below_drewN | apply below_drew1 | refine below_set ?_ GE152.out) | exact HB.out))) hk)), Kd.freshB (g := gb152) (o := .cells #[.int .u16 a1_0, .int .u16 a1_1, .int .i64 a1_2, .int .i64 a1_3, .int .u16 a1_4, .int .u16 a1_5, .int .i64 a1_6, .bool a1_7, .int .u16 a1_8, .int .u16 a1_9, .int .i64 a1_10, .string a1_11, .bool a1_12, .int .i64 a1_13, .slice A1_14 l1_14.length c1_14, .slice A1_15 l1_15.length c1_15, .slice A1_16 l1_16.length c1_16] 39 (0, 0)) (by (with_reducible repeat (first | refine blk_drewN ?_ _ | refine blk_drew ?_ | refine blk_alloc ?_ _)); exact BK152.out) k_ hk⟩)); (case aO => exact (by (with_reducible repeat (first | apply Kd.N_alloc | apply Kd.N_drewN | apply Kd.N_drew)); exact HO157.out)); (case aS => exact (below_size (by repeat (first | (with_reducible first | exact HB.out | apply below_alloc | apply pw_below_drewN | apply below_drew1 | refine below_set ?_ GE152.out) | exact HB.out)))); (case aL => have := LMc12.out; omega); intro v164 w22 ho hb hg hat; rw [← Ny163.out] at ho; have n0_ := Aside0.mk (Kd.V_afterv (ok := (fun k_ => ((P0_ k_ ∨ P1_14_ k_ ∨ P1_15_ k_ ∨ P1_16_ k_) ∨ w.heap.size ≤ k_) ∧ k_ ≠ gb152)) (by (with_reducible repeat (first | apply Kd.V_alloc | apply Kd.V_drewN | apply Kd.V_drew)); exact HO_0.out) hg hat); have n1_ := Aside0.mk (Kd.V_afterv (ok := (fun k_ => ((P0_ k_ ∨ P1_14_ k_ ∨ P1_15_ k_ ∨ P1_16_ k_) ∨ w.heap.size ≤ k_) ∧ k_ ≠ gb152)) (by (with_reducible repeat (first | apply Kd.V_alloc | apply Kd.V_drewN | apply Kd.V_drew)); exact HO_153014.out) hg hat); have n2_ := Aside0.mk (Kd.V_afterv (ok := (fun k_ => ((P0_ k_ ∨ P1_14_ k_ ∨ P1_15_ k_ ∨ P1_16_ k_) ∨ w.heap.size ≤ k_) ∧ k_ ≠ gb152)) (by (with_reducible repeat (first | apply Kd.V_alloc | apply Kd.V_drewN | apply Kd.V_drew)); exact HO_153015.out) hg hat); have n3_ := Aside0.mk (Kd.V_afterv (ok := (fun k_ => ((P0_ k_ ∨ P1_14_ k_ ∨ P1_15_ k_ ∨ P1_16_ k_) ∨ w.heap.size ≤ k_) ∧ k_ ≠ gb152)) (by (with_reducible repeat (first | apply Kd.V_alloc | apply Kd.V_drewN | apply Kd.V_drew)); exact HO_153016.out) hg hat); have n4_ := Aside0.mk (blk_grown (g := gb152) (o := .cells #[.int .u16 a1_0, .int .u16 a1_1, .int .i64 a1_2, .int .i64 a1_3, .int .u16 a1_4, .int .u16 a1_5, .int .i64 a1_6, .bool a1_7, .int .u16 a1_8, .int .u16 a1_9, .int .i64 a1_10, .string a1_11, .bool a1_12, .int .i64 a1_13, .slice A1_14 l1_14.length c1_14, .slice A1_15 l1_15.length c1_15, .slice A1_16 l1_16.length c1_16] 39 (0, 0)) (by (with_reducible repeat (first | refine blk_drewN ?_ _ | refine blk_drew ?_ | refine blk_alloc ?_ _)); exact BK152.out) hg (Kd.N_away HO157.out (fun _ hk => hk.2))); have n5_ := Aside0.mk (Kd.V_afterv (ok := (fun k_ => ((P0_ k_ ∨ P1_14_ k_ ∨ P1_15_ k_ ∨ P1_16_ k_) ∨ w.heap.size ≤ k_) ∧ k_ ≠ gb152)) (by (with_reducible repeat (first | apply Kd.V_alloc | apply Kd.V_drewN | apply Kd.V_drew)); exact HL153_14.out) hg hat); have n6_ := Aside0.mk (Kd.V_afterv (ok := (fun k_ => ((P0_ k_ ∨ P1_14_ k_ ∨ P1_15_ k_ ∨ P1_16_ k_) ∨ w.heap.size ≤ k_) ∧ k_ ≠ gb152)) (by (with_reducible repeat (first | apply Kd.V_alloc | apply Kd.V_drewN | apply Kd.V_drew)); exact HL153_15.out) hg hat); have n7_ := Aside0.mk (Kd.V_afterv (ok := (fun k_ => ((P0_ k_ ∨ P1_14_ k_ ∨ P1_15_ k_ ∨ P1_16_ k_) ∨ w.heap.size ≤ k_) ∧ k_ ≠ gb152)) (by (with_reducible repeat (first | apply Kd.V_alloc | apply Kd.V_drewN | apply Kd.V_drew)); exact HL153_16.out) hg hat); have n8_ := Aside0.mk (Kd.V_afterv (ok := (fun k_ => ((P0_ k_ ∨ P1_14_ k_ ∨ P1_15_ k_ ∨ P1_16_ k_) ∨ w.heap.size ≤ k_) ∧ k_ ≠ gb152)) (by (with_reducible repeat (first | apply Kd.V_alloc | apply Kd.V_drewN | apply Kd.V_drew)); exact HO162.out) hg hat); have n9_ := Aside0.mk (hb); have n10_ := Aside0.mk (ho); clear HO_0; clear HO_153014; clear HO_153015; clear HO_153016; clear BK152; clear HL153_14; clear HL153_15; clear HL153_16; clear HO162; clear HB; clear HO157; have HO_0 := n0_; have HO_153014 := n1_; have HO_153015 := n2_; have HO_153016 := n3_; have BK152 := n4_; have HL153_14 := n5_; have HL153_15 := n6_; have HL153_16 := n7_; have HO162 := n8_; have HB := n9_; have HO165 := n10_; clear n0_ n1_ n2_ n3_ n4_ n5_ n6_ n7_ n8_ n9_ n10_; clear ho hb hg hat; have hcz23_0 : w22.cell? ⟨gb152, 0, none⟩ = some (.int .u16 a1_0) := (blk_cell BK152.out 0).trans rfl; have hcz23_1 : w22.cell? ⟨gb152, 1, none⟩ = some (.int .u16 a1_1) := (blk_cell BK152.out 1).trans rfl; have hcz23_2 : w22.cell? ⟨gb152, 2, none⟩ = some (.int .i64 a1_2) := (blk_cell BK152.out 2).trans rfl; have hcz23_3 : w22.cell? ⟨gb152, 3, none⟩ = some (.int .i64 a1_3) := (blk_cell BK152.out 3).trans rfl; have hcz23_4 : w22.cell? ⟨gb152, 4, none⟩ = some (.int .u16 a1_4) := (blk_cell BK152.out 4).trans rfl; have hcz23_5 : w22.cell? ⟨gb152, 5, none⟩ = some (.int .u16 a1_5) := (blk_cell BK152.out 5).trans rfl; have hcz23_6 : w22.cell? ⟨gb152, 6, none⟩ = some (.int .i64 a1_6) := (blk_cell BK152.out 6).trans rfl; have hcz23_7 : w22.cell? ⟨gb152, 7, none⟩ = some (.bool a1_7) := (blk_cell BK152.out 7).trans rfl; have hcz23_8 : w22.cell? ⟨gb152, 8, none⟩ = some (.int .u16 a1_8) := (blk_cell BK152.out 8).trans rfl; have hcz23_9 : w22.cell? ⟨gb152, 9, none⟩ = some (.int .u16 a1_9) := (blk_cell BK152.out 9).trans rfl; have hcz23_10 : w22.cell? ⟨gb152, 10, none⟩ = some (.int .i64 a1_10) := (blk_cell BK152.out 10).trans rfl; have hcz23_11 : w22.cell? ⟨gb152, 11, none⟩ = some (.string a1_11) := (blk_cell BK152.out 11).trans rfl; have hcz23_12 : w22.cell? ⟨gb152, 12, none⟩ = some (.bool a1_12) := (blk_cell BK152.out 12).trans rfl; have hcz23_13 : w22.cell? ⟨gb152, 13, none⟩ = some (.int .i64 a1_13) := (blk_cell BK152.out 13).trans rfl; have hcz23_14 : w22.cell? ⟨gb152, 14, none⟩ = some (.slice A1_14 l1_14.length c1_14) := (blk_cell BK152.out 14).trans rfl; have hcz23_15 : w22.cell? ⟨gb152, 15, none⟩ = some (.slice A1_15 l1_15.length c1_15) := (blk_cell BK152.out 15).trans rfl; have hcz23_16 : w22.cell? ⟨gb152, 16, none⟩ = some (.slice A1_16 l1_16.length c1_16) := (blk_cell BK152.out 16).trans rfl; have hfz23_0 := blk_frozen BK152.out 0; have hfz23_1 := blk_frozen BK152.out 1; have hfz23_2 := blk_frozen BK152.out 2; have hfz23_3 := blk_frozen BK152.out 3; have hfz23_4 := blk_frozen BK152.out 4; have hfz23_5 := blk_frozen BK152.out 5; have hfz23_6 := blk_frozen BK152.out 6; have hfz23_7 := blk_frozen BK152.out 7; have hfz23_8 := blk_frozen BK152.out 8; have hfz23_9 := blk_frozen BK152.out 9; have hfz23_10 := blk_frozen BK152.out 10; have hfz23_11 := blk_frozen BK152.out 11; have hfz23_12 := blk_frozen BK152.out 12; have hfz23_13 := blk_frozen BK152.out 13; have hfz23_14 := blk_frozen BK152.out 14; have hfz23_15 := blk_frozen BK152.out 15; have hfz23_16 := blk_frozen BK152.out 16) | ((with_reducible refine gate_builtin (b := .append) (xs := #[.tmp 29, .tmp 31]) rfl ?_); at_builtin; refine Kd.N_append k39 (w0 := w) w.heap.size rfl (.tmp 29) (.tmp 31) 29 39 (.agg #[(.int .u16 0), (.int .u16 0), (.int .i64 0), (.int .i64 0), (.int .u16 0), (.int .u16 0), (.int .i64 0), (.bool false), (.int .u16 0), (.int .u16 0), (.int .i64 0), (.string ⟨#[]⟩), (.bool false), (.int .i64 0), (.slice none 0 0), (.slice none 0 0), (.slice none 0 0)]) 160 rfl Try.underlying29 info39 rfl (by decide) (by omega) v164 y163 (⟨(⟨(⟨a1_0, a1_1⟩ : S24), a1_2, a1_3⟩ : S34), (⟨a1_4, a1_5⟩ : S24), a1_6, a1_7, (⟨a1_8, a1_9⟩ : S24), a1_10, a1_11, a1_12, (⟨a1_13, l1_14, l1_15, l1_16⟩ : S37)⟩ : S39) [.int .u16 a1_0, .int .u16 a1_1, .int .i64 a1_2, .int .i64 a1_3, .int .u16 a1_4, .int .u16 a1_5, .int .i64 a1_6, .bool a1_7, .int .u16 a1_8, .int .u16 a1_9, .int .i64 a1_10, .string a1_11, .bool a1_12, .int .i64 a1_13, .slice A1_14 l1_14.length c1_14, .slice A1_15 l1_15.length c1_15, .slice A1_16 l1_16.length c1_16] (fun k_ => ((P0_ k_ ∨ P1_14_ k_ ∨ P1_15_ k_ ∨ P1_16_ k_) ∨ w.heap.size ≤ k_) ∧ k_ ≠ gb152) (fun k_ => ((fun k_ => ((P0_ k_ ∨ P1_14_ k_ ∨ P1_15_ k_ ∨ P1_16_ k_) ∨ w.heap.size ≤ k_) ∧ k_ ≠ gb152)) k_ ∧ some k_ ≠ (v164 : Value).ownBlock) rfl rfl ?aP (fun _ hk => hk) ?aF ?aO ?aB ?aS ?aL ?_; (case aP => exact (k39_mkF _ _ (⟨(⟨(⟨a1_0, a1_1⟩ : S24), a1_2, a1_3⟩ : S34), (⟨a1_4, a1_5⟩ : S24), a1_6, a1_7, (⟨a1_8, a1_9⟩ : S24), a1_10, a1_11, a1_12, (⟨a1_13, l1_14, l1_15, l1_16⟩ : S37)⟩ : S39) (Kd.V_reads' (Kd.V_mono (ok' := (fun k_ => ((fun k_ => ((P0_ k_ ∨ P1_14_ k_ ∨ P1_15_ k_ ∨ P1_16_ k_) ∨ w.heap.size ≤ k_) ∧ k_ ≠ gb152)) k_ ∧ some k_ ≠ (v164 : Value).ownBlock)) (HO_153014.out) (fun k_ hk => ⟨⟨hk.1.1, hk.1.2⟩, hk.2⟩))).2.1 (Kd.V_F (Kd.V_mono (ok' := (fun k_ => ((fun k_ => ((P0_ k_ ∨ P1_14_ k_ ∨ P1_15_ k_ ∨ P1_16_ k_) ∨ w.heap.size ≤ k_) ∧ k_ ≠ gb152)) k_ ∧ some k_ ≠ (v164 : Value).ownBlock)) (HO_153014.out) (fun k_ hk => ⟨⟨hk.1.1, hk.1.2⟩, hk.2⟩))) (Kd.V_reads' (Kd.V_mono (ok' := (fun k_ => ((fun k_ => ((P0_ k_ ∨ P1_14_ k_ ∨ P1_15_ k_ ∨ P1_16_ k_) ∨ w.heap.size ≤ k_) ∧ k_ ≠ gb152)) k_ ∧ some k_ ≠ (v164 : Value).ownBlock)) (HO_153015.out) (fun k_ hk => ⟨⟨hk.1.1, hk.1.2⟩, hk.2⟩))).2.1 (Kd.V_F (Kd.V_mono (ok' := (fun k_ => ((fun k_ => ((P0_ k_ ∨ P1_14_ k_ ∨ P1_15_ k_ ∨ P1_16_ k_) ∨ w.heap.size ≤ k_) ∧ k_ ≠ gb152)) k_ ∧ some k_ ≠ (v164 : Value).ownBlock)) (HO_153015.out) (fun k_ hk => ⟨⟨hk.1.1, hk.1.2⟩, hk.2⟩))) (Kd.V_reads' (Kd.V_mono (ok' := (fun k_ => ((fun k_ => ((P0_ k_ ∨ P1_14_ k_ ∨ P1_15_ k_ ∨ P1_16_ k_) ∨ w.heap.size ≤ k_) ∧ k_ ≠ gb152)) k_ ∧ some k_ ≠ (v164 : Value).ownBlock)) (HO_153016.out) (fun k_ hk => ⟨⟨hk.1.1, hk.1.2⟩, hk.2⟩))).2.1 (Kd.V_F (Kd.V_mono (ok' := (fun k_ => ((fun k_ => ((P0_ k_ ∨ P1_14_ k_ ∨ P1_15_ k_ ∨ P1_16_ k_) ∨ w.heap.size ≤ k_) ∧ k_ ≠ gb152)) k_ ∧ some k_ ≠ (v164 : Value).ownBlock)) (HO_153016.out) (fun k_ hk => ⟨⟨hk.1.1, hk.1.2⟩, hk.2⟩))))); (case aB => exact (by repeat (first | (with_reducible first | exact HB.out | apply below_alloc | apply pw_below_drewN | apply below_drew1 | refine below_set ?_ GE152.out) | exact HB.out))); (case aF => exact (fun k_ hk => ⟨(.inr (Nat.le_trans (below_size (by repeat (first | (with_reducible first | exact HB.out | apply below_alloc | apply pw_below_drewN | apply below_drew1 | refine below_set ?_ GE152.out) | exact HB.out))) hk)), Kd.freshB (g := gb152) (o := .cells #[.int .u16 a1_0, .int .u16 a1_1, .int .i64 a1_2, .int .i64 a1_3, .int .u16 a1_4, .int .u16 a1_5, .int .i64 a1_6, .bool a1_7, .int .u16 a1_8, .int .u16 a1_9, .int .i64 a1_10, .string a1_11, .bool a1_12, .int .i64 a1_13, .slice A1_14 l1_14.length c1_14, .slice A1_15 l1_15.length c1_15, .slice A1_16 l1_16.length c1_16] 39 (0, 0)) (by (with_reducible repeat (first | refine blk_drewN ?_ _ | refine blk_drew ?_ | refine blk_alloc ?_ _)); exact BK152.out) k_ hk⟩)); (case aO => exact (by (with_reducible repeat (first | apply Kd.N_alloc | apply Kd.N_drewN | apply Kd.N_drew)); exact HO165.out)); (case aS => exact (below_size (by repeat (first | (with_reducible first | exact HB.out | apply below_alloc | apply pw_below_drewN | apply below_drew1 | refine below_set ?_ GE152.out) | exact HB.out)))); (case aL => have := LMc13.out; omega); intro v167 w24 ho hb hg hat; rw [← Ny166.out] at ho; have n0_ := Aside0.mk (Kd.V_afterv (ok := (fun k_ => ((P0_ k_ ∨ P1_14_ k_ ∨ P1_15_ k_ ∨ P1_16_ k_) ∨ w.heap.size ≤ k_) ∧ k_ ≠ gb152)) (by (with_reducible repeat (first | apply Kd.V_alloc | apply Kd.V_drewN | apply Kd.V_drew)); exact HO_0.out) hg hat); have n1_ := Aside0.mk (Kd.V_afterv (ok := (fun k_ => ((P0_ k_ ∨ P1_14_ k_ ∨ P1_15_ k_ ∨ P1_16_ k_) ∨ w.heap.size ≤ k_) ∧ k_ ≠ gb152)) (by (with_reducible repeat (first | apply Kd.V_alloc | apply Kd.V_drewN | apply Kd.V_drew)); exact HO_153014.out) hg hat); have n2_ := Aside0.mk (Kd.V_afterv (ok := (fun k_ => ((P0_ k_ ∨ P1_14_ k_ ∨ P1_15_ k_ ∨ P1_16_ k_) ∨ w.heap.size ≤ k_) ∧ k_ ≠ gb152)) (by (with_reducible repeat (first | apply Kd.V_alloc | apply Kd.V_drewN | apply Kd.V_drew)); exact HO_153015.out) hg hat); have n3_ := Aside0.mk (Kd.V_afterv (ok := (fun k_ => ((P0_ k_ ∨ P1_14_ k_ ∨ P1_15_ k_ ∨ P1_16_ k_) ∨ w.heap.size ≤ k_) ∧ k_ ≠ gb152)) (by (with_reducible repeat (first | apply Kd.V_alloc | apply Kd.V_drewN | apply Kd.V_drew)); exact HO_153016.out) hg hat); have n4_ := Aside0.mk (blk_grown (g := gb152) (o := .cells #[.int .u16 a1_0, .int .u16 a1_1, .int .i64 a1_2, .int .i64 a1_3, .int .u16 a1_4, .int .u16 a1_5, .int .i64 a1_6, .bool a1_7, .int .u16 a1_8, .int .u16 a1_9, .int .i64 a1_10, .string a1_11, .bool a1_12, .int .i64 a1_13, .slice A1_14 l1_14.length c1_14, .slice A1_15 l1_15.length c1_15, .slice A1_16 l1_16.length c1_16] 39 (0, 0)) (by (with_reducible repeat (first | refine blk_drewN ?_ _ | refine blk_drew ?_ | refine blk_alloc ?_ _)); exact BK152.out) hg (Kd.N_away HO165.out (fun _ hk => hk.2))); have n5_ := Aside0.mk (Kd.V_afterv (ok := (fun k_ => ((P0_ k_ ∨ P1_14_ k_ ∨ P1_15_ k_ ∨ P1_16_ k_) ∨ w.heap.size ≤ k_) ∧ k_ ≠ gb152)) (by (with_reducible repeat (first | apply Kd.V_alloc | apply Kd.V_drewN | apply Kd.V_drew)); exact HL153_14.out) hg hat); have n6_ := Aside0.mk (Kd.V_afterv (ok := (fun k_ => ((P0_ k_ ∨ P1_14_ k_ ∨ P1_15_ k_ ∨ P1_16_ k_) ∨ w.heap.size ≤ k_) ∧ k_ ≠ gb152)) (by (with_reducible repeat (first | apply Kd.V_alloc | apply Kd.V_drewN | apply Kd.V_drew)); exact HL153_15.out) hg hat); have n7_ := Aside0.mk (Kd.V_afterv (ok := (fun k_ => ((P0_ k_ ∨ P1_14_ k_ ∨ P1_15_ k_ ∨ P1_16_ k_) ∨ w.heap.size ≤ k_) ∧ k_ ≠ gb152)) (by (with_reducible repeat (first | apply Kd.V_alloc | apply Kd.V_drewN | apply Kd.V_drew)); exact HL153_16.out) hg hat); have n8_ := Aside0.mk (Kd.V_afterv (ok := (fun k_ => ((P0_ k_ ∨ P1_14_ k_ ∨ P1_15_ k_ ∨ P1_16_ k_) ∨ w.heap.size ≤ k_) ∧ k_ ≠ gb152)) (by (with_reducible repeat (first | apply Kd.V_alloc | apply Kd.V_drewN | apply Kd.V_drew)); exact HO162.out) hg hat); have n9_ := Aside0.mk (hb); have n10_ := Aside0.mk (ho); clear HO_0; clear HO_153014; clear HO_153015; clear HO_153016; clear BK152; clear HL153_14; clear HL153_15; clear HL153_16; clear HO162; clear HB; clear HO165; have HO_0 := n0_; have HO_153014 := n1_; have HO_153015 := n2_; have HO_153016 := n3_; have BK152 := n4_; have HL153_14 := n5_; have HL153_15 := n6_; have HL153_16 := n7_; have HO162 := n8_; have HB := n9_; have HO168 := n10_; clear n0_ n1_ n2_ n3_ n4_ n5_ n6_ n7_ n8_ n9_ n10_; clear ho hb hg hat; have q25 : (x5_1 : Int) ≤ ((l0.length : Int) : Int) := of_decide_eq_true (by first | (with_reducible assumption) | assumption); obtain ⟨i025, hi025, _, hsz25, _⟩ := info_parts info39; have hroom25 : l0.length ≤ c0 := (Kd.V_reads' HO_0.out).2.1; have hC25 : Kd.F k39 _ _ (some ad153) l0.length l0 := (Kd.V_at (base := w.heap.size) HO_0.out).2.2; have q025 : (0 : Int) ≤ (x5_1 : Int) := of_decide_eq_true (by first | (with_reducible assumption) | assumption); have hcut25 := cut_from (P := Try.prog) 29 39 .i64 Try.underlying29 hi025 17 hsz25 (some ad153) l0.length c0 x5_1 q025 q25; have hr25 := Kd.F_cut (m := (x5_1 : Int).toNat) (c := c0) hC25 (by omega) hroom25; obtain ⟨A25, hA25⟩ : ∃ A1, A1 = (if c0 = (x5_1 : Int).toNat then (some ad153) else ((some ad153) : Option Addr).map (·.add ((x5_1 : Int).toNat * 17))) := ⟨_, rfl⟩; obtain ⟨c25, hc25⟩ : ∃ c1, c1 = c0 - (x5_1 : Int).toNat := ⟨_, rfl⟩; have hy25 : y169.length = l0.length - (x5_1 : Int).toNat := (by rw [Ny169.out, List.length_drop] <;> omega); rw [show (l0).drop (x5_1 : Int).toNat = y169 from Ny169.out.symm] at hr25; replace hr25 : Kd.F k39 _ _ A25 y169.length y169 := (by rw [hA25]; exact hr25); rw [← hy25, ← hA25, ← hc25] at hcut25; have HO173 := Aside0.mk (show Kd.V k39 39 _ w.heap.size _ (.slice A25 y169.length c25) y169 from Kd.V_mk (by rw [hy25, hc25]; exact Nat.sub_le_sub_right hroom25 _) hr25); have HC173 := Aside0.mk (show y169.length ≤ c25 from by rw [hy25, hc25]; exact Nat.sub_le_sub_right hroom25 _); clear hr25 hC25 hroom25 hi025 hsz25 hc25; have KY25 := Aside0.mk hy25; have KA25 := Aside0.mk hA25; clear hy25 hA25; replace q25 := eq_true q25) | ((with_reducible refine gate_builtin (b := .append) (xs := #[.tmp 33, .tmp 36]) rfl ?_); at_builtin; refine Kd.N_append_rows k39 (w0 := w) w.heap.size rfl (.tmp 33) (.tmp 36) 29 39 (.agg #[(.int .u16 0), (.int .u16 0), (.int .i64 0), (.int .i64 0), (.int .u16 0), (.int .u16 0), (.int .i64 0), (.bool false), (.int .u16 0), (.int .u16 0), (.int .i64 0), (.string ⟨#[]⟩), (.bool false), (.int .i64 0), (.slice none 0 0), (.slice none 0 0), (.slice none 0 0)]) 160 rfl Try.underlying29 info39 rfl (by decide) (by omega) v167 y166 y169 _ _ _ (fun k_ => ((P0_ k_ ∨ P1_14_ k_ ∨ P1_15_ k_ ∨ P1_16_ k_) ∨ w.heap.size ≤ k_) ∧ k_ ≠ gb152) (fun k_ => ((fun k_ => ((P0_ k_ ∨ P1_14_ k_ ∨ P1_15_ k_ ∨ P1_16_ k_) ∨ w.heap.size ≤ k_) ∧ k_ ≠ gb152)) k_ ∧ some k_ ≠ (v167 : Value).ownBlock) rfl rfl ?aO ?aR (fun _ hk => hk) ?aF ?aB ?aS ?aL ?_; (case aR => exact (by skip; exact Kd.V_F (Kd.V_mono (ok' := (fun k_ => ((fun k_ => ((P0_ k_ ∨ P1_14_ k_ ∨ P1_15_ k_ ∨ P1_16_ k_) ∨ w.heap.size ≤ k_) ∧ k_ ≠ gb152)) k_ ∧ some k_ ≠ (v167 : Value).ownBlock)) (HO173.out) (fun k_ hk => ⟨⟨hk.1.1, hk.1.2⟩, hk.2⟩)))); (case aB => exact (by repeat (first | (with_reducible first | exact HB.out | apply below_alloc | apply pw_below_drewN | apply below_drew1 | refine below_set ?_ GE152.out) | exact HB.out))); (case aF => exact (fun k_ hk => ⟨(.inr (Nat.le_trans (below_size (by repeat (first | (with_reducible first | exact HB.out | apply below_alloc | apply pw_below_drewN | apply below_drew1 | refine below_set ?_ GE152.out) | exact HB.out))) hk)), Kd.freshB (g := gb152) (o := .cells #[.int .u16 a1_0, .int .u16 a1_1, .int .i64 a1_2, .int .i64 a1_3, .int .u16 a1_4, .int .u16 a1_5, .int .i64 a1_6, .bool a1_7, .int .u16 a1_8, .int .u16 a1_9, .int .i64 a1_10, .string a1_11, .bool a1_12, .int .i64 a1_13, .slice A1_14 l1_14.length c1_14, .slice A1_15 l1_15.length c1_15, .slice A1_16 l1_16.length c1_16] 39 (0, 0)) (by (with_reducible repeat (first | refine blk_drewN ?_ _ | refine blk_drew ?_ | refine blk_alloc ?_ _)); exact BK152.out) k_ hk⟩)); (case aO => exact (by (with_reducible repeat (first | apply Kd.N_alloc | apply Kd.N_drewN | apply Kd.N_drew)); exact HO168.out)); (case aS => exact (below_size (by repeat (first | (with_reducible first | exact HB.out | apply below_alloc | apply pw_below_drewN | apply below_drew1 | refine below_set ?_ GE152.out) | exact HB.out)))); (case aL => have := LMc16.out; omega); intro v175 w26 ho hb hg hat; rw [← Ny174.out] at ho; have n0_ := Aside0.mk (Kd.V_afterv (ok := (fun k_ => ((P0_ k_ ∨ P1_14_ k_ ∨ P1_15_ k_ ∨ P1_16_ k_) ∨ w.heap.size ≤ k_) ∧ k_ ≠ gb152)) (by (with_reducible repeat (first | apply Kd.V_alloc | apply Kd.V_drewN | apply Kd.V_drew)); exact HO_0.out) hg hat); have n1_ := Aside0.mk (Kd.V_afterv (ok := (fun k_ => ((P0_ k_ ∨ P1_14_ k_ ∨ P1_15_ k_ ∨ P1_16_ k_) ∨ w.heap.size ≤ k_) ∧ k_ ≠ gb152)) (by (with_reducible repeat (first | apply Kd.V_alloc | apply Kd.V_drewN | apply Kd.V_drew)); exact HO_153014.out) hg hat); have n2_ := Aside0.mk (Kd.V_afterv (ok := (fun k_ => ((P0_ k_ ∨ P1_14_ k_ ∨ P1_15_ k_ ∨ P1_16_ k_) ∨ w.heap.size ≤ k_) ∧ k_ ≠ gb152)) (by (with_reducible repeat (first | apply Kd.V_alloc | apply Kd.V_drewN | apply Kd.V_drew)); exact HO_153015.out) hg hat); have n3_ := Aside0.mk (Kd.V_afterv (ok := (fun k_ => ((P0_ k_ ∨ P1_14_ k_ ∨ P1_15_ k_ ∨ P1_16_ k_) ∨ w.heap.size ≤ k_) ∧ k_ ≠ gb152)) (by (with_reducible repeat (first | apply Kd.V_alloc | apply Kd.V_drewN | apply Kd.V_drew)); exact HO_153016.out) hg hat); have n4_ := Aside0.mk (blk_grown (g := gb152) (o := .cells #[.int .u16 a1_0, .int .u16 a1_1, .int .i64 a1_2, .int .i64 a1_3, .int .u16 a1_4, .int .u16 a1_5, .int .i64 a1_6, .bool a1_7, .int .u16 a1_8, .int .u16 a1_9, .int .i64 a1_10, .string a1_11, .bool a1_12, .int .i64 a1_13, .slice A1_14 l1_14.length c1_14, .slice A1_15 l1_15.length c1_15, .slice A1_16 l1_16.length c1_16] 39 (0, 0)) (by (with_reducible repeat (first | refine blk_drewN ?_ _ | refine blk_drew ?_ | refine blk_alloc ?_ _)); exact BK152.out) hg (Kd.N_away HO168.out (fun _ hk => hk.2))); have n5_ := Aside0.mk (Kd.V_afterv (ok := (fun k_ => ((P0_ k_ ∨ P1_14_ k_ ∨ P1_15_ k_ ∨ P1_16_ k_) ∨ w.heap.size ≤ k_) ∧ k_ ≠ gb152)) (by (with_reducible repeat (first | apply Kd.V_alloc | apply Kd.V_drewN | apply Kd.V_drew)); exact HL153_14.out) hg hat); have n6_ := Aside0.mk (Kd.V_afterv (ok := (fun k_ => ((P0_ k_ ∨ P1_14_ k_ ∨ P1_15_ k_ ∨ P1_16_ k_) ∨ w.heap.size ≤ k_) ∧ k_ ≠ gb152)) (by (with_reducible repeat (first | apply Kd.V_alloc | apply Kd.V_drewN | apply Kd.V_drew)); exact HL153_15.out) hg hat); have n7_ := Aside0.mk (Kd.V_afterv (ok := (fun k_ => ((P0_ k_ ∨ P1_14_ k_ ∨ P1_15_ k_ ∨ P1_16_ k_) ∨ w.heap.size ≤ k_) ∧ k_ ≠ gb152)) (by (with_reducible repeat (first | apply Kd.V_alloc | apply Kd.V_drewN | apply Kd.V_drew)); exact HL153_16.out) hg hat); have n8_ := Aside0.mk (Kd.V_afterv (ok := (fun k_ => ((P0_ k_ ∨ P1_14_ k_ ∨ P1_15_ k_ ∨ P1_16_ k_) ∨ w.heap.size ≤ k_) ∧ k_ ≠ gb152)) (by (with_reducible repeat (first | apply Kd.V_alloc | apply Kd.V_drewN | apply Kd.V_drew)); exact HO162.out) hg hat); have n9_ := Aside0.mk (Kd.V_afterv (ok := (fun k_ => ((P0_ k_ ∨ P1_14_ k_ ∨ P1_15_ k_ ∨ P1_16_ k_) ∨ w.heap.size ≤ k_) ∧ k_ ≠ gb152)) (by (with_reducible repeat (first | apply Kd.V_alloc | apply Kd.V_drewN | apply Kd.V_drew)); exact HO173.out) hg hat); have n10_ := Aside0.mk (hb); have n11_ := Aside0.mk (ho); clear HO_0; clear HO_153014; clear HO_153015; clear HO_153016; clear BK152; clear HL153_14; clear HL153_15; clear HL153_16; clear HO162; clear HO173; clear HB; clear HO168; have HO_0 := n0_; have HO_153014 := n1_; have HO_153015 := n2_; have HO_153016 := n3_; have BK152 := n4_; have HL153_14 := n5_; have HL153_15 := n6_; have HL153_16 := n7_; have HO162 := n8_; have HO173 := n9_; have HB := n10_; have HO176 := n11_; clear n0_ n1_ n2_ n3_ n4_ n5_ n6_ n7_ n8_ n9_ n10_ n11_; clear ho hb hg hat))
                    go_ret
                    exact ⟨_, by first | rfl | (simp [errW_none, errW_some] <;> rfl) | (simp [*, errW_none, errW_some] <;> rfl), by (with_reducible repeat (first | apply Kd.N_alloc | apply Kd.N_drewN | apply Kd.N_drew)); exact Kd.N_mono HO176.out (fun _ hk => hk.1), by repeat (first | (with_reducible first | exact HB.out | apply below_alloc | apply pw_below_drewN | apply below_drew1 | refine below_set ?_ GE152.out) | exact HB.out)⟩
                  · rw [if_neg c16] at H
                    exact absurd H (by simp)
                · rw [if_neg c13] at H
                  exact absurd H (by simp)
              · rw [if_neg c12] at H
                exact absurd H (by simp)
            · rw [if_neg c11] at H
              exact absurd H (by simp)
        · rw [if_neg c5] at H
          exact absurd H (by simp)
      · rw [if_neg c4] at H
        have c4b0 : decide (x5_1 < (l0.length : Int)) = false := decide_eq_false c4
        clear c4
        obtain ⟨y177, hy177⟩ : ∃ y_ : List (S39), y_ = (([] : List (S39))) := ⟨_, rfl⟩
        replace H : (if 0 ≤ x5_1 then (if x5_1 ≤ (l0.length : Int) then ((some (l0.take (x5_1 : Int).toNat : List (S39))).bind fun y180 => (if y177.length + y180.length < 879609302220 then ((some (y177 ++ y180 : List (S39))).bind fun y185 => (if y185.length < 879609302220 then ((some (y185 ++ [(⟨(⟨(⟨a1_0, a1_1⟩ : S24), a1_2, a1_3⟩ : S34), (⟨a1_4, a1_5⟩ : S24), a1_6, a1_7, (⟨a1_8, a1_9⟩ : S24), a1_10, a1_11, a1_12, (⟨a1_13, l1_14, l1_15, l1_16⟩ : S37)⟩ : S39)] : List (S39))).bind fun y188 => ((some (l0.drop (x5_1 : Int).toNat : List (S39))).bind fun y191 => (if y188.length + y191.length < 879609302220 then (some (y188 ++ y191)) else (none)))) else (none))) else (none))) else (none)) else (none)) = some r := by first | (rw [hy177]; with_reducible exact H) | (have H2_ := (Option.bind_some _ _).symm.trans H; rw [hy177]; with_reducible exact H2_) | (have H2_ := (Option.bind_some _ _).symm.trans H; with_reducible exact H2_) | with_reducible exact H | (rw [hy177]; exact H) | exact H
        have Ny177 := Aside0.mk hy177
        clear hy177
        by_cases c27 : 0 ≤ x5_1
        · rw [if_pos c27] at H
          have c27b0 := eq_true c27
          have c27b1 : decide (0 ≤ x5_1) = true := decide_eq_true c27
          clear c27
          by_cases c28 : x5_1 ≤ (l0.length : Int)
          · rw [if_pos c28] at H
            have c28b0 := eq_true c28
            have c28b1 : decide (x5_1 ≤ (l0.length : Int)) = true := decide_eq_true c28
            clear c28
            obtain ⟨y180, hy180⟩ : ∃ y_ : List (S39), y_ = (l0.take (x5_1 : Int).toNat) := ⟨_, rfl⟩
            replace H : (if y177.length + y180.length < 879609302220 then ((some (y177 ++ y180 : List (S39))).bind fun y185 => (if y185.length < 879609302220 then ((some (y185 ++ [(⟨(⟨(⟨a1_0, a1_1⟩ : S24), a1_2, a1_3⟩ : S34), (⟨a1_4, a1_5⟩ : S24), a1_6, a1_7, (⟨a1_8, a1_9⟩ : S24), a1_10, a1_11, a1_12, (⟨a1_13, l1_14, l1_15, l1_16⟩ : S37)⟩ : S39)] : List (S39))).bind fun y188 => ((some (l0.drop (x5_1 : Int).toNat : List (S39))).bind fun y191 => (if y188.length + y191.length < 879609302220 then (some (y188 ++ y191)) else (none)))) else (none))) else (none)) = some r := by first | (rw [hy180]; with_reducible exact H) | (have H2_ := (Option.bind_some _ _).symm.trans H; rw [hy180]; with_reducible exact H2_) | (have H2_ := (Option.bind_some _ _).symm.trans H; with_reducible exact H2_) | with_reducible exact H | (rw [hy180]; exact H) | exact H
            have Ny180 := Aside0.mk hy180
            clear hy180
            by_cases c29 : y177.length + y180.length < 879609302220
            · rw [if_pos c29] at H
              have LMc29 := Aside0.mk c29
              clear c29
              obtain ⟨y185, hy185⟩ : ∃ y_ : List (S39), y_ = (y177 ++ y180) := ⟨_, rfl⟩
              replace H : (if y185.length < 879609302220 then ((some (y185 ++ [(⟨(⟨(⟨a1_0, a1_1⟩ : S24), a1_2, a1_3⟩ : S34), (⟨a1_4, a1_5⟩ : S24), a1_6, a1_7, (⟨a1_8, a1_9⟩ : S24), a1_10, a1_11, a1_12, (⟨a1_13, l1_14, l1_15, l1_16⟩ : S37)⟩ : S39)] : List (S39))).bind fun y188 => ((some (l0.drop (x5_1 : Int).toNat : List (S39))).bind fun y191 => (if y188.length + y191.length < 879609302220 then (some (y188 ++ y191)) else (none)))) else (none)) = some r := by first | (rw [hy185]; with_reducible exact H) | (have H2_ := (Option.bind_some _ _).symm.trans H; rw [hy185]; with_reducible exact H2_) | (have H2_ := (Option.bind_some _ _).symm.trans H; with_reducible exact H2_) | with_reducible exact H | (rw [hy185]; exact H) | exact H
              have Ny185 := Aside0.mk hy185
              clear hy185
              by_cases c30 : y185.length < 879609302220
              · rw [if_pos c30] at H
                have LMc30 := Aside0.mk c30
                clear c30
                obtain ⟨y188, hy188⟩ : ∃ y_ : List (S39), y_ = (y185 ++ [(⟨(⟨(⟨a1_0, a1_1⟩ : S24), a1_2, a1_3⟩ : S34), (⟨a1_4, a1_5⟩ : S24), a1_6, a1_7, (⟨a1_8, a1_9⟩ : S24), a1_10, a1_11, a1_12, (⟨a1_13, l1_14, l1_15, l1_16⟩ : S37)⟩ : S39)]) := ⟨_, rfl⟩
                replace H : ((some (l0.drop (x5_1 : Int).toNat : List (S39))).bind fun y191 => (if y188.length + y191.length < 879609302220 then (some (y188 ++ y191)) else (none))) = some r := by first | (rw [hy188]; with_reducible exact H) | (have H2_ := (Option.bind_some _ _).symm.trans H; rw [hy188]; with_reducible exact H2_) | (have H2_ := (Option.bind_some _ _).symm.trans H; with_reducible exact H2_) | with_reducible exact H | (rw [hy188]; exact H) | exact H
                have Ny188 := Aside0.mk hy188
                clear hy188
                have c31b0 := eq_true (of_decide_eq_true (by first | (with_reducible assumption) | assumption) : 0 ≤ x5_1)
                have c32b0 := eq_true (of_decide_eq_true (by first | (with_reducible assumption) | assumption) : x5_1 ≤ (l0.length : Int))
                obtain ⟨y191, hy191⟩ : ∃ y_ : List (S39), y_ = (l0.drop (x5_1 : Int).toNat) := ⟨_, rfl⟩
                replace H : (if y188.length + y191.length < 879609302220 then (some (y188 ++ y191)) else (none)) = some r := by first | (rw [hy191]; with_reducible exact H) | (have H2_ := (Option.bind_some _ _).symm.trans H; rw [hy191]; with_reducible exact H2_) | (have H2_ := (Option.bind_some _ _).symm.trans H; with_reducible exact H2_) | with_reducible exact H | (rw [hy191]; exact H) | exact H
                have Ny191 := Aside0.mk hy191
                clear hy191
                by_cases c33 : y188.length + y191.length < 879609302220
                · rw [if_pos c33] at H
                  have LMc33 := Aside0.mk c33
                  clear c33
                  obtain ⟨y196, hy196⟩ : ∃ y_ : List (S39), y_ = (y188 ++ y191) := ⟨_, rfl⟩
                  replace H : (some y196) = some r := by first | (rw [hy196]; with_reducible exact H) | (have H2_ := (Option.bind_some _ _).symm.trans H; rw [hy196]; with_reducible exact H2_) | (have H2_ := (Option.bind_some _ _).symm.trans H; with_reducible exact H2_) | with_reducible exact H | (rw [hy196]; exact H) | exact H
                  have Ny196 := Aside0.mk hy196
                  clear hy196
                  obtain rfl := Option.some.inj H
                  try go_wp2
                  have n0_ := Aside0.mk (Kd.V_drew HO_0.out)
                  have n1_ := Aside0.mk (Kd.V_drew HO_153014.out)
                  have n2_ := Aside0.mk (Kd.V_drew HO_153015.out)
                  have n3_ := Aside0.mk (Kd.V_drew HO_153016.out)
                  have n4_ := Aside0.mk (blk_drew BK152.out)
                  have n5_ := Aside0.mk (below_drew1 HB.out)
                  clear HO_0
                  clear HO_153014
                  clear HO_153015
                  clear HO_153016
                  clear BK152
                  clear HB
                  have HO_0 := n0_
                  have HO_153014 := n1_
                  have HO_153015 := n2_
                  have HO_153016 := n3_
                  have BK152 := n4_
                  have HB := n5_
                  clear n0_ n1_ n2_ n3_ n4_ n5_
                  refine start_ (n := 15) (S := fun w' => True) (ds := []) #[false, false, false, false, false, false, false, false, false, false, false, false, false, false, false] (by kernel_rfl) rfl rfl trivial (fun hHeld => ?_); refine with_tabW forepeakref26_With.tab2 forepeakref26_With.bits2 (fun HT_ HW_ => ?_)
                  generalize wr.drew = w34 at HO_0 HO_153014 HO_153015 HO_153016 BK152 HB hHeld ⊢
                  refine pure_ (i := 0) (N := some 7) (v := ?_) (a' := ?_) #[true, false, false, false, false, false, false, false, false, false, false, false, false, false, false] rfl rfl (any_of HT_.out (by kernel_rfl)) (fun _ _ _ h => h) (Or.inl ⟨by rfl, ?_⟩) ?_ ?_
                  rotate_left
                  · intro w'
                    go_simp
                    with_reducible rfl
                  rotate_left
                  · simp only [Act.put, List.setIfInBounds_toArray, List.set_cons_zero, List.set_cons_succ, i64_w, i32_w]
                    rfl
                  refine pure_ (i := 1) (N := some 8) (v := ?_) (a' := ?_) #[true, true, false, false, false, false, false, false, false, false, false, false, false, false, false] rfl rfl (any_of HT_.out (by kernel_rfl)) (fun _ _ _ h => h) (Or.inl ⟨by rfl, ?_⟩) ?_ ?_
                  rotate_left
                  · intro w'
                    go_simp
                    with_reducible rfl
                  rotate_left
                  · simp only [Act.put, List.setIfInBounds_toArray, List.set_cons_zero, List.set_cons_succ, i64_w, i32_w]
                    rfl
                  refine pure_ (i := 2) (N := some 9) (v := ?_) (a' := ?_) #[true, true, true, false, false, false, false, false, false, false, false, false, false, false, false] rfl rfl (any_of HT_.out (by kernel_rfl)) (fun _ _ _ h => h) (Or.inl ⟨by rfl, ?_⟩) ?_ ?_
                  rotate_left
                  · intro w'
                    go_simp
                    with_reducible rfl
                  rotate_left
                  · simp only [Act.put, List.setIfInBounds_toArray, List.set_cons_zero, List.set_cons_succ, i64_w, i32_w]
                    rfl
                  refine pure_ (i := 3) (N := some 10) (v := ?_) (a' := ?_) #[true, true, true, true, false, false, false, false, false, false, false, false, false, false, false] rfl rfl (any_of HT_.out (by kernel_rfl)) (fun _ _ _ h => h) (Or.inl ⟨by rfl, ?_⟩) ?_ ?_
                  rotate_left
                  · intro w'
                    go_simp
                    with_reducible rfl
                  rotate_left
                  · simp only [Act.put, List.setIfInBounds_toArray, List.set_cons_zero, List.set_cons_succ, i64_w, i32_w]
                    rfl
                  refine pure_ (i := 4) (N := some 11) (v := ?_) (a' := ?_) #[true, true, true, true, true, false, false, false, false, false, false, false, false, false, false] rfl rfl (any_of HT_.out (by kernel_rfl)) (fun _ _ _ h => h) (Or.inl ⟨by rfl, ?_⟩) ?_ ?_
                  rotate_left
                  · intro w'
                    go_simp
                    with_reducible rfl
                  rotate_left
                  · simp only [Act.put, List.setIfInBounds_toArray, List.set_cons_zero, List.set_cons_succ, i64_w, i32_w]
                    rfl
                  refine pure_ (i := 5) (N := some 12) (v := undef) (a' := ?_) #[true, true, true, true, true, true, false, false, false, false, false, false, false, false, false] rfl rfl (any_of HT_.out (by kernel_rfl)) (fun _ _ _ h => h) (Or.inr ⟨by rfl, rfl⟩) ?_ ?_
                  rotate_left
                  · simp only [Act.put, List.setIfInBounds_toArray, List.set_cons_zero, List.set_cons_succ, i64_w, i32_w]
                    rfl
                  refine pure_ (i := 6) (N := some 13) (v := undef) (a' := ?_) #[true, true, true, true, true, true, true, false, false, false, false, false, false, false, false] rfl rfl (any_of HT_.out (by kernel_rfl)) (fun _ _ _ h => h) (Or.inr ⟨by rfl, rfl⟩) ?_ ?_
                  rotate_left
                  · simp only [Act.put, List.setIfInBounds_toArray, List.set_cons_zero, List.set_cons_succ, i64_w, i32_w]
                    rfl
                  refine pure_ (i := 7) (N := some 14) (v := undef) (a' := ?_) #[true, true, true, true, true, true, true, true, false, false, false, false, false, false, false] rfl rfl (any_of HT_.out (by kernel_rfl)) (fun _ _ _ h => h) (Or.inr ⟨by rfl, rfl⟩) ?_ ?_
                  rotate_left
                  · simp only [Act.put, List.setIfInBounds_toArray, List.set_cons_zero, List.set_cons_succ, i64_w, i32_w]
                    rfl
                  refine pure_ (i := 8) (N := some 15) (v := undef) (a' := ?_) #[true, true, true, true, true, true, true, true, true, false, false, false, false, false, false] rfl rfl (any_of HT_.out (by kernel_rfl)) (fun _ _ _ h => h) (Or.inr ⟨by rfl, rfl⟩) ?_ ?_
                  rotate_left
                  · simp only [Act.put, List.setIfInBounds_toArray, List.set_cons_zero, List.set_cons_succ, i64_w, i32_w]
                    rfl
                  refine pure_ (i := 9) (N := some 16) (v := undef) (a' := ?_) #[true, true, true, true, true, true, true, true, true, true, false, false, false, false, false] rfl rfl (any_of HT_.out (by kernel_rfl)) (fun _ _ _ h => h) (Or.inr ⟨by rfl, rfl⟩) ?_ ?_
                  rotate_left
                  · simp only [Act.put, List.setIfInBounds_toArray, List.set_cons_zero, List.set_cons_succ, i64_w, i32_w]
                    rfl
                  refine pure_ (i := 10) (N := some 17) (v := undef) (a' := ?_) #[true, true, true, true, true, true, true, true, true, true, true, false, false, false, false] rfl rfl (any_of HT_.out (by kernel_rfl)) (fun _ _ _ h => h) (Or.inr ⟨by rfl, rfl⟩) ?_ ?_
                  rotate_left
                  · simp only [Act.put, List.setIfInBounds_toArray, List.set_cons_zero, List.set_cons_succ, i64_w, i32_w]
                    rfl
                  refine pure_ (i := 11) (N := some 18) (v := undef) (a' := ?_) #[true, true, true, true, true, true, true, true, true, true, true, true, false, false, false] rfl rfl (any_of HT_.out (by kernel_rfl)) (fun _ _ _ h => h) (Or.inr ⟨by rfl, rfl⟩) ?_ ?_
                  rotate_left
                  · simp only [Act.put, List.setIfInBounds_toArray, List.set_cons_zero, List.set_cons_succ, i64_w, i32_w]
                    rfl
                  refine pure_ (i := 12) (N := some 19) (v := undef) (a' := ?_) #[true, true, true, true, true, true, true, true, true, true, true, true, true, false, false] rfl rfl (any_of HT_.out (by kernel_rfl)) (fun _ _ _ h => h) (Or.inr ⟨by rfl, rfl⟩) ?_ ?_
                  rotate_left
                  · simp only [Act.put, List.setIfInBounds_toArray, List.set_cons_zero, List.set_cons_succ, i64_w, i32_w]
                    rfl
                  refine pure_ (i := 13) (N := some 20) (v := undef) (a' := ?_) #[true, true, true, true, true, true, true, true, true, true, true, true, true, true, false] rfl rfl (any_of HT_.out (by kernel_rfl)) (fun _ _ _ h => h) (Or.inr ⟨by rfl, rfl⟩) ?_ ?_
                  rotate_left
                  · simp only [Act.put, List.setIfInBounds_toArray, List.set_cons_zero, List.set_cons_succ, i64_w, i32_w]
                    rfl
                  refine pure_ (i := 14) (N := some 21) (v := ?_) (a' := ?_) #[true, true, true, true, true, true, true, true, true, true, true, true, true, true, true] rfl rfl (any_of HT_.out (by kernel_rfl)) (fun _ _ _ h => h) (Or.inl ⟨by rfl, ?_⟩) ?_ ?_
                  rotate_left
                  · intro w'
                    go_simp
                    with_reducible rfl
                  rotate_left
                  · simp only [Act.put, List.setIfInBounds_toArray, List.set_cons_zero, List.set_cons_succ, i64_w, i32_w]
                    rfl
                  refine done_ (done_of HT_.out (by kernel_rfl)) ?_
                  try go_wp2_with (first | ((with_reducible refine gate_dst (N := 24) rfl ?_); refine Kd.N_lit k39 _ 39 ?hg (N' := 24) ?hd (xs := ([] : List (S39))) (inner := []) (ok := (fun k_ => ((P0_ k_ ∨ P1_14_ k_ ∨ P1_15_ k_ ∨ P1_16_ k_) ∨ w.heap.size ≤ k_) ∧ k_ ≠ gb152)) (okp := (fun k_ => ((P0_ k_ ∨ P1_14_ k_ ∨ P1_15_ k_ ∨ P1_16_ k_) ∨ w.heap.size ≤ k_) ∧ k_ ≠ gb152)) ?hr ?hp (fun _ hk => hk) ((show ∀ k_, w34.heap.size ≤ k_ → (fun k_ => ((P0_ k_ ∨ P1_14_ k_ ∨ P1_15_ k_ ∨ P1_16_ k_) ∨ w.heap.size ≤ k_) ∧ k_ ≠ gb152) k_ from fun k_ hk => ⟨(.inr (Nat.le_trans (below_size (by repeat (first | (with_reducible first | exact HB.out | apply below_alloc | apply pw_below_drewN | apply below_drew1 | refine below_set ?_ GE152.out) | exact HB.out))) hk)), Kd.freshB (g := gb152) (o := .cells #[.int .u16 a1_0, .int .u16 a1_1, .int .i64 a1_2, .int .i64 a1_3, .int .u16 a1_4, .int .u16 a1_5, .int .i64 a1_6, .bool a1_7, .int .u16 a1_8, .int .u16 a1_9, .int .i64 a1_10, .string a1_11, .bool a1_12, .int .i64 a1_13, .slice A1_14 l1_14.length c1_14, .slice A1_15 l1_15.length c1_15, .slice A1_16 l1_16.length c1_16] 39 (0, 0)) (by (with_reducible repeat (first | refine blk_drewN ?_ _ | refine blk_drew ?_ | refine blk_alloc ?_ _)); exact BK152.out) k_ hk⟩) _ (Nat.le_refl _)) (Below.refl _ _) (Nat.le_refl _) (by simp) ?_; (case hd => rfl); (case hg => rfl); (case hr => first | (go_simp; done) | (go_simp; rfl)); (case hp => exact (Reps.none _ _)); intro v178 w35 ho36 hb hg_ hnew_; clear hg_ hnew_; (first | rw [← Ny177.out] at ho36 | (simp only [Int.reduceToNat] at ho36; rw [← Ny177.out] at ho36)); have n0_ := Aside0.mk (Kd.V_elder' (by (with_reducible repeat (first | apply Kd.V_alloc | apply Kd.V_drewN | apply Kd.V_drew)); exact HO_0.out) (Kd.N_base ho36) hb); have n1_ := Aside0.mk (Kd.V_elder' (by (with_reducible repeat (first | apply Kd.V_alloc | apply Kd.V_drewN | apply Kd.V_drew)); exact HO_153014.out) (Kd.N_base ho36) hb); have n2_ := Aside0.mk (Kd.V_elder' (by (with_reducible repeat (first | apply Kd.V_alloc | apply Kd.V_drewN | apply Kd.V_drew)); exact HO_153015.out) (Kd.N_base ho36) hb); have n3_ := Aside0.mk (Kd.V_elder' (by (with_reducible repeat (first | apply Kd.V_alloc | apply Kd.V_drewN | apply Kd.V_drew)); exact HO_153016.out) (Kd.N_base ho36) hb); have n4_ := Aside0.mk (Kd.N_lower ho36 (below_size (by repeat (first | (with_reducible first | exact HB.out | apply below_alloc | apply pw_below_drewN | apply below_drew1 | refine below_set ?_ GE152.out) | exact HB.out)))); have n5_ := Aside0.mk (blk_below (g := gb152) (o := .cells #[.int .u16 a1_0, .int .u16 a1_1, .int .i64 a1_2, .int .i64 a1_3, .int .u16 a1_4, .int .u16 a1_5, .int .i64 a1_6, .bool a1_7, .int .u16 a1_8, .int .u16 a1_9, .int .i64 a1_10, .string a1_11, .bool a1_12, .int .i64 a1_13, .slice A1_14 l1_14.length c1_14, .slice A1_15 l1_15.length c1_15, .slice A1_16 l1_16.length c1_16] 39 (0, 0)) (by (with_reducible repeat (first | refine blk_drewN ?_ _ | refine blk_drew ?_ | refine blk_alloc ?_ _)); exact BK152.out) hb); have n6_ := Aside0.mk (below_step (by repeat (first | (with_reducible first | exact HB.out | apply below_alloc | apply pw_below_drewN | apply below_drew1 | refine below_set ?_ GE152.out) | exact HB.out)) hb); clear HO_0; clear HO_153014; clear HO_153015; clear HO_153016; clear BK152; clear HB; have HO_0 := n0_; have HO_153014 := n1_; have HO_153015 := n2_; have HO_153016 := n3_; have HO179 := n4_; have BK152 := n5_; have HB := n6_; clear n0_ n1_ n2_ n3_ n4_ n5_ n6_; clear hb ho36; have q37 : (x5_1 : Int) ≤ ((l0.length : Int) : Int) := of_decide_eq_true (by first | (with_reducible assumption) | assumption); obtain ⟨i037, hi037, _, hsz37, _⟩ := info_parts info39; have hroom37 : l0.length ≤ c0 := (Kd.V_reads' HO_0.out).2.1; have hC37 : Kd.F k39 _ _ A0 l0.length l0 := (Kd.V_at (base := w.heap.size) HO_0.out).2.2; have hcut37 := cut_to (P := Try.prog) 29 39 .i64 Try.underlying29 hi037 A0 l0.length c0 x5_1 (of_decide_eq_true (by first | (with_reducible assumption) | assumption)) q37 hroom37; have hr37 := Kd.F_take (m := (x5_1 : Int).toNat) hC37 (by omega); have hy37 : y180.length = (x5_1 : Int).toNat := (by rw [Ny180.out, List.length_take]; omega); rw [← Ny180.out] at hr37; rw [← hy37] at hcut37; have HO184 := Aside0.mk (show Kd.V k39 39 _ w.heap.size _ (.slice A0 y180.length c0) y180 from Kd.V_mk (by omega) hr37); have HC184 := Aside0.mk (show y180.length ≤ c0 from by omega); clear hr37 hC37 hroom37 hi037 hsz37; have KY37 := Aside0.mk hy37; clear hy37; replace q37 := eq_true q37) | ((with_reducible refine gate_builtin (b := .append) (xs := #[.tmp 24, .tmp 27]) rfl ?_); at_builtin; refine Kd.N_append_rows k39 (w0 := w) w.heap.size rfl (.tmp 24) (.tmp 27) 29 39 (.agg #[(.int .u16 0), (.int .u16 0), (.int .i64 0), (.int .i64 0), (.int .u16 0), (.int .u16 0), (.int .i64 0), (.bool false), (.int .u16 0), (.int .u16 0), (.int .i64 0), (.string ⟨#[]⟩), (.bool false), (.int .i64 0), (.slice none 0 0), (.slice none 0 0), (.slice none 0 0)]) 160 rfl Try.underlying29 info39 rfl (by decide) (by omega) v178 y177 y180 _ _ _ (fun k_ => ((P0_ k_ ∨ P1_14_ k_ ∨ P1_15_ k_ ∨ P1_16_ k_) ∨ w.heap.size ≤ k_) ∧ k_ ≠ gb152) (fun k_ => ((fun k_ => ((P0_ k_ ∨ P1_14_ k_ ∨ P1_15_ k_ ∨ P1_16_ k_) ∨ w.heap.size ≤ k_) ∧ k_ ≠ gb152)) k_ ∧ some k_ ≠ (v178 : Value).ownBlock) rfl rfl ?aO ?aR (fun _ hk => hk) ?aF ?aB ?aS ?aL ?_; (case aR => exact (by skip; exact Kd.V_F (Kd.V_mono (ok' := (fun k_ => ((fun k_ => ((P0_ k_ ∨ P1_14_ k_ ∨ P1_15_ k_ ∨ P1_16_ k_) ∨ w.heap.size ≤ k_) ∧ k_ ≠ gb152)) k_ ∧ some k_ ≠ (v178 : Value).ownBlock)) (HO184.out) (fun k_ hk => ⟨⟨hk.1.1, hk.1.2⟩, hk.2⟩)))); (case aB => exact (by repeat (first | (with_reducible first | exact HB.out | apply below_alloc | apply pw_below_drewN | apply below_drew1 | refine below_set ?_ GE152.out) | exact HB.out))); (case aF => exact (fun k_ hk => ⟨(.inr (Nat.le_trans (below_size (by repeat (first | (with_reducible first | exact HB.out | apply below_alloc | apply pw_below_drewN | apply below_drew1 | refine below_set ?_ GE152.out) | exact HB.out))) hk)), Kd.freshB (g := gb152) (o := .cells #[.int .u16 a1_0, .int .u16 a1_1, .int .i64 a1_2, .int .i64 a1_3, .int .u16 a1_4, .int .u16 a1_5, .int .i64 a1_6, .bool a1_7, .int .u16 a1_8, .int .u16 a1_9, .int .i64 a1_10, .string a1_11, .bool a1_12, .int .i64 a1_13, .slice A1_14 l1_14.length c1_14, .slice A1_15 l1_15.length c1_15, .slice A1_16 l1_16.length c1_16] 39 (0, 0)) (by (with_reducible repeat (first | refine blk_drewN ?_ _ | refine blk_drew ?_ | refine blk_alloc ?_ _)); exact BK152.out) k_ hk⟩)); (case aO => exact (by (with_reducible repeat (first | apply Kd.N_alloc | apply Kd.N_drewN | apply Kd.N_drew)); exact HO179.out)); (case aS => exact (below_size (by repeat (first | (with_reducible first | exact HB.out | apply below_alloc | apply pw_below_drewN | apply below_drew1 | refine below_set ?_ GE152.out) | exact HB.out)))); (case aL => have := LMc29.out; omega); intro v186 w38 ho hb hg hat; rw [← Ny185.out] at ho; have n0_ := Aside0.mk (Kd.V_afterv (ok := (fun k_ => ((P0_ k_ ∨ P1_14_ k_ ∨ P1_15_ k_ ∨ P1_16_ k_) ∨ w.heap.size ≤ k_) ∧ k_ ≠ gb152)) (by (with_reducible repeat (first | apply Kd.V_alloc | apply Kd.V_drewN | apply Kd.V_drew)); exact HO_0.out) hg hat); have n1_ := Aside0.mk (Kd.V_afterv (ok := (fun k_ => ((P0_ k_ ∨ P1_14_ k_ ∨ P1_15_ k_ ∨ P1_16_ k_) ∨ w.heap.size ≤ k_) ∧ k_ ≠ gb152)) (by (with_reducible repeat (first | apply Kd.V_alloc | apply Kd.V_drewN | apply Kd.V_drew)); exact HO_153014.out) hg hat); have n2_ := Aside0.mk (Kd.V_afterv (ok := (fun k_ => ((P0_ k_ ∨ P1_14_ k_ ∨ P1_15_ k_ ∨ P1_16_ k_) ∨ w.heap.size ≤ k_) ∧ k_ ≠ gb152)) (by (with_reducible repeat (first | apply Kd.V_alloc | apply Kd.V_drewN | apply Kd.V_drew)); exact HO_153015.out) hg hat); have n3_ := Aside0.mk (Kd.V_afterv (ok := (fun k_ => ((P0_ k_ ∨ P1_14_ k_ ∨ P1_15_ k_ ∨ P1_16_ k_) ∨ w.heap.size ≤ k_) ∧ k_ ≠ gb152)) (by (with_reducible repeat (first | apply Kd.V_alloc | apply Kd.V_drewN | apply Kd.V_drew)); exact HO_153016.out) hg hat); have n4_ := Aside0.mk (blk_grown (g := gb152) (o := .cells #[.int .u16 a1_0, .int .u16 a1_1, .int .i64 a1_2, .int .i64 a1_3, .int .u16 a1_4, .int .u16 a1_5, .int .i64 a1_6, .bool a1_7, .int .u16 a1_8, .int .u16 a1_9, .int .i64 a1_10, .string a1_11, .bool a1_12, .int .i64 a1_13, .slice A1_14 l1_14.length c1_14, .slice A1_15 l1_15.length c1_15, .slice A1_16 l1_16.length c1_16] 39 (0, 0)) (by (with_reducible repeat (first | refine blk_drewN ?_ _ | refine blk_drew ?_ | refine blk_alloc ?_ _)); exact BK152.out) hg (Kd.N_away HO179.out (fun _ hk => hk.2))); have n5_ := Aside0.mk (Kd.V_afterv (ok := (fun k_ => ((P0_ k_ ∨ P1_14_ k_ ∨ P1_15_ k_ ∨ P1_16_ k_) ∨ w.heap.size ≤ k_) ∧ k_ ≠ gb152)) (by (with_reducible repeat (first | apply Kd.V_alloc | apply Kd.V_drewN | apply Kd.V_drew)); exact HO184.out) hg hat); have n6_ := Aside0.mk (hb); have n7_ := Aside0.mk (ho); clear HO_0; clear HO_153014; clear HO_153015; clear HO_153016; clear BK152; clear HO184; clear HB; clear HO179; have HO_0 := n0_; have HO_153014 := n1_; have HO_153015 := n2_; have HO_153016 := n3_; have BK152 := n4_; have HO184 := n5_; have HB := n6_; have HO187 := n7_; clear n0_ n1_ n2_ n3_ n4_ n5_ n6_ n7_; clear ho hb hg hat; have hcz39_0 : w38.cell? ⟨gb152, 0, none⟩ = some (.int .u16 a1_0) := (blk_cell BK152.out 0).trans rfl; have hcz39_1 : w38.cell? ⟨gb152, 1, none⟩ = some (.int .u16 a1_1) := (blk_cell BK152.out 1).trans rfl; have hcz39_2 : w38.cell? ⟨gb152, 2, none⟩ = some (.int .i64 a1_2) := (blk_cell BK152.out 2).trans rfl; have hcz39_3 : w38.cell? ⟨gb152, 3, none⟩ = some (.int .i64 a1_3) := (blk_cell BK152.out 3).trans rfl; have hcz39_4 : w38.cell? ⟨gb152, 4, none⟩ = some (.int .u16 a1_4) := (blk_cell BK152.out 4).trans rfl; have hcz39_5 : w38.cell? ⟨gb152, 5, none⟩ = some (.int .u16 a1_5) := (blk_cell BK152.out 5).trans rfl; have hcz39_6 : w38.cell? ⟨gb152, 6, none⟩ = some (.int .i64 a1_6) := (blk_cell BK152.out 6).trans rfl; have hcz39_7 : w38.cell? ⟨gb152, 7, none⟩ = some (.bool a1_7) := (blk_cell BK152.out 7).trans rfl; have hcz39_8 : w38.cell? ⟨gb152, 8, none⟩ = some (.int .u16 a1_8) := (blk_cell BK152.out 8).trans rfl; have hcz39_9 : w38.cell? ⟨gb152, 9, none⟩ = some (.int .u16 a1_9) := (blk_cell BK152.out 9).trans rfl; have hcz39_10 : w38.cell? ⟨gb152, 10, none⟩ = some (.int .i64 a1_10) := (blk_cell BK152.out 10).trans rfl; have hcz39_11 : w38.cell? ⟨gb152, 11, none⟩ = some (.string a1_11) := (blk_cell BK152.out 11).trans rfl; have hcz39_12 : w38.cell? ⟨gb152, 12, none⟩ = some (.bool a1_12) := (blk_cell BK152.out 12).trans rfl; have hcz39_13 : w38.cell? ⟨gb152, 13, none⟩ = some (.int .i64 a1_13) := (blk_cell BK152.out 13).trans rfl; have hcz39_14 : w38.cell? ⟨gb152, 14, none⟩ = some (.slice A1_14 l1_14.length c1_14) := (blk_cell BK152.out 14).trans rfl; have hcz39_15 : w38.cell? ⟨gb152, 15, none⟩ = some (.slice A1_15 l1_15.length c1_15) := (blk_cell BK152.out 15).trans rfl; have hcz39_16 : w38.cell? ⟨gb152, 16, none⟩ = some (.slice A1_16 l1_16.length c1_16) := (blk_cell BK152.out 16).trans rfl; have hfz39_0 := blk_frozen BK152.out 0; have hfz39_1 := blk_frozen BK152.out 1; have hfz39_2 := blk_frozen BK152.out 2; have hfz39_3 := blk_frozen BK152.out 3; have hfz39_4 := blk_frozen BK152.out 4; have hfz39_5 := blk_frozen BK152.out 5; have hfz39_6 := blk_frozen BK152.out 6; have hfz39_7 := blk_frozen BK152.out 7; have hfz39_8 := blk_frozen BK152.out 8; have hfz39_9 := blk_frozen BK152.out 9; have hfz39_10 := blk_frozen BK152.out 10; have hfz39_11 := blk_frozen BK152.out 11; have hfz39_12 := blk_frozen BK152.out 12; have hfz39_13 := blk_frozen BK152.out 13; have hfz39_14 := blk_frozen BK152.out 14; have hfz39_15 := blk_frozen BK152.out 15; have hfz39_16 := blk_frozen BK152.out 16) | ((with_reducible refine gate_builtin (b := .append) (xs := #[.tmp 29, .tmp 31]) rfl ?_); at_builtin; refine Kd.N_append k39 (w0 := w) w.heap.size rfl (.tmp 29) (.tmp 31) 29 39 (.agg #[(.int .u16 0), (.int .u16 0), (.int .i64 0), (.int .i64 0), (.int .u16 0), (.int .u16 0), (.int .i64 0), (.bool false), (.int .u16 0), (.int .u16 0), (.int .i64 0), (.string ⟨#[]⟩), (.bool false), (.int .i64 0), (.slice none 0 0), (.slice none 0 0), (.slice none 0 0)]) 160 rfl Try.underlying29 info39 rfl (by decide) (by omega) v186 y185 (⟨(⟨(⟨a1_0, a1_1⟩ : S24), a1_2, a1_3⟩ : S34), (⟨a1_4, a1_5⟩ : S24), a1_6, a1_7, (⟨a1_8, a1_9⟩ : S24), a1_10, a1_11, a1_12, (⟨a1_13, l1_14, l1_15, l1_16⟩ : S37)⟩ : S39) [.int .u16 a1_0, .int .u16 a1_1, .int .i64 a1_2, .int .i64 a1_3, .int .u16 a1_4, .int .u16 a1_5, .int .i64 a1_6, .bool a1_7, .int .u16 a1_8, .int .u16 a1_9, .int .i64 a1_10, .string a1_11, .bool a1_12, .int .i64 a1_13, .slice A1_14 l1_14.length c1_14, .slice A1_15 l1_15.length c1_15, .slice A1_16 l1_16.length c1_16] (fun k_ => ((P0_ k_ ∨ P1_14_ k_ ∨ P1_15_ k_ ∨ P1_16_ k_) ∨ w.heap.size ≤ k_) ∧ k_ ≠ gb152) (fun k_ => ((fun k_ => ((P0_ k_ ∨ P1_14_ k_ ∨ P1_15_ k_ ∨ P1_16_ k_) ∨ w.heap.size ≤ k_) ∧ k_ ≠ gb152)) k_ ∧ some k_ ≠ (v186 : Value).ownBlock) rfl rfl ?aP (fun _ hk => hk) ?aF ?aO ?aB ?aS ?aL ?_; (case aP => exact (k39_mkF _ _ (⟨(⟨(⟨a1_0, a1_1⟩ : S24), a1_2, a1_3⟩ : S34), (⟨a1_4, a1_5⟩ : S24), a1_6, a1_7, (⟨a1_8, a1_9⟩ : S24), a1_10, a1_11, a1_12, (⟨a1_13, l1_14, l1_15, l1_16⟩ : S37)⟩ : S39) (Kd.V_reads' (Kd.V_mono (ok' := (fun k_ => ((fun k_ => ((P0_ k_ ∨ P1_14_ k_ ∨ P1_15_ k_ ∨ P1_16_ k_) ∨ w.heap.size ≤ k_) ∧ k_ ≠ gb152)) k_ ∧ some k_ ≠ (v186 : Value).ownBlock)) (HO_153014.out) (fun k_ hk => ⟨⟨hk.1.1, hk.1.2⟩, hk.2⟩))).2.1 (Kd.V_F (Kd.V_mono (ok' := (fun k_ => ((fun k_ => ((P0_ k_ ∨ P1_14_ k_ ∨ P1_15_ k_ ∨ P1_16_ k_) ∨ w.heap.size ≤ k_) ∧ k_ ≠ gb152)) k_ ∧ some k_ ≠ (v186 : Value).ownBlock)) (HO_153014.out) (fun k_ hk => ⟨⟨hk.1.1, hk.1.2⟩, hk.2⟩))) (Kd.V_reads' (Kd.V_mono (ok' := (fun k_ => ((fun k_ => ((P0_ k_ ∨ P1_14_ k_ ∨ P1_15_ k_ ∨ P1_16_ k_) ∨ w.heap.size ≤ k_) ∧ k_ ≠ gb152)) k_ ∧ some k_ ≠ (v186 : Value).ownBlock)) (HO_153015.out) (fun k_ hk => ⟨⟨hk.1.1, hk.1.2⟩, hk.2⟩))).2.1 (Kd.V_F (Kd.V_mono (ok' := (fun k_ => ((fun k_ => ((P0_ k_ ∨ P1_14_ k_ ∨ P1_15_ k_ ∨ P1_16_ k_) ∨ w.heap.size ≤ k_) ∧ k_ ≠ gb152)) k_ ∧ some k_ ≠ (v186 : Value).ownBlock)) (HO_153015.out) (fun k_ hk => ⟨⟨hk.1.1, hk.1.2⟩, hk.2⟩))) (Kd.V_reads' (Kd.V_mono (ok' := (fun k_ => ((fun k_ => ((P0_ k_ ∨ P1_14_ k_ ∨ P1_15_ k_ ∨ P1_16_ k_) ∨ w.heap.size ≤ k_) ∧ k_ ≠ gb152)) k_ ∧ some k_ ≠ (v186 : Value).ownBlock)) (HO_153016.out) (fun k_ hk => ⟨⟨hk.1.1, hk.1.2⟩, hk.2⟩))).2.1 (Kd.V_F (Kd.V_mono (ok' := (fun k_ => ((fun k_ => ((P0_ k_ ∨ P1_14_ k_ ∨ P1_15_ k_ ∨ P1_16_ k_) ∨ w.heap.size ≤ k_) ∧ k_ ≠ gb152)) k_ ∧ some k_ ≠ (v186 : Value).ownBlock)) (HO_153016.out) (fun k_ hk => ⟨⟨hk.1.1, hk.1.2⟩, hk.2⟩))))); (case aB => exact (by repeat (first | (with_reducible first | exact HB.out | apply below_alloc | apply pw_below_drewN | apply below_drew1 | refine below_set ?_ GE152.out) | exact HB.out))); (case aF => exact (fun k_ hk => ⟨(.inr (Nat.le_trans (below_size (by repeat (first | (with_reducible first | exact HB.out | apply below_alloc | apply pw_below_drewN | apply below_drew1 | refine below_set ?_ GE152.out) | exact HB.out))) hk)), Kd.freshB (g := gb152) (o := .cells #[.int .u16 a1_0, .int .u16 a1_1, .int .i64 a1_2, .int .i64 a1_3, .int .u16 a1_4, .int .u16 a1_5, .int .i64 a1_6, .bool a1_7, .int .u16 a1_8, .int .u16 a1_9, .int .i64 a1_10, .string a1_11, .bool a1_12, .int .i64 a1_13, .slice A1_14 l1_14.length c1_14, .slice A1_15 l1_15.length c1_15, .slice A1_16 l1_16.length c1_16] 39 (0, 0)) (by (with_reducible repeat (first | refine blk_drewN ?_ _ | refine blk_drew ?_ | refine blk_alloc ?_ _)); exact BK152.out) k_ hk⟩)); (case aO => exact (by (with_reducible repeat (first | apply Kd.N_alloc | apply Kd.N_drewN | apply Kd.N_drew)); exact HO187.out)); (case aS => exact (below_size (by repeat (first | (with_reducible first | exact HB.out | apply below_alloc | apply pw_below_drewN | apply below_drew1 | refine below_set ?_ GE152.out) | exact HB.out)))); (case aL => have := LMc30.out; omega); intro v189 w40 ho hb hg hat; rw [← Ny188.out] at ho; have n0_ := Aside0.mk (Kd.V_afterv (ok := (fun k_ => ((P0_ k_ ∨ P1_14_ k_ ∨ P1_15_ k_ ∨ P1_16_ k_) ∨ w.heap.size ≤ k_) ∧ k_ ≠ gb152)) (by (with_reducible repeat (first | apply Kd.V_alloc | apply Kd.V_drewN | apply Kd.V_drew)); exact HO_0.out) hg hat); have n1_ := Aside0.mk (Kd.V_afterv (ok := (fun k_ => ((P0_ k_ ∨ P1_14_ k_ ∨ P1_15_ k_ ∨ P1_16_ k_) ∨ w.heap.size ≤ k_) ∧ k_ ≠ gb152)) (by (with_reducible repeat (first | apply Kd.V_alloc | apply Kd.V_drewN | apply Kd.V_drew)); exact HO_153014.out) hg hat); have n2_ := Aside0.mk (Kd.V_afterv (ok := (fun k_ => ((P0_ k_ ∨ P1_14_ k_ ∨ P1_15_ k_ ∨ P1_16_ k_) ∨ w.heap.size ≤ k_) ∧ k_ ≠ gb152)) (by (with_reducible repeat (first | apply Kd.V_alloc | apply Kd.V_drewN | apply Kd.V_drew)); exact HO_153015.out) hg hat); have n3_ := Aside0.mk (Kd.V_afterv (ok := (fun k_ => ((P0_ k_ ∨ P1_14_ k_ ∨ P1_15_ k_ ∨ P1_16_ k_) ∨ w.heap.size ≤ k_) ∧ k_ ≠ gb152)) (by (with_reducible repeat (first | apply Kd.V_alloc | apply Kd.V_drewN | apply Kd.V_drew)); exact HO_153016.out) hg hat); have n4_ := Aside0.mk (blk_grown (g := gb152) (o := .cells #[.int .u16 a1_0, .int .u16 a1_1, .int .i64 a1_2, .int .i64 a1_3, .int .u16 a1_4, .int .u16 a1_5, .int .i64 a1_6, .bool a1_7, .int .u16 a1_8, .int .u16 a1_9, .int .i64 a1_10, .string a1_11, .bool a1_12, .int .i64 a1_13, .slice A1_14 l1_14.length c1_14, .slice A1_15 l1_15.length c1_15, .slice A1_16 l1_16.length c1_16] 39 (0, 0)) (by (with_reducible repeat (first | refine blk_drewN ?_ _ | refine blk_drew ?_ | refine blk_alloc ?_ _)); exact BK152.out) hg (Kd.N_away HO187.out (fun _ hk => hk.2))); have n5_ := Aside0.mk (Kd.V_afterv (ok := (fun k_ => ((P0_ k_ ∨ P1_14_ k_ ∨ P1_15_ k_ ∨ P1_16_ k_) ∨ w.heap.size ≤ k_) ∧ k_ ≠ gb152)) (by (with_reducible repeat (first | apply Kd.V_alloc | apply Kd.V_drewN | apply Kd.V_drew)); exact HO184.out) hg hat); have n6_ := Aside0.mk (hb); have n7_ := Aside0.mk (ho); clear HO_0; clear HO_153014; clear HO_153015; clear HO_153016; clear BK152; clear HO184; clear HB; clear HO187; have HO_0 := n0_; have HO_153014 := n1_; have HO_153015 := n2_; have HO_153016 := n3_; have BK152 := n4_; have HO184 := n5_; have HB := n6_; have HO190 := n7_; clear n0_ n1_ n2_ n3_ n4_ n5_ n6_ n7_; clear ho hb hg hat; have q41 : (x5_1 : Int) ≤ ((l0.length : Int) : Int) := of_decide_eq_true (by first | (with_reducible assumption) | assumption); obtain ⟨i041, hi041, _, hsz41, _⟩ := info_parts info39; have hroom41 : l0.length ≤ c0 := (Kd.V_reads' HO_0.out).2.1; have hC41 : Kd.F k39 _ _ A0 l0.length l0 := (Kd.V_at (base := w.heap.size) HO_0.out).2.2; have q041 : (0 : Int) ≤ (x5_1 : Int) := of_decide_eq_true (by first | (with_reducible assumption) | assumption); have hcut41 := cut_from (P := Try.prog) 29 39 .i64 Try.underlying29 hi041 17 hsz41 A0 l0.length c0 x5_1 q041 q41; have hr41 := Kd.F_cut (m := (x5_1 : Int).toNat) (c := c0) hC41 (by omega) hroom41; obtain ⟨A41, hA41⟩ : ∃ A1, A1 = (if c0 = (x5_1 : Int).toNat then A0 else (A0 : Option Addr).map (·.add ((x5_1 : Int).toNat * 17))) := ⟨_, rfl⟩; obtain ⟨c41, hc41⟩ : ∃ c1, c1 = c0 - (x5_1 : Int).toNat := ⟨_, rfl⟩; have hy41 : y191.length = l0.length - (x5_1 : Int).toNat := (by rw [Ny191.out, List.length_drop] <;> omega); rw [show (l0).drop (x5_1 : Int).toNat = y191 from Ny191.out.symm] at hr41; replace hr41 : Kd.F k39 _ _ A41 y191.length y191 := (by rw [hA41]; exact hr41); rw [← hy41, ← hA41, ← hc41] at hcut41; have HO195 := Aside0.mk (show Kd.V k39 39 _ w.heap.size _ (.slice A41 y191.length c41) y191 from Kd.V_mk (by rw [hy41, hc41]; exact Nat.sub_le_sub_right hroom41 _) hr41); have HC195 := Aside0.mk (show y191.length ≤ c41 from by rw [hy41, hc41]; exact Nat.sub_le_sub_right hroom41 _); clear hr41 hC41 hroom41 hi041 hsz41 hc41; have KY41 := Aside0.mk hy41; have KA41 := Aside0.mk hA41; clear hy41 hA41; replace q41 := eq_true q41) | ((with_reducible refine gate_builtin (b := .append) (xs := #[.tmp 33, .tmp 36]) rfl ?_); at_builtin; refine Kd.N_append_rows k39 (w0 := w) w.heap.size rfl (.tmp 33) (.tmp 36) 29 39 (.agg #[(.int .u16 0), (.int .u16 0), (.int .i64 0), (.int .i64 0), (.int .u16 0), (.int .u16 0), (.int .i64 0), (.bool false), (.int .u16 0), (.int .u16 0), (.int .i64 0), (.string ⟨#[]⟩), (.bool false), (.int .i64 0), (.slice none 0 0), (.slice none 0 0), (.slice none 0 0)]) 160 rfl Try.underlying29 info39 rfl (by decide) (by omega) v189 y188 y191 _ _ _ (fun k_ => ((P0_ k_ ∨ P1_14_ k_ ∨ P1_15_ k_ ∨ P1_16_ k_) ∨ w.heap.size ≤ k_) ∧ k_ ≠ gb152) (fun k_ => ((fun k_ => ((P0_ k_ ∨ P1_14_ k_ ∨ P1_15_ k_ ∨ P1_16_ k_) ∨ w.heap.size ≤ k_) ∧ k_ ≠ gb152)) k_ ∧ some k_ ≠ (v189 : Value).ownBlock) rfl rfl ?aO ?aR (fun _ hk => hk) ?aF ?aB ?aS ?aL ?_; (case aR => exact (by skip; exact Kd.V_F (Kd.V_mono (ok' := (fun k_ => ((fun k_ => ((P0_ k_ ∨ P1_14_ k_ ∨ P1_15_ k_ ∨ P1_16_ k_) ∨ w.heap.size ≤ k_) ∧ k_ ≠ gb152)) k_ ∧ some k_ ≠ (v189 : Value).ownBlock)) (HO195.out) (fun k_ hk => ⟨⟨hk.1.1, hk.1.2⟩, hk.2⟩)))); (case aB => exact (by repeat (first | (with_reducible first | exact HB.out | apply below_alloc | apply pw_below_drewN | apply below_drew1 | refine below_set ?_ GE152.out) | exact HB.out))); (case aF => exact (fun k_ hk => ⟨(.inr (Nat.le_trans (below_size (by repeat (first | (with_reducible first | exact HB.out | apply below_alloc | apply pw_below_drewN | apply below_drew1 | refine below_set ?_ GE152.out) | exact HB.out))) hk)), Kd.freshB (g := gb152) (o := .cells #[.int .u16 a1_0, .int .u16 a1_1, .int .i64 a1_2, .int .i64 a1_3, .int .u16 a1_4, .int .u16 a1_5, .int .i64 a1_6, .bool a1_7, .int .u16 a1_8, .int .u16 a1_9, .int .i64 a1_10, .string a1_11, .bool a1_12, .int .i64 a1_13, .slice A1_14 l1_14.length c1_14, .slice A1_15 l1_15.length c1_15, .slice A1_16 l1_16.length c1_16] 39 (0, 0)) (by (with_reducible repeat (first | refine blk_drewN ?_ _ | refine blk_drew ?_ | refine blk_alloc ?_ _)); exact BK152.out) k_ hk⟩)); (case aO => exact (by (with_reducible repeat (first | apply Kd.N_alloc | apply Kd.N_drewN | apply Kd.N_drew)); exact HO190.out)); (case aS => exact (below_size (by repeat (first | (with_reducible first | exact HB.out | apply below_alloc | apply pw_below_drewN | apply below_drew1 | refine below_set ?_ GE152.out) | exact HB.out)))); (case aL => have := LMc33.out; omega); intro v197 w42 ho hb hg hat; rw [← Ny196.out] at ho; have n0_ := Aside0.mk (Kd.V_afterv (ok := (fun k_ => ((P0_ k_ ∨ P1_14_ k_ ∨ P1_15_ k_ ∨ P1_16_ k_) ∨ w.heap.size ≤ k_) ∧ k_ ≠ gb152)) (by (with_reducible repeat (first | apply Kd.V_alloc | apply Kd.V_drewN | apply Kd.V_drew)); exact HO_0.out) hg hat); have n1_ := Aside0.mk (Kd.V_afterv (ok := (fun k_ => ((P0_ k_ ∨ P1_14_ k_ ∨ P1_15_ k_ ∨ P1_16_ k_) ∨ w.heap.size ≤ k_) ∧ k_ ≠ gb152)) (by (with_reducible repeat (first | apply Kd.V_alloc | apply Kd.V_drewN | apply Kd.V_drew)); exact HO_153014.out) hg hat); have n2_ := Aside0.mk (Kd.V_afterv (ok := (fun k_ => ((P0_ k_ ∨ P1_14_ k_ ∨ P1_15_ k_ ∨ P1_16_ k_) ∨ w.heap.size ≤ k_) ∧ k_ ≠ gb152)) (by (with_reducible repeat (first | apply Kd.V_alloc | apply Kd.V_drewN | apply Kd.V_drew)); exact HO_153015.out) hg hat); have n3_ := Aside0.mk (Kd.V_afterv (ok := (fun k_ => ((P0_ k_ ∨ P1_14_ k_ ∨ P1_15_ k_ ∨ P1_16_ k_) ∨ w.heap.size ≤ k_) ∧ k_ ≠ gb152)) (by (with_reducible repeat (first | apply Kd.V_alloc | apply Kd.V_drewN | apply Kd.V_drew)); exact HO_153016.out) hg hat); have n4_ := Aside0.mk (blk_grown (g := gb152) (o := .cells #[.int .u16 a1_0, .int .u16 a1_1, .int .i64 a1_2, .int .i64 a1_3, .int .u16 a1_4, .int .u16 a1_5, .int .i64 a1_6, .bool a1_7, .int .u16 a1_8, .int .u16 a1_9, .int .i64 a1_10, .string a1_11, .bool a1_12, .int .i64 a1_13, .slice A1_14 l1_14.length c1_14, .slice A1_15 l1_15.length c1_15, .slice A1_16 l1_16.length c1_16] 39 (0, 0)) (by (with_reducible repeat (first | refine blk_drewN ?_ _ | refine blk_drew ?_ | refine blk_alloc ?_ _)); exact BK152.out) hg (Kd.N_away HO190.out (fun _ hk => hk.2))); have n5_ := Aside0.mk (Kd.V_afterv (ok := (fun k_ => ((P0_ k_ ∨ P1_14_ k_ ∨ P1_15_ k_ ∨ P1_16_ k_) ∨ w.heap.size ≤ k_) ∧ k_ ≠ gb152)) (by (with_reducible repeat (first | apply Kd.V_alloc | apply Kd.V_drewN | apply Kd.V_drew)); exact HO184.out) hg hat); have n6_ := Aside0.mk (Kd.V_afterv (ok := (fun k_ => ((P0_ k_ ∨ P1_14_ k_ ∨ P1_15_ k_ ∨ P1_16_ k_) ∨ w.heap.size ≤ k_) ∧ k_ ≠ gb152)) (by (with_reducible repeat (first | apply Kd.V_alloc | apply Kd.V_drewN | apply Kd.V_drew)); exact HO195.out) hg hat); have n7_ := Aside0.mk (hb); have n8_ := Aside0.mk (ho); clear HO_0; clear HO_153014; clear HO_153015; clear HO_153016; clear BK152; clear HO184; clear HO195; clear HB; clear HO190; have HO_0 := n0_; have HO_153014 := n1_; have HO_153015 := n2_; have HO_153016 := n3_; have BK152 := n4_; have HO184 := n5_; have HO195 := n6_; have HB := n7_; have HO198 := n8_; clear n0_ n1_ n2_ n3_ n4_ n5_ n6_ n7_ n8_; clear ho hb hg hat))
                  go_ret
                  exact ⟨_, by first | rfl | (simp [errW_none, errW_some] <;> rfl) | (simp [*, errW_none, errW_some] <;> rfl), by (with_reducible repeat (first | apply Kd.N_alloc | apply Kd.N_drewN | apply Kd.N_drew)); exact Kd.N_mono HO198.out (fun _ hk => hk.1), by repeat (first | (with_reducible first | exact HB.out | apply below_alloc | apply pw_below_drewN | apply below_drew1 | refine below_set ?_ GE152.out) | exact HB.out)⟩
                · rw [if_neg c33] at H
                  exact absurd H (by simp)
              · rw [if_neg c30] at H
                exact absurd H (by simp)
            · rw [if_neg c29] at H
              exact absurd H (by simp)
          · rw [if_neg c28] at H
            exact absurd H (by simp)
        · rw [if_neg c27] at H
          exact absurd H (by simp)

end Go.Proofs.Ytaapejhoegeimaa.PPartPlays
