/- Words and contracts of the reference's functions, begun as a print and cut down to what this claim reaches. No conditions. -/
import Derived.Test.YtaapejhoegeimaaVPPartPlays0
import Derived.Test.YtaapejhoegeimaaVPPartPlays1
import Derived.Test.YtaapejhoegeimaaVPPartPlays4
import Derived.Test.YtaapejhoegeimaaVPPartPlays5
import Derived.Test.YtaapejhoegeimaaVPPartPlays7
namespace Go.Proofs.Ytaapejhoegeimaa.PPartPlays
open Go.RowKit Go.Proofs.YtaapejhoegeimaaW.PrintWords Go.Proofs.YtaapejhoegeimaaW.PrintLast Go.Proofs.YtaapejhoegeimaaW.PrintMore
attribute [local go_sem] max2_int min2_int max_two min_two max_three min_three max_four min_four   -- for this text's walks alone
set_option linter.unusedVariables false
set_option linter.unusedSimpArgs false

attribute [local go_sem high] eqA24
/-! ### forepeakref26_Put: function 14 -/
mutual
def forepeakref26_Put.j0 : Nat → Bool → Bool → Int → Int → List (S39) → Int → Int → Int → Int → Int → Int → Int → Bool → Int → Int → Int → ByteArray → Bool → Int → List (S89) → List (S89) → List (S89) → Option (Int × Int × (List (S39)) × Int)
  | 0, _, _, _, _, _, _, _, _, _, _, _, _, _, _, _, _, _, _, _, _, _, _ => none
  | k + 1, x2, x20, x200000, x200001, x200002, x201000, x201001, x201002, x201003, x201004, x201005, x201006, x201007, x201008, x201009, x201010, x201011, x201012, x201013, x201014, x201015, x201016 => if x20 = true then (some (x200000, x200001, x200002, 1)) else ((forepeakref21_Lane.f k x201000 x201001 x201002 x201003).bind fun t203 => ((forepeakref26_at.f k x200000 x200001 x200002 t203).bind fun t204 => (if x2 = true then (forepeakref26_Put.j1 k x2 t204 false x200000 x200001 x200002 x201000 x201001 x201002 x201003 x201004 x201005 x201006 x201007 x201008 x201009 x201010 x201011 x201012 x201013 x201014 x201015 x201016) else (forepeakref26_Put.j1 k x2 t204 (decide (t204 ≥ 0)) x200000 x200001 x200002 x201000 x201001 x201002 x201003 x201004 x201005 x201006 x201007 x201008 x201009 x201010 x201011 x201012 x201013 x201014 x201015 x201016))))
def forepeakref26_Put.j1 : Nat → Bool → Int → Bool → Int → Int → List (S39) → Int → Int → Int → Int → Int → Int → Int → Bool → Int → Int → Int → ByteArray → Bool → Int → List (S89) → List (S89) → List (S89) → Option (Int × Int × (List (S39)) × Int)
  | 0, _, _, _, _, _, _, _, _, _, _, _, _, _, _, _, _, _, _, _, _, _, _, _ => none
  | k + 1, x2, x8, x32, x200000, x200001, x200002, x201000, x201001, x201002, x201003, x201004, x201005, x201006, x201007, x201008, x201009, x201010, x201011, x201012, x201013, x201014, x201015, x201016 => if x32 = true then (some (x200000, x200001, x200002, 7)) else (if x2 = true then (forepeakref26_Put.j2 k x2 x8 (decide (x8 < 0)) x200000 x200001 x200002 x201000 x201001 x201002 x201003 x201004 x201005 x201006 x201007 x201008 x201009 x201010 x201011 x201012 x201013 x201014 x201015 x201016) else (forepeakref26_Put.j2 k x2 x8 false x200000 x200001 x200002 x201000 x201001 x201002 x201003 x201004 x201005 x201006 x201007 x201008 x201009 x201010 x201011 x201012 x201013 x201014 x201015 x201016))
def forepeakref26_Put.j2 : Nat → Bool → Int → Bool → Int → Int → List (S39) → Int → Int → Int → Int → Int → Int → Int → Bool → Int → Int → Int → ByteArray → Bool → Int → List (S89) → List (S89) → List (S89) → Option (Int × Int × (List (S39)) × Int)
  | 0, _, _, _, _, _, _, _, _, _, _, _, _, _, _, _, _, _, _, _, _, _, _, _ => none
  | k + 1, x2, x8, x38, x200000, x200001, x200002, x201000, x201001, x201002, x201003, x201004, x201005, x201006, x201007, x201008, x201009, x201010, x201011, x201012, x201013, x201014, x201015, x201016 => if x38 = true then (some (x200000, x200001, x200002, 6)) else (if x2 = true then ((forepeakref26_Without.f x200002 x8).bind fun t205 => ((forepeakref26_With.f k t205 x201000 x201001 x201002 x201003 x201004 x201005 x201006 x201007 x201008 x201009 x201010 x201011 x201012 x201013 x201014 x201015 x201016).bind fun t208 => (some (x200000, x200001, t208, 0)))) else ((forepeakref26_With.f k x200002 x201000 x201001 x201002 x201003 x201004 x201005 x201006 x201007 x201008 x201009 x201010 x201011 x201012 x201013 x201014 x201015 x201016).bind fun t211 => (some (x200000, x200001, t211, 0))))
end
def forepeakref26_Put.f (k : Nat) (a0_0 : Int) (a0_1 : Int) (l0_2 : List (S39)) (a1_0 : Int) (a1_1 : Int) (a1_2 : Int) (a1_3 : Int) (a1_4 : Int) (a1_5 : Int) (a1_6 : Int) (a1_7 : Bool) (a1_8 : Int) (a1_9 : Int) (a1_10 : Int) (a1_11 : ByteArray) (a1_12 : Bool) (a1_13 : Int) (l1_14 : List (S89)) (l1_15 : List (S89)) (l1_16 : List (S89)) (a2 : Bool) : Option (Int × Int × (List (S39)) × Int) := (forepeakref21_Fine.f a1_0 a1_1 a1_2 a1_3).bind fun t202 => (if t202 = true then (forepeakref26_Put.j0 k a2 (!(a1_0 == a0_0) || (!(a1_1 == a0_1))) a0_0 a0_1 l0_2 a1_0 a1_1 a1_2 a1_3 a1_4 a1_5 a1_6 a1_7 a1_8 a1_9 a1_10 a1_11 a1_12 a1_13 l1_14 l1_15 l1_16) else (forepeakref26_Put.j0 k a2 true a0_0 a0_1 l0_2 a1_0 a1_1 a1_2 a1_3 a1_4 a1_5 a1_6 a1_7 a1_8 a1_9 a1_10 a1_11 a1_12 a1_13 l1_14 l1_15 l1_16))
theorem forepeakref26_Put.mono_l : ∀ k, (∀ y0 y1 y2 y3 y4 y5 y6 y7 y8 y9 y10 y11 y12 y13 y14 y15 y16 y17 y18 y19 y20 y21, LeO (forepeakref26_Put.j0 k y0 y1 y2 y3 y4 y5 y6 y7 y8 y9 y10 y11 y12 y13 y14 y15 y16 y17 y18 y19 y20 y21) (forepeakref26_Put.j0 (k + 1) y0 y1 y2 y3 y4 y5 y6 y7 y8 y9 y10 y11 y12 y13 y14 y15 y16 y17 y18 y19 y20 y21)) ∧ (∀ y0 y1 y2 y3 y4 y5 y6 y7 y8 y9 y10 y11 y12 y13 y14 y15 y16 y17 y18 y19 y20 y21 y22, LeO (forepeakref26_Put.j1 k y0 y1 y2 y3 y4 y5 y6 y7 y8 y9 y10 y11 y12 y13 y14 y15 y16 y17 y18 y19 y20 y21 y22) (forepeakref26_Put.j1 (k + 1) y0 y1 y2 y3 y4 y5 y6 y7 y8 y9 y10 y11 y12 y13 y14 y15 y16 y17 y18 y19 y20 y21 y22)) ∧ (∀ y0 y1 y2 y3 y4 y5 y6 y7 y8 y9 y10 y11 y12 y13 y14 y15 y16 y17 y18 y19 y20 y21 y22, LeO (forepeakref26_Put.j2 k y0 y1 y2 y3 y4 y5 y6 y7 y8 y9 y10 y11 y12 y13 y14 y15 y16 y17 y18 y19 y20 y21 y22) (forepeakref26_Put.j2 (k + 1) y0 y1 y2 y3 y4 y5 y6 y7 y8 y9 y10 y11 y12 y13 y14 y15 y16 y17 y18 y19 y20 y21 y22))
  | 0 => ⟨fun _ _ _ _ _ _ _ _ _ _ _ _ _ _ _ _ _ _ _ _ _ _ r h => by simp [forepeakref26_Put.j0] at h, fun _ _ _ _ _ _ _ _ _ _ _ _ _ _ _ _ _ _ _ _ _ _ _ r h => by simp [forepeakref26_Put.j1] at h, fun _ _ _ _ _ _ _ _ _ _ _ _ _ _ _ _ _ _ _ _ _ _ _ r h => by simp [forepeakref26_Put.j2] at h⟩
  | k + 1 => by
    obtain ⟨ih0, ih1, ih2⟩ := forepeakref26_Put.mono_l k
    refine ⟨?_, ?_, ?_⟩
    · intro y0 y1 y2 y3 y4 y5 y6 y7 y8 y9 y10 y11 y12 y13 y14 y15 y16 y17 y18 y19 y20 y21
      unfold forepeakref26_Put.j0
      repeat' first
      | (with_reducible exact ih0 _ _ _ _ _ _ _ _ _ _ _ _ _ _ _ _ _ _ _ _ _ _)
      | (with_reducible exact ih1 _ _ _ _ _ _ _ _ _ _ _ _ _ _ _ _ _ _ _ _ _ _ _)
      | (with_reducible exact ih2 _ _ _ _ _ _ _ _ _ _ _ _ _ _ _ _ _ _ _ _ _ _ _)
      | (with_reducible exact forepeakref21_Lane.mono _ _ _ _ _)
      | (with_reducible exact forepeakref26_With.mono _ _ _ _ _ _ _ _ _ _ _ _ _ _ _ _ _ _ _)
      | (with_reducible exact forepeakref26_at.mono _ _ _ _ _)
      | (with_reducible exact LeO.refl _)
      | (with_reducible exact LeO.none _)
      | (with_reducible refine LeO.ite ?_ ?_)
      | (with_reducible refine LeO.bind ?_ (fun _ => ?_))
      | exact ih0 _ _ _ _ _ _ _ _ _ _ _ _ _ _ _ _ _ _ _ _ _ _
      | exact ih1 _ _ _ _ _ _ _ _ _ _ _ _ _ _ _ _ _ _ _ _ _ _ _
      | exact ih2 _ _ _ _ _ _ _ _ _ _ _ _ _ _ _ _ _ _ _ _ _ _ _
      | exact forepeakref21_Lane.mono _ _ _ _ _
      | exact forepeakref26_With.mono _ _ _ _ _ _ _ _ _ _ _ _ _ _ _ _ _ _ _
      | exact forepeakref26_at.mono _ _ _ _ _
      | exact LeO.none _
      | refine LeO.ite ?_ ?_
      | refine LeO.bind ?_ (fun _ => ?_)
    · intro y0 y1 y2 y3 y4 y5 y6 y7 y8 y9 y10 y11 y12 y13 y14 y15 y16 y17 y18 y19 y20 y21 y22
      unfold forepeakref26_Put.j1
      repeat' first
      | (with_reducible exact ih0 _ _ _ _ _ _ _ _ _ _ _ _ _ _ _ _ _ _ _ _ _ _)
      | (with_reducible exact ih1 _ _ _ _ _ _ _ _ _ _ _ _ _ _ _ _ _ _ _ _ _ _ _)
      | (with_reducible exact ih2 _ _ _ _ _ _ _ _ _ _ _ _ _ _ _ _ _ _ _ _ _ _ _)
      | (with_reducible exact forepeakref21_Lane.mono _ _ _ _ _)
      | (with_reducible exact forepeakref26_With.mono _ _ _ _ _ _ _ _ _ _ _ _ _ _ _ _ _ _ _)
      | (with_reducible exact forepeakref26_at.mono _ _ _ _ _)
      | (with_reducible exact LeO.refl _)
      | (with_reducible exact LeO.none _)
      | (with_reducible refine LeO.ite ?_ ?_)
      | (with_reducible refine LeO.bind ?_ (fun _ => ?_))
      | exact ih0 _ _ _ _ _ _ _ _ _ _ _ _ _ _ _ _ _ _ _ _ _ _
      | exact ih1 _ _ _ _ _ _ _ _ _ _ _ _ _ _ _ _ _ _ _ _ _ _ _
      | exact ih2 _ _ _ _ _ _ _ _ _ _ _ _ _ _ _ _ _ _ _ _ _ _ _
      | exact forepeakref21_Lane.mono _ _ _ _ _
      | exact forepeakref26_With.mono _ _ _ _ _ _ _ _ _ _ _ _ _ _ _ _ _ _ _
      | exact forepeakref26_at.mono _ _ _ _ _
      | exact LeO.none _
      | refine LeO.ite ?_ ?_
      | refine LeO.bind ?_ (fun _ => ?_)
    · intro y0 y1 y2 y3 y4 y5 y6 y7 y8 y9 y10 y11 y12 y13 y14 y15 y16 y17 y18 y19 y20 y21 y22
      unfold forepeakref26_Put.j2
      repeat' first
      | (with_reducible exact ih0 _ _ _ _ _ _ _ _ _ _ _ _ _ _ _ _ _ _ _ _ _ _)
      | (with_reducible exact ih1 _ _ _ _ _ _ _ _ _ _ _ _ _ _ _ _ _ _ _ _ _ _ _)
      | (with_reducible exact ih2 _ _ _ _ _ _ _ _ _ _ _ _ _ _ _ _ _ _ _ _ _ _ _)
      | (with_reducible exact forepeakref21_Lane.mono _ _ _ _ _)
      | (with_reducible exact forepeakref26_With.mono _ _ _ _ _ _ _ _ _ _ _ _ _ _ _ _ _ _ _)
      | (with_reducible exact forepeakref26_at.mono _ _ _ _ _)
      | (with_reducible exact LeO.refl _)
      | (with_reducible exact LeO.none _)
      | (with_reducible refine LeO.ite ?_ ?_)
      | (with_reducible refine LeO.bind ?_ (fun _ => ?_))
      | exact ih0 _ _ _ _ _ _ _ _ _ _ _ _ _ _ _ _ _ _ _ _ _ _
      | exact ih1 _ _ _ _ _ _ _ _ _ _ _ _ _ _ _ _ _ _ _ _ _ _ _
      | exact ih2 _ _ _ _ _ _ _ _ _ _ _ _ _ _ _ _ _ _ _ _ _ _ _
      | exact forepeakref21_Lane.mono _ _ _ _ _
      | exact forepeakref26_With.mono _ _ _ _ _ _ _ _ _ _ _ _ _ _ _ _ _ _ _
      | exact forepeakref26_at.mono _ _ _ _ _
      | exact LeO.none _
      | refine LeO.ite ?_ ?_
      | refine LeO.bind ?_ (fun _ => ?_)
theorem forepeakref26_Put.mono : ∀ a0 a1 a2 a3 a4 a5 a6 a7 a8 a9 a10 a11 a12 a13 a14 a15 a16 a17 a18 a19 a20 k, LeO (forepeakref26_Put.f k a0 a1 a2 a3 a4 a5 a6 a7 a8 a9 a10 a11 a12 a13 a14 a15 a16 a17 a18 a19 a20) (forepeakref26_Put.f (k + 1) a0 a1 a2 a3 a4 a5 a6 a7 a8 a9 a10 a11 a12 a13 a14 a15 a16 a17 a18 a19 a20) := by
  intro a0 a1 a2 a3 a4 a5 a6 a7 a8 a9 a10 a11 a12 a13 a14 a15 a16 a17 a18 a19 a20 k
  obtain ⟨ih0, ih1, ih2⟩ := forepeakref26_Put.mono_l k
  unfold forepeakref26_Put.f
  repeat' first
      | (with_reducible exact ih0 _ _ _ _ _ _ _ _ _ _ _ _ _ _ _ _ _ _ _ _ _ _)
      | (with_reducible exact ih1 _ _ _ _ _ _ _ _ _ _ _ _ _ _ _ _ _ _ _ _ _ _ _)
      | (with_reducible exact ih2 _ _ _ _ _ _ _ _ _ _ _ _ _ _ _ _ _ _ _ _ _ _ _)
      | (with_reducible exact forepeakref21_Lane.mono _ _ _ _ _)
      | (with_reducible exact forepeakref26_With.mono _ _ _ _ _ _ _ _ _ _ _ _ _ _ _ _ _ _ _)
      | (with_reducible exact forepeakref26_at.mono _ _ _ _ _)
      | (with_reducible exact LeO.refl _)
      | (with_reducible exact LeO.none _)
      | (with_reducible refine LeO.ite ?_ ?_)
      | (with_reducible refine LeO.bind ?_ (fun _ => ?_))
      | exact ih0 _ _ _ _ _ _ _ _ _ _ _ _ _ _ _ _ _ _ _ _ _ _
      | exact ih1 _ _ _ _ _ _ _ _ _ _ _ _ _ _ _ _ _ _ _ _ _ _ _
      | exact ih2 _ _ _ _ _ _ _ _ _ _ _ _ _ _ _ _ _ _ _ _ _ _ _
      | exact forepeakref21_Lane.mono _ _ _ _ _
      | exact forepeakref26_With.mono _ _ _ _ _ _ _ _ _ _ _ _ _ _ _ _ _ _ _
      | exact forepeakref26_at.mono _ _ _ _ _
      | exact LeO.none _
      | refine LeO.ite ?_ ?_
      | refine LeO.bind ?_ (fun _ => ?_)
set_option maxHeartbeats 8000000 in
set_option maxRecDepth 100000 in
theorem forepeakref26_Put.calls (k : Nat) (a0_0 : Int) (a0_1 : Int) (P0_2_ : Nat → Prop) (A0_2 : Option Addr) (c0_2 : Nat) (l0_2 : List (S39)) (a1_0 : Int) (a1_1 : Int) (a1_2 : Int) (a1_3 : Int) (a1_4 : Int) (a1_5 : Int) (a1_6 : Int) (a1_7 : Bool) (a1_8 : Int) (a1_9 : Int) (a1_10 : Int) (a1_11 : ByteArray) (a1_12 : Bool) (a1_13 : Int) (P1_14_ : Nat → Prop) (A1_14 : Option Addr) (c1_14 : Nat) (l1_14 : List (S89)) (P1_15_ : Nat → Prop) (A1_15 : Option Addr) (c1_15 : Nat) (l1_15 : List (S89)) (P1_16_ : Nat → Prop) (A1_16 : Option Addr) (c1_16 : Nat) (l1_16 : List (S89)) (a2 : Bool) (r1 : Int) (r2 : Int) (r3 : List (S39)) (r4 : Int) (w : World) (hs0_2 : Kd.V k39 39 w w.heap.size (fun k_ => P0_2_ k_) (.slice A0_2 l0_2.length c0_2) l0_2) (hs1_14 : Kd.V k89 89 w w.heap.size (fun k_ => P1_14_ k_) (.slice A1_14 l1_14.length c1_14) l1_14) (hs1_15 : Kd.V k89 89 w w.heap.size (fun k_ => P1_15_ k_) (.slice A1_15 l1_15.length c1_15) l1_15) (hs1_16 : Kd.V k89 89 w w.heap.size (fun k_ => P1_16_ k_) (.slice A1_16 l1_16.length c1_16) l1_16) (h : forepeakref26_Put.f k a0_0 a0_1 l0_2 a1_0 a1_1 a1_2 a1_3 a1_4 a1_5 a1_6 a1_7 a1_8 a1_9 a1_10 a1_11 a1_12 a1_13 l1_14 l1_15 l1_16 a2 = some (r1, r2, r3, r4)) :
    Calls Try.prog 14 #[.agg #[.int .u16 a0_0, .int .u16 a0_1, .slice A0_2 l0_2.length c0_2], .agg #[.int .u16 a1_0, .int .u16 a1_1, .int .i64 a1_2, .int .i64 a1_3, .int .u16 a1_4, .int .u16 a1_5, .int .i64 a1_6, .bool a1_7, .int .u16 a1_8, .int .u16 a1_9, .int .i64 a1_10, .string a1_11, .bool a1_12, .int .i64 a1_13, .slice A1_14 l1_14.length c1_14, .slice A1_15 l1_15.length c1_15, .slice A1_16 l1_16.length c1_16], .bool a2] w fun e w' => ∃ v2_ : Value, e = .returned (.tuple #[.agg #[.int .u16 r1, .int .u16 r2, v2_], .int .i64 r4]) ∧ Kd.V k39 39 w' w.heap.size (fun k_ => ((P0_2_ k_ ∨ P1_14_ k_ ∨ P1_15_ k_ ∨ P1_16_ k_) ∨ w.heap.size ≤ k_)) v2_ r3 ∧ Below w.heap.size w w' := by
  have hu31 := Try.underlying31
  have hu39 := Try.underlying39
  have hu34 := Try.underlying34
  have hu24 := Try.underlying24
  have HO0_2 := Aside0.mk (show Kd.V k39 39 w w.heap.size (fun k_ => ((P0_2_ k_ ∨ P1_14_ k_ ∨ P1_15_ k_ ∨ P1_16_ k_) ∨ w.heap.size ≤ k_)) (.slice A0_2 l0_2.length c0_2) l0_2 from Kd.V_mono hs0_2 (fun k_ hk => .inl (.inl hk)))
  have HO1_14 := Aside0.mk (show Kd.V k89 89 w w.heap.size (fun k_ => ((P0_2_ k_ ∨ P1_14_ k_ ∨ P1_15_ k_ ∨ P1_16_ k_) ∨ w.heap.size ≤ k_)) (.slice A1_14 l1_14.length c1_14) l1_14 from Kd.V_mono hs1_14 (fun k_ hk => .inl (.inr (.inl hk))))
  have HO1_15 := Aside0.mk (show Kd.V k89 89 w w.heap.size (fun k_ => ((P0_2_ k_ ∨ P1_14_ k_ ∨ P1_15_ k_ ∨ P1_16_ k_) ∨ w.heap.size ≤ k_)) (.slice A1_15 l1_15.length c1_15) l1_15 from Kd.V_mono hs1_15 (fun k_ hk => .inl (.inr (.inr (.inl hk)))))
  have HO1_16 := Aside0.mk (show Kd.V k89 89 w w.heap.size (fun k_ => ((P0_2_ k_ ∨ P1_14_ k_ ∨ P1_15_ k_ ∨ P1_16_ k_) ∨ w.heap.size ≤ k_)) (.slice A1_16 l1_16.length c1_16) l1_16 from Kd.V_mono hs1_16 (fun k_ hk => .inl (.inr (.inr (.inr hk)))))
  have HB := Aside0.mk (Below.refl w.heap.size w)
  have H : ((forepeakref21_Fine.f a1_0 a1_1 a1_2 a1_3).bind fun t202 => (if t202 = true then (forepeakref26_Put.j0 k a2 (!(a1_0 == a0_0) || (!(a1_1 == a0_1))) a0_0 a0_1 l0_2 a1_0 a1_1 a1_2 a1_3 a1_4 a1_5 a1_6 a1_7 a1_8 a1_9 a1_10 a1_11 a1_12 a1_13 l1_14 l1_15 l1_16) else (forepeakref26_Put.j0 k a2 true a0_0 a0_1 l0_2 a1_0 a1_1 a1_2 a1_3 a1_4 a1_5 a1_6 a1_7 a1_8 a1_9 a1_10 a1_11 a1_12 a1_13 l1_14 l1_15 l1_16))) = some (r1, r2, r3, r4) := h
  clear h
  have HC4 := Aside0.mk H
  clear H
  go_enter Try.func14, Try.ntmps14
  go_upto_region 1 with (first | ((with_reducible refine gate_dst (N := 3) rfl ?_); refine box_event ?hg (N := 3) ?hd (cs := #[.int .u16 a0_0, .int .u16 a0_1, .slice A0_2 l0_2.length c0_2]) (t := 31) ?hr ?_; (case hd => rfl); (case hg => rfl); (case hr => first | (go_simp; done) | (go_simp; rfl)); intro gb199 hg w5 hbox hb; have n0_ := Aside0.mk (Kd.V_below (Kd.V_elderB (by (with_reducible repeat (first | apply Kd.V_alloc | apply Kd.V_drewN | apply Kd.V_drew)); exact HO0_2.out) gb199 (Nat.le_of_eq hg.symm)) hb); have n1_ := Aside0.mk (Kd.V_below (Kd.V_elderB (by (with_reducible repeat (first | apply Kd.V_alloc | apply Kd.V_drewN | apply Kd.V_drew)); exact HO1_14.out) gb199 (Nat.le_of_eq hg.symm)) hb); have n2_ := Aside0.mk (Kd.V_below (Kd.V_elderB (by (with_reducible repeat (first | apply Kd.V_alloc | apply Kd.V_drewN | apply Kd.V_drew)); exact HO1_15.out) gb199 (Nat.le_of_eq hg.symm)) hb); have n3_ := Aside0.mk (Kd.V_below (Kd.V_elderB (by (with_reducible repeat (first | apply Kd.V_alloc | apply Kd.V_drewN | apply Kd.V_drew)); exact HO1_16.out) gb199 (Nat.le_of_eq hg.symm)) hb); have n4_ := Aside0.mk (below_step (by repeat (first | (with_reducible first | exact HB.out | apply below_alloc | apply pw_below_drewN | apply below_drew1) | exact HB.out)) hb); have n5_ := Aside0.mk (hbox); have n6_ := Aside0.mk ((by rw [hg]; exact (below_size (by repeat (first | (with_reducible first | exact HB.out | apply below_alloc | apply pw_below_drewN | apply below_drew1) | exact HB.out))) : w.heap.size ≤ gb199)); have n7_ := Aside0.mk ((by rw [hg]; exact (below_size (by repeat (first | (with_reducible first | exact HB.out | apply below_alloc | apply pw_below_drewN | apply below_drew1) | exact HB.out))) : w.heap.size ≤ gb199)); clear HO0_2; clear HO1_14; clear HO1_15; clear HO1_16; clear HB; have HO0_2 := n0_; have HO1_14 := n1_; have HO1_15 := n2_; have HO1_16 := n3_; have HB := n4_; have BK199 := n5_; have GW199 := n6_; have GE199 := n7_; clear n0_ n1_ n2_ n3_ n4_ n5_ n6_ n7_; clear hb hbox hg) | ((with_reducible refine gate_dst (N := 4) rfl ?_); refine box_event ?hg (N := 4) ?hd (cs := #[.int .u16 a1_0, .int .u16 a1_1, .int .i64 a1_2, .int .i64 a1_3, .int .u16 a1_4, .int .u16 a1_5, .int .i64 a1_6, .bool a1_7, .int .u16 a1_8, .int .u16 a1_9, .int .i64 a1_10, .string a1_11, .bool a1_12, .int .i64 a1_13, .slice A1_14 l1_14.length c1_14, .slice A1_15 l1_15.length c1_15, .slice A1_16 l1_16.length c1_16]) (t := 39) ?hr ?_; (case hd => rfl); (case hg => rfl); (case hr => first | (go_simp; done) | (go_simp; rfl)); intro gb200 hg w6 hbox hb; have n0_ := Aside0.mk (Kd.V_below (Kd.V_elderB (by (with_reducible repeat (first | apply Kd.V_alloc | apply Kd.V_drewN | apply Kd.V_drew)); exact HO0_2.out) gb200 (Nat.le_of_eq hg.symm)) hb); have n1_ := Aside0.mk (Kd.V_below (Kd.V_elderB (by (with_reducible repeat (first | apply Kd.V_alloc | apply Kd.V_drewN | apply Kd.V_drew)); exact HO1_14.out) gb200 (Nat.le_of_eq hg.symm)) hb); have n2_ := Aside0.mk (Kd.V_below (Kd.V_elderB (by (with_reducible repeat (first | apply Kd.V_alloc | apply Kd.V_drewN | apply Kd.V_drew)); exact HO1_15.out) gb200 (Nat.le_of_eq hg.symm)) hb); have n3_ := Aside0.mk (Kd.V_below (Kd.V_elderB (by (with_reducible repeat (first | apply Kd.V_alloc | apply Kd.V_drewN | apply Kd.V_drew)); exact HO1_16.out) gb200 (Nat.le_of_eq hg.symm)) hb); have n4_ := Aside0.mk (blk_below (g := gb199) (o := .cells #[.int .u16 a0_0, .int .u16 a0_1, .slice A0_2 l0_2.length c0_2] 31 (0, 0)) (by (with_reducible repeat (first | refine blk_drewN ?_ _ | refine blk_drew ?_ | refine blk_alloc ?_ _)); exact BK199.out) hb); have n5_ := Aside0.mk (below_step (by repeat (first | (with_reducible first | exact HB.out | apply below_alloc | apply pw_below_drewN | apply below_drew1 | refine below_set ?_ GE199.out) | exact HB.out)) hb); have n6_ := Aside0.mk (hbox); have n7_ := Aside0.mk ((by rw [hg]; exact (below_size (by repeat (first | (with_reducible first | exact HB.out | apply below_alloc | apply pw_below_drewN | apply below_drew1 | refine below_set ?_ GE199.out) | exact HB.out))) : w.heap.size ≤ gb200)); have n8_ := Aside0.mk ((by rw [hg]; exact (below_size (by repeat (first | (with_reducible first | exact HB.out | apply below_alloc | apply pw_below_drewN | apply below_drew1 | refine below_set ?_ GE199.out) | exact HB.out))) : w.heap.size ≤ gb200)); have n9_ := Aside0.mk ((by rw [hg]; exact Nat.ne_of_lt (blk_lt (g := gb199) (o := .cells #[.int .u16 a0_0, .int .u16 a0_1, .slice A0_2 l0_2.length c0_2] 31 (0, 0)) (by (with_reducible repeat (first | refine blk_drewN ?_ _ | refine blk_drew ?_ | refine blk_alloc ?_ _)); exact BK199.out)) : gb199 ≠ gb200)); have n10_ := Aside0.mk ((by rw [hg]; exact Nat.ne_of_gt (blk_lt (g := gb199) (o := .cells #[.int .u16 a0_0, .int .u16 a0_1, .slice A0_2 l0_2.length c0_2] 31 (0, 0)) (by (with_reducible repeat (first | refine blk_drewN ?_ _ | refine blk_drew ?_ | refine blk_alloc ?_ _)); exact BK199.out)) : gb200 ≠ gb199)); clear HO0_2; clear HO1_14; clear HO1_15; clear HO1_16; clear BK199; clear HB; have HO0_2 := n0_; have HO1_14 := n1_; have HO1_15 := n2_; have HO1_16 := n3_; have BK199 := n4_; have HB := n5_; have BK200 := n6_; have GW200 := n7_; have GE200 := n8_; have NB199_200 := n9_; have NB200_199 := n10_; clear n0_ n1_ n2_ n3_ n4_ n5_ n6_ n7_ n8_ n9_ n10_; clear hb hbox hg) | ((with_reducible refine gate_dst (N := 6) rfl ?_); refine box_event ?hg (N := 6) ?hd (cs := #[.int .u16 0, .int .u16 0, .slice none 0 0]) (t := 31) ?hr ?_; (case hd => rfl); (case hg => rfl); (case hr => first | (go_simp; done) | (go_simp; rfl)); intro gb201 hg w7 hbox hb; have n0_ := Aside0.mk (Kd.V_below (Kd.V_elderB (by (with_reducible repeat (first | apply Kd.V_alloc | apply Kd.V_drewN | apply Kd.V_drew)); exact HO0_2.out) gb201 (Nat.le_of_eq hg.symm)) hb); have n1_ := Aside0.mk (Kd.V_below (Kd.V_elderB (by (with_reducible repeat (first | apply Kd.V_alloc | apply Kd.V_drewN | apply Kd.V_drew)); exact HO1_14.out) gb201 (Nat.le_of_eq hg.symm)) hb); have n2_ := Aside0.mk (Kd.V_below (Kd.V_elderB (by (with_reducible repeat (first | apply Kd.V_alloc | apply Kd.V_drewN | apply Kd.V_drew)); exact HO1_15.out) gb201 (Nat.le_of_eq hg.symm)) hb); have n3_ := Aside0.mk (Kd.V_below (Kd.V_elderB (by (with_reducible repeat (first | apply Kd.V_alloc | apply Kd.V_drewN | apply Kd.V_drew)); exact HO1_16.out) gb201 (Nat.le_of_eq hg.symm)) hb); have n4_ := Aside0.mk (blk_below (g := gb199) (o := .cells #[.int .u16 a0_0, .int .u16 a0_1, .slice A0_2 l0_2.length c0_2] 31 (0, 0)) (by (with_reducible repeat (first | refine blk_drewN ?_ _ | refine blk_drew ?_ | refine blk_alloc ?_ _)); exact BK199.out) hb); have n5_ := Aside0.mk (blk_below (g := gb200) (o := .cells #[.int .u16 a1_0, .int .u16 a1_1, .int .i64 a1_2, .int .i64 a1_3, .int .u16 a1_4, .int .u16 a1_5, .int .i64 a1_6, .bool a1_7, .int .u16 a1_8, .int .u16 a1_9, .int .i64 a1_10, .string a1_11, .bool a1_12, .int .i64 a1_13, .slice A1_14 l1_14.length c1_14, .slice A1_15 l1_15.length c1_15, .slice A1_16 l1_16.length c1_16] 39 (0, 0)) (by (with_reducible repeat (first | refine blk_drewN ?_ _ | refine blk_drew ?_ | refine blk_alloc ?_ _)); exact BK200.out) hb); have n6_ := Aside0.mk (below_step (by repeat (first | (with_reducible first | exact HB.out | apply below_alloc | apply pw_below_drewN | apply below_drew1 | refine below_set ?_ GE199.out | refine below_set ?_ GE200.out) | exact HB.out)) hb); have n7_ := Aside0.mk (hbox); have n8_ := Aside0.mk ((by rw [hg]; exact (below_size (by repeat (first | (with_reducible first | exact HB.out | apply below_alloc | apply pw_below_drewN | apply below_drew1 | refine below_set ?_ GE199.out | refine below_set ?_ GE200.out) | exact HB.out))) : w.heap.size ≤ gb201)); have n9_ := Aside0.mk ((by rw [hg]; exact (below_size (by repeat (first | (with_reducible first | exact HB.out | apply below_alloc | apply pw_below_drewN | apply below_drew1 | refine below_set ?_ GE199.out | refine below_set ?_ GE200.out) | exact HB.out))) : w.heap.size ≤ gb201)); have n10_ := Aside0.mk ((by rw [hg]; exact Nat.ne_of_lt (blk_lt (g := gb199) (o := .cells #[.int .u16 a0_0, .int .u16 a0_1, .slice A0_2 l0_2.length c0_2] 31 (0, 0)) (by (with_reducible repeat (first | refine blk_drewN ?_ _ | refine blk_drew ?_ | refine blk_alloc ?_ _)); exact BK199.out)) : gb199 ≠ gb201)); have n11_ := Aside0.mk ((by rw [hg]; exact Nat.ne_of_gt (blk_lt (g := gb199) (o := .cells #[.int .u16 a0_0, .int .u16 a0_1, .slice A0_2 l0_2.length c0_2] 31 (0, 0)) (by (with_reducible repeat (first | refine blk_drewN ?_ _ | refine blk_drew ?_ | refine blk_alloc ?_ _)); exact BK199.out)) : gb201 ≠ gb199)); have n12_ := Aside0.mk ((by rw [hg]; exact Nat.ne_of_lt (blk_lt (g := gb200) (o := .cells #[.int .u16 a1_0, .int .u16 a1_1, .int .i64 a1_2, .int .i64 a1_3, .int .u16 a1_4, .int .u16 a1_5, .int .i64 a1_6, .bool a1_7, .int .u16 a1_8, .int .u16 a1_9, .int .i64 a1_10, .string a1_11, .bool a1_12, .int .i64 a1_13, .slice A1_14 l1_14.length c1_14, .slice A1_15 l1_15.length c1_15, .slice A1_16 l1_16.length c1_16] 39 (0, 0)) (by (with_reducible repeat (first | refine blk_drewN ?_ _ | refine blk_drew ?_ | refine blk_alloc ?_ _)); exact BK200.out)) : gb200 ≠ gb201)); have n13_ := Aside0.mk ((by rw [hg]; exact Nat.ne_of_gt (blk_lt (g := gb200) (o := .cells #[.int .u16 a1_0, .int .u16 a1_1, .int .i64 a1_2, .int .i64 a1_3, .int .u16 a1_4, .int .u16 a1_5, .int .i64 a1_6, .bool a1_7, .int .u16 a1_8, .int .u16 a1_9, .int .i64 a1_10, .string a1_11, .bool a1_12, .int .i64 a1_13, .slice A1_14 l1_14.length c1_14, .slice A1_15 l1_15.length c1_15, .slice A1_16 l1_16.length c1_16] 39 (0, 0)) (by (with_reducible repeat (first | refine blk_drewN ?_ _ | refine blk_drew ?_ | refine blk_alloc ?_ _)); exact BK200.out)) : gb201 ≠ gb200)); clear HO0_2; clear HO1_14; clear HO1_15; clear HO1_16; clear BK199; clear BK200; clear HB; have HO0_2 := n0_; have HO1_14 := n1_; have HO1_15 := n2_; have HO1_16 := n3_; have BK199 := n4_; have BK200 := n5_; have HB := n6_; have BK201 := n7_; have GW201 := n8_; have GE201 := n9_; have NB199_201 := n10_; have NB201_199 := n11_; have NB200_201 := n12_; have NB201_200 := n13_; clear n0_ n1_ n2_ n3_ n4_ n5_ n6_ n7_ n8_ n9_ n10_ n11_ n12_ n13_; clear hb hbox hg))
  (try simp only [Act.put, List.setIfInBounds_toArray, List.set_cons_zero, List.set_cons_succ])
  go_cut [20] (fun v20 wc => ∃ (kq : Nat) (x20_3 : Bool), v20 = .bool x20_3 ∧ Aside0 (forepeakref26_Put.j0 kq a2 x20_3 a0_0 a0_1 l0_2 a1_0 a1_1 a1_2 a1_3 a1_4 a1_5 a1_6 a1_7 a1_8 a1_9 a1_10 a1_11 a1_12 a1_13 l1_14 l1_15 l1_16 = some (r1, r2, r3, r4)) ∧ Aside0 (kq ≤ k) ∧ Aside0 (Kd.V k39 39 wc w.heap.size (fun k_ => ((P0_2_ k_ ∨ P1_14_ k_ ∨ P1_15_ k_ ∨ P1_16_ k_) ∨ w.heap.size ≤ k_) ∧ k_ ≠ gb199 ∧ k_ ≠ gb200 ∧ k_ ≠ gb201) (.slice A0_2 l0_2.length c0_2) l0_2) ∧ Aside0 (Kd.V k89 89 wc w.heap.size (fun k_ => ((P0_2_ k_ ∨ P1_14_ k_ ∨ P1_15_ k_ ∨ P1_16_ k_) ∨ w.heap.size ≤ k_) ∧ k_ ≠ gb199 ∧ k_ ≠ gb200 ∧ k_ ≠ gb201) (.slice A1_14 l1_14.length c1_14) l1_14) ∧ Aside0 (Kd.V k89 89 wc w.heap.size (fun k_ => ((P0_2_ k_ ∨ P1_14_ k_ ∨ P1_15_ k_ ∨ P1_16_ k_) ∨ w.heap.size ≤ k_) ∧ k_ ≠ gb199 ∧ k_ ≠ gb200 ∧ k_ ≠ gb201) (.slice A1_15 l1_15.length c1_15) l1_15) ∧ Aside0 (Kd.V k89 89 wc w.heap.size (fun k_ => ((P0_2_ k_ ∨ P1_14_ k_ ∨ P1_15_ k_ ∨ P1_16_ k_) ∨ w.heap.size ≤ k_) ∧ k_ ≠ gb199 ∧ k_ ≠ gb200 ∧ k_ ≠ gb201) (.slice A1_16 l1_16.length c1_16) l1_16) ∧ Aside0 (wc.heap[gb199]? = some (.cells #[.int .u16 a0_0, .int .u16 a0_1, (.slice A0_2 l0_2.length c0_2)] 31 (0, 0))) ∧ Aside0 (wc.heap[gb200]? = some (.cells #[.int .u16 a1_0, .int .u16 a1_1, .int .i64 a1_2, .int .i64 a1_3, .int .u16 a1_4, .int .u16 a1_5, .int .i64 a1_6, .bool a1_7, .int .u16 a1_8, .int .u16 a1_9, .int .i64 a1_10, .string a1_11, .bool a1_12, .int .i64 a1_13, (.slice A1_14 l1_14.length c1_14), (.slice A1_15 l1_15.length c1_15), (.slice A1_16 l1_16.length c1_16)] 39 (0, 0))) ∧ Aside0 (wc.heap[gb201]? = some (.cells #[.int .u16 0, .int .u16 0, (.slice none 0 0)] 31 (0, 0))) ∧ Aside0 (Below w.heap.size w wc))
  case first =>
    have H := HC4.out
    clear HC4
    replace H := Option.bind_eq_some_iff.mp H
    obtain ⟨t202, A80, H⟩ := H
    replace H : (if t202 = true then (forepeakref26_Put.j0 k a2 (!(a1_0 == a0_0) || (!(a1_1 == a0_1))) a0_0 a0_1 l0_2 a1_0 a1_1 a1_2 a1_3 a1_4 a1_5 a1_6 a1_7 a1_8 a1_9 a1_10 a1_11 a1_12 a1_13 l1_14 l1_15 l1_16) else (forepeakref26_Put.j0 k a2 true a0_0 a0_1 l0_2 a1_0 a1_1 a1_2 a1_3 a1_4 a1_5 a1_6 a1_7 a1_8 a1_9 a1_10 a1_11 a1_12 a1_13 l1_14 l1_15 l1_16)) = some (r1, r2, r3, r4) := H
    have A8 := Aside0.mk A80
    clear A80
    by_cases c9 : t202 = true
    · subst c9
      have H1 : (forepeakref26_Put.j0 k a2 (!(a1_0 == a0_0) || (!(a1_1 == a0_1))) a0_0 a0_1 l0_2 a1_0 a1_1 a1_2 a1_3 a1_4 a1_5 a1_6 a1_7 a1_8 a1_9 a1_10 a1_11 a1_12 a1_13 l1_14 l1_15 l1_16) = some (r1, r2, r3, r4) := by rw [if_pos rfl] at H; exact H
      clear H
      have H := H1
      clear H1
      have H' := Aside0.mk H
      clear H
      have hnb10 := NB200_199.out
      have hnc10 := NB199_200.out
      have hnb11 := NB200_201.out
      have hnc11 := NB201_200.out
      have hcz12_0 : w7.cell? ⟨gb200, 0, none⟩ = some (.int .u16 a1_0) := (blk_cell BK200.out 0).trans rfl
      have hcz12_1 : w7.cell? ⟨gb200, 1, none⟩ = some (.int .u16 a1_1) := (blk_cell BK200.out 1).trans rfl
      have hcz12_2 : w7.cell? ⟨gb200, 2, none⟩ = some (.int .i64 a1_2) := (blk_cell BK200.out 2).trans rfl
      have hcz12_3 : w7.cell? ⟨gb200, 3, none⟩ = some (.int .i64 a1_3) := (blk_cell BK200.out 3).trans rfl
      have hcz12_4 : w7.cell? ⟨gb200, 4, none⟩ = some (.int .u16 a1_4) := (blk_cell BK200.out 4).trans rfl
      have hcz12_5 : w7.cell? ⟨gb200, 5, none⟩ = some (.int .u16 a1_5) := (blk_cell BK200.out 5).trans rfl
      have hcz12_6 : w7.cell? ⟨gb200, 6, none⟩ = some (.int .i64 a1_6) := (blk_cell BK200.out 6).trans rfl
      have hcz12_7 : w7.cell? ⟨gb200, 7, none⟩ = some (.bool a1_7) := (blk_cell BK200.out 7).trans rfl
      have hcz12_8 : w7.cell? ⟨gb200, 8, none⟩ = some (.int .u16 a1_8) := (blk_cell BK200.out 8).trans rfl
      have hcz12_9 : w7.cell? ⟨gb200, 9, none⟩ = some (.int .u16 a1_9) := (blk_cell BK200.out 9).trans rfl
      have hcz12_10 : w7.cell? ⟨gb200, 10, none⟩ = some (.int .i64 a1_10) := (blk_cell BK200.out 10).trans rfl
      have hcz12_11 : w7.cell? ⟨gb200, 11, none⟩ = some (.string a1_11) := (blk_cell BK200.out 11).trans rfl
      have hcz12_12 : w7.cell? ⟨gb200, 12, none⟩ = some (.bool a1_12) := (blk_cell BK200.out 12).trans rfl
      have hcz12_13 : w7.cell? ⟨gb200, 13, none⟩ = some (.int .i64 a1_13) := (blk_cell BK200.out 13).trans rfl
      have hcz12_14 : w7.cell? ⟨gb200, 14, none⟩ = some (.slice A1_14 l1_14.length c1_14) := (blk_cell BK200.out 14).trans rfl
      have hcz12_15 : w7.cell? ⟨gb200, 15, none⟩ = some (.slice A1_15 l1_15.length c1_15) := (blk_cell BK200.out 15).trans rfl
      have hcz12_16 : w7.cell? ⟨gb200, 16, none⟩ = some (.slice A1_16 l1_16.length c1_16) := (blk_cell BK200.out 16).trans rfl
      have hfz12_0 := blk_frozen BK200.out 0
      have hfz12_1 := blk_frozen BK200.out 1
      have hfz12_2 := blk_frozen BK200.out 2
      have hfz12_3 := blk_frozen BK200.out 3
      have hfz12_4 := blk_frozen BK200.out 4
      have hfz12_5 := blk_frozen BK200.out 5
      have hfz12_6 := blk_frozen BK200.out 6
      have hfz12_7 := blk_frozen BK200.out 7
      have hfz12_8 := blk_frozen BK200.out 8
      have hfz12_9 := blk_frozen BK200.out 9
      have hfz12_10 := blk_frozen BK200.out 10
      have hfz12_11 := blk_frozen BK200.out 11
      have hfz12_12 := blk_frozen BK200.out 12
      have hfz12_13 := blk_frozen BK200.out 13
      have hfz12_14 := blk_frozen BK200.out 14
      have hfz12_15 := blk_frozen BK200.out 15
      have hfz12_16 := blk_frozen BK200.out 16
      go_wp2_with (first | ((with_reducible refine gate_callee (f := 43) rfl ?_); refine goesL_ (some 11) rfl rfl Try.func43 (by kernel_rfl) rfl #[.agg #[.int .u16 a1_0, .int .u16 a1_1, .int .i64 a1_2, .int .i64 a1_3]] rfl (by (try simp only [List.map_toArray, List.map_cons, List.map_nil]); first | done | rfl | (simp only [List.length_drop, List.length_take]; rfl)) ?_; (with_reducible refine (forepeakref21_Fine.calls a1_0 a1_1 a1_2 a1_3 true _ A8.out).mono ?_); rintro e w13 ⟨rfl, hb⟩; refine ⟨_, rfl, ?_⟩; have n0_ := Aside0.mk (Kd.V_below (by (with_reducible repeat (first | apply Kd.V_alloc | apply Kd.V_drewN | apply Kd.V_drew)); exact HO0_2.out) hb); have n1_ := Aside0.mk (Kd.V_below (by (with_reducible repeat (first | apply Kd.V_alloc | apply Kd.V_drewN | apply Kd.V_drew)); exact HO1_14.out) hb); have n2_ := Aside0.mk (Kd.V_below (by (with_reducible repeat (first | apply Kd.V_alloc | apply Kd.V_drewN | apply Kd.V_drew)); exact HO1_15.out) hb); have n3_ := Aside0.mk (Kd.V_below (by (with_reducible repeat (first | apply Kd.V_alloc | apply Kd.V_drewN | apply Kd.V_drew)); exact HO1_16.out) hb); have n4_ := Aside0.mk (blk_below (g := gb199) (o := .cells #[.int .u16 a0_0, .int .u16 a0_1, .slice A0_2 l0_2.length c0_2] 31 (0, 0)) (by (with_reducible repeat (first | refine blk_drewN ?_ _ | refine blk_drew ?_ | refine blk_alloc ?_ _)); exact BK199.out) hb); have n5_ := Aside0.mk (blk_below (g := gb200) (o := .cells #[.int .u16 a1_0, .int .u16 a1_1, .int .i64 a1_2, .int .i64 a1_3, .int .u16 a1_4, .int .u16 a1_5, .int .i64 a1_6, .bool a1_7, .int .u16 a1_8, .int .u16 a1_9, .int .i64 a1_10, .string a1_11, .bool a1_12, .int .i64 a1_13, .slice A1_14 l1_14.length c1_14, .slice A1_15 l1_15.length c1_15, .slice A1_16 l1_16.length c1_16] 39 (0, 0)) (by (with_reducible repeat (first | refine blk_drewN ?_ _ | refine blk_drew ?_ | refine blk_alloc ?_ _)); exact BK200.out) hb); have n6_ := Aside0.mk (blk_below (g := gb201) (o := .cells #[.int .u16 0, .int .u16 0, .slice none 0 0] 31 (0, 0)) (by (with_reducible repeat (first | refine blk_drewN ?_ _ | refine blk_drew ?_ | refine blk_alloc ?_ _)); exact BK201.out) hb); have n7_ := Aside0.mk (below_step (by repeat (first | (with_reducible first | exact HB.out | apply below_alloc | apply pw_below_drewN | apply below_drew1 | refine below_set ?_ GE199.out | refine below_set ?_ GE200.out | refine below_set ?_ GE201.out) | exact HB.out)) hb); clear HO0_2; clear HO1_14; clear HO1_15; clear HO1_16; clear BK199; clear BK200; clear BK201; clear HB; have HO0_2 := n0_; have HO1_14 := n1_; have HO1_15 := n2_; have HO1_16 := n3_; have BK199 := n4_; have BK200 := n5_; have BK201 := n6_; have HB := n7_; clear n0_ n1_ n2_ n3_ n4_ n5_ n6_ n7_; (try clear hb); (try clear hb2); (try clear hk); (try clear hi); have hcz14_0 : w13.cell? ⟨gb200, 0, none⟩ = some (.int .u16 a1_0) := (blk_cell BK200.out 0).trans rfl; have hcz14_1 : w13.cell? ⟨gb200, 1, none⟩ = some (.int .u16 a1_1) := (blk_cell BK200.out 1).trans rfl; have hcz14_2 : w13.cell? ⟨gb200, 2, none⟩ = some (.int .i64 a1_2) := (blk_cell BK200.out 2).trans rfl; have hcz14_3 : w13.cell? ⟨gb200, 3, none⟩ = some (.int .i64 a1_3) := (blk_cell BK200.out 3).trans rfl; have hcz14_4 : w13.cell? ⟨gb200, 4, none⟩ = some (.int .u16 a1_4) := (blk_cell BK200.out 4).trans rfl; have hcz14_5 : w13.cell? ⟨gb200, 5, none⟩ = some (.int .u16 a1_5) := (blk_cell BK200.out 5).trans rfl; have hcz14_6 : w13.cell? ⟨gb200, 6, none⟩ = some (.int .i64 a1_6) := (blk_cell BK200.out 6).trans rfl; have hcz14_7 : w13.cell? ⟨gb200, 7, none⟩ = some (.bool a1_7) := (blk_cell BK200.out 7).trans rfl; have hcz14_8 : w13.cell? ⟨gb200, 8, none⟩ = some (.int .u16 a1_8) := (blk_cell BK200.out 8).trans rfl; have hcz14_9 : w13.cell? ⟨gb200, 9, none⟩ = some (.int .u16 a1_9) := (blk_cell BK200.out 9).trans rfl; have hcz14_10 : w13.cell? ⟨gb200, 10, none⟩ = some (.int .i64 a1_10) := (blk_cell BK200.out 10).trans rfl; have hcz14_11 : w13.cell? ⟨gb200, 11, none⟩ = some (.string a1_11) := (blk_cell BK200.out 11).trans rfl; have hcz14_12 : w13.cell? ⟨gb200, 12, none⟩ = some (.bool a1_12) := (blk_cell BK200.out 12).trans rfl; have hcz14_13 : w13.cell? ⟨gb200, 13, none⟩ = some (.int .i64 a1_13) := (blk_cell BK200.out 13).trans rfl; have hcz14_14 : w13.cell? ⟨gb200, 14, none⟩ = some (.slice A1_14 l1_14.length c1_14) := (blk_cell BK200.out 14).trans rfl; have hcz14_15 : w13.cell? ⟨gb200, 15, none⟩ = some (.slice A1_15 l1_15.length c1_15) := (blk_cell BK200.out 15).trans rfl; have hcz14_16 : w13.cell? ⟨gb200, 16, none⟩ = some (.slice A1_16 l1_16.length c1_16) := (blk_cell BK200.out 16).trans rfl; have hfz14_0 := blk_frozen BK200.out 0; have hfz14_1 := blk_frozen BK200.out 1; have hfz14_2 := blk_frozen BK200.out 2; have hfz14_3 := blk_frozen BK200.out 3; have hfz14_4 := blk_frozen BK200.out 4; have hfz14_5 := blk_frozen BK200.out 5; have hfz14_6 := blk_frozen BK200.out 6; have hfz14_7 := blk_frozen BK200.out 7; have hfz14_8 := blk_frozen BK200.out 8; have hfz14_9 := blk_frozen BK200.out 9; have hfz14_10 := blk_frozen BK200.out 10; have hfz14_11 := blk_frozen BK200.out 11; have hfz14_12 := blk_frozen BK200.out 12; have hfz14_13 := blk_frozen BK200.out 13; have hfz14_14 := blk_frozen BK200.out 14; have hfz14_15 := blk_frozen BK200.out 15; have hfz14_16 := blk_frozen BK200.out 16; have hnb15 := NB199_201.out; have hnc15 := NB201_199.out; have hcz16_0 : w13.cell? ⟨gb199, 0, none⟩ = some (.int .u16 a0_0) := (blk_cell BK199.out 0).trans rfl; have hcz16_1 : w13.cell? ⟨gb199, 1, none⟩ = some (.int .u16 a0_1) := (blk_cell BK199.out 1).trans rfl; have hcz16_2 : w13.cell? ⟨gb199, 2, none⟩ = some (.slice A0_2 l0_2.length c0_2) := (blk_cell BK199.out 2).trans rfl; have hfz16_0 := blk_frozen BK199.out 0; have hfz16_1 := blk_frozen BK199.out 1; have hfz16_2 := blk_frozen BK199.out 2))
      go_meet
      case rel => exact ⟨_, ((!(a1_0 == a0_0) || (!(a1_1 == a0_1)))), (by first | rfl | (simp; done) | (simp [*]; done)), H', ⟨by first | omega | exact Nat.le_refl _⟩, ⟨by (with_reducible repeat (first | apply Kd.V_alloc | apply Kd.V_drewN | apply Kd.V_drew)); exact Kd.V_mono HO0_2.out (fun _ hk => ⟨hk.1.1.1, ⟨hk.1.1.2, ⟨hk.1.2, hk.2⟩⟩⟩)⟩, ⟨by (with_reducible repeat (first | apply Kd.V_alloc | apply Kd.V_drewN | apply Kd.V_drew)); exact Kd.V_mono HO1_14.out (fun _ hk => ⟨hk.1.1.1, ⟨hk.1.1.2, ⟨hk.1.2, hk.2⟩⟩⟩)⟩, ⟨by (with_reducible repeat (first | apply Kd.V_alloc | apply Kd.V_drewN | apply Kd.V_drew)); exact Kd.V_mono HO1_15.out (fun _ hk => ⟨hk.1.1.1, ⟨hk.1.1.2, ⟨hk.1.2, hk.2⟩⟩⟩)⟩, ⟨by (with_reducible repeat (first | apply Kd.V_alloc | apply Kd.V_drewN | apply Kd.V_drew)); exact Kd.V_mono HO1_16.out (fun _ hk => ⟨hk.1.1.1, ⟨hk.1.1.2, ⟨hk.1.2, hk.2⟩⟩⟩)⟩, ⟨by (with_reducible repeat (first | refine blk_drewN ?_ _ | refine blk_drew ?_ | refine blk_alloc ?_ _)); exact BK199.out⟩, ⟨by (with_reducible repeat (first | refine blk_drewN ?_ _ | refine blk_drew ?_ | refine blk_alloc ?_ _)); exact BK200.out⟩, ⟨by (with_reducible repeat (first | refine blk_drewN ?_ _ | refine blk_drew ?_ | refine blk_alloc ?_ _)); exact BK201.out⟩, ⟨by repeat (first | (with_reducible first | exact HB.out | apply below_alloc | apply pw_below_drewN | apply below_drew1 | refine below_set ?_ GE199.out | refine below_set ?_ GE200.out | refine below_set ?_ GE201.out) | exact HB.out)⟩⟩
    · replace c9 := Bool.eq_false_iff.mpr c9
      subst c9
      have H1 : (forepeakref26_Put.j0 k a2 true a0_0 a0_1 l0_2 a1_0 a1_1 a1_2 a1_3 a1_4 a1_5 a1_6 a1_7 a1_8 a1_9 a1_10 a1_11 a1_12 a1_13 l1_14 l1_15 l1_16) = some (r1, r2, r3, r4) := by rw [if_neg (show ¬ (false = true) by decide)] at H; exact H
      clear H
      have H := H1
      clear H1
      have H' := Aside0.mk H
      clear H
      have hnb17 := NB200_199.out
      have hnc17 := NB199_200.out
      have hnb18 := NB200_201.out
      have hnc18 := NB201_200.out
      have hcz19_0 : w7.cell? ⟨gb200, 0, none⟩ = some (.int .u16 a1_0) := (blk_cell BK200.out 0).trans rfl
      have hcz19_1 : w7.cell? ⟨gb200, 1, none⟩ = some (.int .u16 a1_1) := (blk_cell BK200.out 1).trans rfl
      have hcz19_2 : w7.cell? ⟨gb200, 2, none⟩ = some (.int .i64 a1_2) := (blk_cell BK200.out 2).trans rfl
      have hcz19_3 : w7.cell? ⟨gb200, 3, none⟩ = some (.int .i64 a1_3) := (blk_cell BK200.out 3).trans rfl
      have hcz19_4 : w7.cell? ⟨gb200, 4, none⟩ = some (.int .u16 a1_4) := (blk_cell BK200.out 4).trans rfl
      have hcz19_5 : w7.cell? ⟨gb200, 5, none⟩ = some (.int .u16 a1_5) := (blk_cell BK200.out 5).trans rfl
      have hcz19_6 : w7.cell? ⟨gb200, 6, none⟩ = some (.int .i64 a1_6) := (blk_cell BK200.out 6).trans rfl
      have hcz19_7 : w7.cell? ⟨gb200, 7, none⟩ = some (.bool a1_7) := (blk_cell BK200.out 7).trans rfl
      have hcz19_8 : w7.cell? ⟨gb200, 8, none⟩ = some (.int .u16 a1_8) := (blk_cell BK200.out 8).trans rfl
      have hcz19_9 : w7.cell? ⟨gb200, 9, none⟩ = some (.int .u16 a1_9) := (blk_cell BK200.out 9).trans rfl
      have hcz19_10 : w7.cell? ⟨gb200, 10, none⟩ = some (.int .i64 a1_10) := (blk_cell BK200.out 10).trans rfl
      have hcz19_11 : w7.cell? ⟨gb200, 11, none⟩ = some (.string a1_11) := (blk_cell BK200.out 11).trans rfl
      have hcz19_12 : w7.cell? ⟨gb200, 12, none⟩ = some (.bool a1_12) := (blk_cell BK200.out 12).trans rfl
      have hcz19_13 : w7.cell? ⟨gb200, 13, none⟩ = some (.int .i64 a1_13) := (blk_cell BK200.out 13).trans rfl
      have hcz19_14 : w7.cell? ⟨gb200, 14, none⟩ = some (.slice A1_14 l1_14.length c1_14) := (blk_cell BK200.out 14).trans rfl
      have hcz19_15 : w7.cell? ⟨gb200, 15, none⟩ = some (.slice A1_15 l1_15.length c1_15) := (blk_cell BK200.out 15).trans rfl
      have hcz19_16 : w7.cell? ⟨gb200, 16, none⟩ = some (.slice A1_16 l1_16.length c1_16) := (blk_cell BK200.out 16).trans rfl
      have hfz19_0 := blk_frozen BK200.out 0
      have hfz19_1 := blk_frozen BK200.out 1
      have hfz19_2 := blk_frozen BK200.out 2
      have hfz19_3 := blk_frozen BK200.out 3
      have hfz19_4 := blk_frozen BK200.out 4
      have hfz19_5 := blk_frozen BK200.out 5
      have hfz19_6 := blk_frozen BK200.out 6
      have hfz19_7 := blk_frozen BK200.out 7
      have hfz19_8 := blk_frozen BK200.out 8
      have hfz19_9 := blk_frozen BK200.out 9
      have hfz19_10 := blk_frozen BK200.out 10
      have hfz19_11 := blk_frozen BK200.out 11
      have hfz19_12 := blk_frozen BK200.out 12
      have hfz19_13 := blk_frozen BK200.out 13
      have hfz19_14 := blk_frozen BK200.out 14
      have hfz19_15 := blk_frozen BK200.out 15
      have hfz19_16 := blk_frozen BK200.out 16
      go_wp2_with (first | ((with_reducible refine gate_callee (f := 43) rfl ?_); refine goesL_ (some 11) rfl rfl Try.func43 (by kernel_rfl) rfl #[.agg #[.int .u16 a1_0, .int .u16 a1_1, .int .i64 a1_2, .int .i64 a1_3]] rfl (by (try simp only [List.map_toArray, List.map_cons, List.map_nil]); first | done | rfl | (simp only [List.length_drop, List.length_take]; rfl)) ?_; (with_reducible refine (forepeakref21_Fine.calls a1_0 a1_1 a1_2 a1_3 false _ A8.out).mono ?_); rintro e w20 ⟨rfl, hb⟩; refine ⟨_, rfl, ?_⟩; have n0_ := Aside0.mk (Kd.V_below (by (with_reducible repeat (first | apply Kd.V_alloc | apply Kd.V_drewN | apply Kd.V_drew)); exact HO0_2.out) hb); have n1_ := Aside0.mk (Kd.V_below (by (with_reducible repeat (first | apply Kd.V_alloc | apply Kd.V_drewN | apply Kd.V_drew)); exact HO1_14.out) hb); have n2_ := Aside0.mk (Kd.V_below (by (with_reducible repeat (first | apply Kd.V_alloc | apply Kd.V_drewN | apply Kd.V_drew)); exact HO1_15.out) hb); have n3_ := Aside0.mk (Kd.V_below (by (with_reducible repeat (first | apply Kd.V_alloc | apply Kd.V_drewN | apply Kd.V_drew)); exact HO1_16.out) hb); have n4_ := Aside0.mk (blk_below (g := gb199) (o := .cells #[.int .u16 a0_0, .int .u16 a0_1, .slice A0_2 l0_2.length c0_2] 31 (0, 0)) (by (with_reducible repeat (first | refine blk_drewN ?_ _ | refine blk_drew ?_ | refine blk_alloc ?_ _)); exact BK199.out) hb); have n5_ := Aside0.mk (blk_below (g := gb200) (o := .cells #[.int .u16 a1_0, .int .u16 a1_1, .int .i64 a1_2, .int .i64 a1_3, .int .u16 a1_4, .int .u16 a1_5, .int .i64 a1_6, .bool a1_7, .int .u16 a1_8, .int .u16 a1_9, .int .i64 a1_10, .string a1_11, .bool a1_12, .int .i64 a1_13, .slice A1_14 l1_14.length c1_14, .slice A1_15 l1_15.length c1_15, .slice A1_16 l1_16.length c1_16] 39 (0, 0)) (by (with_reducible repeat (first | refine blk_drewN ?_ _ | refine blk_drew ?_ | refine blk_alloc ?_ _)); exact BK200.out) hb); have n6_ := Aside0.mk (blk_below (g := gb201) (o := .cells #[.int .u16 0, .int .u16 0, .slice none 0 0] 31 (0, 0)) (by (with_reducible repeat (first | refine blk_drewN ?_ _ | refine blk_drew ?_ | refine blk_alloc ?_ _)); exact BK201.out) hb); have n7_ := Aside0.mk (below_step (by repeat (first | (with_reducible first | exact HB.out | apply below_alloc | apply pw_below_drewN | apply below_drew1 | refine below_set ?_ GE199.out | refine below_set ?_ GE200.out | refine below_set ?_ GE201.out) | exact HB.out)) hb); clear HO0_2; clear HO1_14; clear HO1_15; clear HO1_16; clear BK199; clear BK200; clear BK201; clear HB; have HO0_2 := n0_; have HO1_14 := n1_; have HO1_15 := n2_; have HO1_16 := n3_; have BK199 := n4_; have BK200 := n5_; have BK201 := n6_; have HB := n7_; clear n0_ n1_ n2_ n3_ n4_ n5_ n6_ n7_; (try clear hb); (try clear hb2); (try clear hk); (try clear hi)))
      go_meet
      case rel => exact ⟨_, (true), (by first | rfl | (simp; done) | (simp [*]; done)), H', ⟨by first | omega | exact Nat.le_refl _⟩, ⟨by (with_reducible repeat (first | apply Kd.V_alloc | apply Kd.V_drewN | apply Kd.V_drew)); exact Kd.V_mono HO0_2.out (fun _ hk => ⟨hk.1.1.1, ⟨hk.1.1.2, ⟨hk.1.2, hk.2⟩⟩⟩)⟩, ⟨by (with_reducible repeat (first | apply Kd.V_alloc | apply Kd.V_drewN | apply Kd.V_drew)); exact Kd.V_mono HO1_14.out (fun _ hk => ⟨hk.1.1.1, ⟨hk.1.1.2, ⟨hk.1.2, hk.2⟩⟩⟩)⟩, ⟨by (with_reducible repeat (first | apply Kd.V_alloc | apply Kd.V_drewN | apply Kd.V_drew)); exact Kd.V_mono HO1_15.out (fun _ hk => ⟨hk.1.1.1, ⟨hk.1.1.2, ⟨hk.1.2, hk.2⟩⟩⟩)⟩, ⟨by (with_reducible repeat (first | apply Kd.V_alloc | apply Kd.V_drewN | apply Kd.V_drew)); exact Kd.V_mono HO1_16.out (fun _ hk => ⟨hk.1.1.1, ⟨hk.1.1.2, ⟨hk.1.2, hk.2⟩⟩⟩)⟩, ⟨by (with_reducible repeat (first | refine blk_drewN ?_ _ | refine blk_drew ?_ | refine blk_alloc ?_ _)); exact BK199.out⟩, ⟨by (with_reducible repeat (first | refine blk_drewN ?_ _ | refine blk_drew ?_ | refine blk_alloc ?_ _)); exact BK200.out⟩, ⟨by (with_reducible repeat (first | refine blk_drewN ?_ _ | refine blk_drew ?_ | refine blk_alloc ?_ _)); exact BK201.out⟩, ⟨by repeat (first | (with_reducible first | exact HB.out | apply below_alloc | apply pw_below_drewN | apply below_drew1 | refine below_set ?_ GE199.out | refine below_set ?_ GE200.out | refine below_set ?_ GE201.out) | exact HB.out)⟩⟩
  case rest =>
    clear HC4
    try clear c1
    try clear p2
    try clear c4
    try clear c9
    try clear c10
    try clear c11
    try clear c14
    try clear c15
    try clear c17
    try clear c18
    try clear hcz12_0
    try clear hcz12_1
    try clear hcz12_10
    try clear hcz12_11
    try clear hcz12_12
    try clear hcz12_13
    try clear hcz12_14
    try clear hcz12_15
    try clear hcz12_16
    try clear hcz12_2
    try clear hcz12_3
    try clear hcz12_4
    try clear hcz12_5
    try clear hcz12_6
    try clear hcz12_7
    try clear hcz12_8
    try clear hcz12_9
    try clear hcz14_0
    try clear hcz14_1
    try clear hcz14_10
    try clear hcz14_11
    try clear hcz14_12
    try clear hcz14_13
    try clear hcz14_14
    try clear hcz14_15
    try clear hcz14_16
    try clear hcz14_2
    try clear hcz14_3
    try clear hcz14_4
    try clear hcz14_5
    try clear hcz14_6
    try clear hcz14_7
    try clear hcz14_8
    try clear hcz14_9
    try clear hcz16_0
    try clear hcz16_1
    try clear hcz16_2
    try clear hcz19_0
    try clear hcz19_1
    try clear hcz19_10
    try clear hcz19_11
    try clear hcz19_12
    try clear hcz19_13
    try clear hcz19_14
    try clear hcz19_15
    try clear hcz19_16
    try clear hcz19_2
    try clear hcz19_3
    try clear hcz19_4
    try clear hcz19_5
    try clear hcz19_6
    try clear hcz19_7
    try clear hcz19_8
    try clear hcz19_9
    try clear hfz12_0
    try clear hfz12_1
    try clear hfz12_10
    try clear hfz12_11
    try clear hfz12_12
    try clear hfz12_13
    try clear hfz12_14
    try clear hfz12_15
    try clear hfz12_16
    try clear hfz12_2
    try clear hfz12_3
    try clear hfz12_4
    try clear hfz12_5
    try clear hfz12_6
    try clear hfz12_7
    try clear hfz12_8
    try clear hfz12_9
    try clear hfz14_0
    try clear hfz14_1
    try clear hfz14_10
    try clear hfz14_11
    try clear hfz14_12
    try clear hfz14_13
    try clear hfz14_14
    try clear hfz14_15
    try clear hfz14_16
    try clear hfz14_2
    try clear hfz14_3
    try clear hfz14_4
    try clear hfz14_5
    try clear hfz14_6
    try clear hfz14_7
    try clear hfz14_8
    try clear hfz14_9
    try clear hfz16_0
    try clear hfz16_1
    try clear hfz16_2
    try clear hfz19_0
    try clear hfz19_1
    try clear hfz19_10
    try clear hfz19_11
    try clear hfz19_12
    try clear hfz19_13
    try clear hfz19_14
    try clear hfz19_15
    try clear hfz19_16
    try clear hfz19_2
    try clear hfz19_3
    try clear hfz19_4
    try clear hfz19_5
    try clear hfz19_6
    try clear hfz19_7
    try clear hfz19_8
    try clear hfz19_9
    obtain ⟨kq, x20_3, rfl, HA, HJ3, HO_200002, HO_201014, HO_201015, HO_201016, BK199, BK200, BK201, HB⟩ := hcut
    cases kq with
    | zero => exact absurd HA.out (by simp [forepeakref26_Put.j0])
    | succ kj3 =>
      have H := HA.out
      clear HA
      simp only [forepeakref26_Put.j0] at H
      by_cases c21 : x20_3 = true
      · subst c21
        have H1 : (some (a0_0, a0_1, l0_2, 1)) = some (r1, r2, r3, r4) := by rw [if_pos rfl] at H; exact H
        clear H
        have H := H1
        clear H1
        simp only [Option.some.injEq, Prod.mk.injEq] at H
        obtain ⟨rfl, rfl, rfl, rfl⟩ := H
        have hnb22 := NB199_200.out
        have hnc22 := NB200_199.out
        have hnb23 := NB199_201.out
        have hnc23 := NB201_199.out
        have hcz24_0 : wc.cell? ⟨gb199, 0, none⟩ = some (.int .u16 a0_0) := (blk_cell BK199.out 0).trans rfl
        have hcz24_1 : wc.cell? ⟨gb199, 1, none⟩ = some (.int .u16 a0_1) := (blk_cell BK199.out 1).trans rfl
        have hcz24_2 : wc.cell? ⟨gb199, 2, none⟩ = some (.slice A0_2 l0_2.length c0_2) := (blk_cell BK199.out 2).trans rfl
        have hfz24_0 := blk_frozen BK199.out 0
        have hfz24_1 := blk_frozen BK199.out 1
        have hfz24_2 := blk_frozen BK199.out 2
        have hnb25 := NB201_200.out
        have hnc25 := NB200_201.out
        have hcz26_0 : wc.cell? ⟨gb201, 0, none⟩ = some (.int .u16 0) := (blk_cell BK201.out 0).trans rfl
        have hcz26_1 : wc.cell? ⟨gb201, 1, none⟩ = some (.int .u16 0) := (blk_cell BK201.out 1).trans rfl
        have hcz26_2 : wc.cell? ⟨gb201, 2, none⟩ = some (.slice none 0 0) := (blk_cell BK201.out 2).trans rfl
        have hfz26_0 := blk_frozen BK201.out 0
        have hfz26_1 := blk_frozen BK201.out 1
        have hfz26_2 := blk_frozen BK201.out 2
        go_wp2
        refine bodyPost_ret (results_ct rfl _ _ gb201 31 #[.int .u16 a0_0, .int .u16 a0_1, .slice A0_2 l0_2.length c0_2] (0, 0) _ rfl (by (with_reducible repeat (first | refine blk_drewN ?_ _ | refine blk_drew ?_ | refine blk_alloc ?_ _)); refine blk_put (cs := #[.int .u16 a0_0, .int .u16 a0_1, .slice none 0 0]) ?_ 2 _ rfl; (with_reducible repeat (first | refine blk_drewN ?_ _ | refine blk_drew ?_ | refine blk_alloc ?_ _)); refine blk_put (cs := #[.int .u16 a0_0, .int .u16 0, .slice none 0 0]) ?_ 1 _ rfl; (with_reducible repeat (first | refine blk_drewN ?_ _ | refine blk_drew ?_ | refine blk_alloc ?_ _)); refine blk_put (cs := #[.int .u16 0, .int .u16 0, .slice none 0 0]) ?_ 0 _ rfl; (with_reducible repeat (first | refine blk_drewN ?_ _ | refine blk_drew ?_ | refine blk_alloc ?_ _)); exact BK201.out) Try.underlying31 rfl (by kernel_rfl)) rfl ?_
        exact ⟨_, by first | rfl | (simp [errW_none, errW_some] <;> rfl) | (simp [*, errW_none, errW_some] <;> rfl), by (with_reducible repeat (first | apply Kd.V_alloc | apply Kd.V_drewN | apply Kd.V_drew)); exact Kd.V_mono (Kd.V_far (p := ⟨gb201, 2, none⟩) (Kd.V_far (p := ⟨gb201, 1, none⟩) (Kd.V_far (p := ⟨gb201, 0, none⟩) (Kd.V_mono HO_200002.out (fun k_ hk => (⟨hk, hk.2.2.2⟩ : _ ∧ k_ ≠ gb201))) (fun _ hk => hk.2) (.int .u16 a0_0)) (fun _ hk => hk.2) (.int .u16 a0_1)) (fun _ hk => hk.2) (.slice A0_2 l0_2.length c0_2)) (fun _ hk => hk.1.1), by repeat (first | (with_reducible first | exact HB.out | apply below_alloc | apply pw_below_drewN | apply below_drew1 | refine below_set ?_ GE199.out | refine below_set ?_ GE200.out | refine below_set ?_ GE201.out) | exact HB.out)⟩
      · replace c21 := Bool.eq_false_iff.mpr c21
        subst c21
        have H1 : ((forepeakref21_Lane.f kj3 a1_0 a1_1 a1_2 a1_3).bind fun t203 => ((forepeakref26_at.f kj3 a0_0 a0_1 l0_2 t203).bind fun t204 => (if a2 = true then (forepeakref26_Put.j1 kj3 a2 t204 false a0_0 a0_1 l0_2 a1_0 a1_1 a1_2 a1_3 a1_4 a1_5 a1_6 a1_7 a1_8 a1_9 a1_10 a1_11 a1_12 a1_13 l1_14 l1_15 l1_16) else (forepeakref26_Put.j1 kj3 a2 t204 (decide (t204 ≥ 0)) a0_0 a0_1 l0_2 a1_0 a1_1 a1_2 a1_3 a1_4 a1_5 a1_6 a1_7 a1_8 a1_9 a1_10 a1_11 a1_12 a1_13 l1_14 l1_15 l1_16)))) = some (r1, r2, r3, r4) := by rw [if_neg (show ¬ (false = true) by decide)] at H; exact H
        clear H
        have H := H1
        clear H1
        replace H := Option.bind_eq_some_iff.mp H
        obtain ⟨t203, A270, H⟩ := H
        replace H : ((forepeakref26_at.f kj3 a0_0 a0_1 l0_2 t203).bind fun t204 => (if a2 = true then (forepeakref26_Put.j1 kj3 a2 t204 false a0_0 a0_1 l0_2 a1_0 a1_1 a1_2 a1_3 a1_4 a1_5 a1_6 a1_7 a1_8 a1_9 a1_10 a1_11 a1_12 a1_13 l1_14 l1_15 l1_16) else (forepeakref26_Put.j1 kj3 a2 t204 (decide (t204 ≥ 0)) a0_0 a0_1 l0_2 a1_0 a1_1 a1_2 a1_3 a1_4 a1_5 a1_6 a1_7 a1_8 a1_9 a1_10 a1_11 a1_12 a1_13 l1_14 l1_15 l1_16))) = some (r1, r2, r3, r4) := H
        have A27 := Aside0.mk A270
        clear A270
        replace H := Option.bind_eq_some_iff.mp H
        obtain ⟨t204, A280, H⟩ := H
        replace H : (if a2 = true then (forepeakref26_Put.j1 kj3 a2 t204 false a0_0 a0_1 l0_2 a1_0 a1_1 a1_2 a1_3 a1_4 a1_5 a1_6 a1_7 a1_8 a1_9 a1_10 a1_11 a1_12 a1_13 l1_14 l1_15 l1_16) else (forepeakref26_Put.j1 kj3 a2 t204 (decide (t204 ≥ 0)) a0_0 a0_1 l0_2 a1_0 a1_1 a1_2 a1_3 a1_4 a1_5 a1_6 a1_7 a1_8 a1_9 a1_10 a1_11 a1_12 a1_13 l1_14 l1_15 l1_16)) = some (r1, r2, r3, r4) := H
        have A28 := Aside0.mk A280
        clear A280
        have HC29 := Aside0.mk H
        clear H
        try go_wp2
        have n0_ := Aside0.mk (Kd.V_drew HO_200002.out)
        have n1_ := Aside0.mk (Kd.V_drew HO_201014.out)
        have n2_ := Aside0.mk (Kd.V_drew HO_201015.out)
        have n3_ := Aside0.mk (Kd.V_drew HO_201016.out)
        have n4_ := Aside0.mk (blk_drew BK199.out)
        have n5_ := Aside0.mk (blk_drew BK200.out)
        have n6_ := Aside0.mk (blk_drew BK201.out)
        have n7_ := Aside0.mk (below_drew1 HB.out)
        clear HO_200002
        clear HO_201014
        clear HO_201015
        clear HO_201016
        clear BK199
        clear BK200
        clear BK201
        clear HB
        have HO_200002 := n0_
        have HO_201014 := n1_
        have HO_201015 := n2_
        have HO_201016 := n3_
        have BK199 := n4_
        have BK200 := n5_
        have BK201 := n6_
        have HB := n7_
        clear n0_ n1_ n2_ n3_ n4_ n5_ n6_ n7_
        refine start_ (n := 6) (S := fun w' => w'.cell? ⟨gb199, 0, none⟩ = some (.int .u16 a0_0) ∧ w'.cell? ⟨gb199, 1, none⟩ = some (.int .u16 a0_1) ∧ w'.cell? ⟨gb199, 2, none⟩ = some (.slice A0_2 l0_2.length c0_2) ∧ w'.cell? ⟨gb200, 0, none⟩ = some (.int .u16 a1_0) ∧ w'.cell? ⟨gb200, 1, none⟩ = some (.int .u16 a1_1) ∧ w'.cell? ⟨gb200, 2, none⟩ = some (.int .i64 a1_2) ∧ w'.cell? ⟨gb200, 3, none⟩ = some (.int .i64 a1_3) ∧ w'.cell? ⟨gb200, 4, none⟩ = some (.int .u16 a1_4) ∧ w'.cell? ⟨gb200, 5, none⟩ = some (.int .u16 a1_5) ∧ w'.cell? ⟨gb200, 6, none⟩ = some (.int .i64 a1_6) ∧ w'.cell? ⟨gb200, 7, none⟩ = some (.bool a1_7) ∧ w'.cell? ⟨gb200, 8, none⟩ = some (.int .u16 a1_8) ∧ w'.cell? ⟨gb200, 9, none⟩ = some (.int .u16 a1_9) ∧ w'.cell? ⟨gb200, 10, none⟩ = some (.int .i64 a1_10) ∧ w'.cell? ⟨gb200, 11, none⟩ = some (.string a1_11) ∧ w'.cell? ⟨gb200, 12, none⟩ = some (.bool a1_12) ∧ w'.cell? ⟨gb200, 13, none⟩ = some (.int .i64 a1_13) ∧ w'.cell? ⟨gb200, 14, none⟩ = some (.slice A1_14 l1_14.length c1_14) ∧ w'.cell? ⟨gb200, 15, none⟩ = some (.slice A1_15 l1_15.length c1_15) ∧ w'.cell? ⟨gb200, 16, none⟩ = some (.slice A1_16 l1_16.length c1_16)) (ds := []) #[false, false, false, false, false, false] (by kernel_rfl) rfl rfl ⟨(blk_cell BK199.out 0).trans rfl, (blk_cell BK199.out 1).trans rfl, (blk_cell BK199.out 2).trans rfl, (blk_cell BK200.out 0).trans rfl, (blk_cell BK200.out 1).trans rfl, (blk_cell BK200.out 2).trans rfl, (blk_cell BK200.out 3).trans rfl, (blk_cell BK200.out 4).trans rfl, (blk_cell BK200.out 5).trans rfl, (blk_cell BK200.out 6).trans rfl, (blk_cell BK200.out 7).trans rfl, (blk_cell BK200.out 8).trans rfl, (blk_cell BK200.out 9).trans rfl, (blk_cell BK200.out 10).trans rfl, (blk_cell BK200.out 11).trans rfl, (blk_cell BK200.out 12).trans rfl, (blk_cell BK200.out 13).trans rfl, (blk_cell BK200.out 14).trans rfl, (blk_cell BK200.out 15).trans rfl, (blk_cell BK200.out 16).trans rfl⟩ (fun hHeld => ?_)
        generalize wc.drew = w30 at HO_200002 HO_201014 HO_201015 HO_201016 BK199 BK200 BK201 HB hHeld ⊢
        refine pure_ (i := 1) (N := some 23) (v := ?_) (a' := ?_) #[false, true, false, false, false, false] rfl rfl (by kernel_rfl) (fun _ _ _ h => h) (Or.inl ⟨by rfl, ?_⟩) ?_ ?_
        rotate_left
        · intro w'
          go_simp
          with_reducible rfl
        rotate_left
        · simp only [Act.put, List.setIfInBounds_toArray, List.set_cons_zero, List.set_cons_succ, i64_w, i32_w]
          rfl
        refine take_ (i := 0) (N := some 22) (v := ?_) (a' := ?_) #[true, true, false, false, false, false] rfl rfl (by kernel_rfl) (fun _ _ _ h => h) (Or.inl ⟨by rfl, ?_⟩) hHeld ?_ ?_
        rotate_left
        · rintro w' ⟨s0, s1, s2, s3, s4, s5, s6, s7, s8, s9, s10, s11, s12, s13, s14, s15, s16, s17, s18, s19⟩
          go_simp
          with_reducible rfl
        rotate_left
        · simp only [Act.put, List.setIfInBounds_toArray, List.set_cons_zero, List.set_cons_succ, i64_w, i32_w]
          rfl
        refine take_ (i := 2) (N := some 24) (v := ?_) (a' := ?_) #[true, true, true, false, false, false] rfl rfl (by kernel_rfl) (fun _ _ _ h => h) (Or.inl ⟨by rfl, ?_⟩) hHeld ?_ ?_
        rotate_left
        · rintro w' ⟨s0, s1, s2, s3, s4, s5, s6, s7, s8, s9, s10, s11, s12, s13, s14, s15, s16, s17, s18, s19⟩
          go_simp
          with_reducible rfl
        rotate_left
        · simp only [Act.put, List.setIfInBounds_toArray, List.set_cons_zero, List.set_cons_succ, i64_w, i32_w]
          rfl
        refine one_ (i := 3) (N := some 25) #[true, true, true, true, false, false] rfl rfl (by kernel_rfl) (by decide) (fun K hK => ?_)
        refine goes_ Try.func45 (by kernel_rfl) rfl #[.agg #[.int .u16 a1_0, .int .u16 a1_1, .int .i64 a1_2, .int .i64 a1_3]] (by rfl) rfl rfl (by (try simp only [List.map_toArray, List.map_cons, List.map_nil]); first | done | rfl | (simp only [List.length_drop, List.length_take]; rfl)) ?_
        with_reducible refine (forepeakref21_Lane.calls kj3 a1_0 a1_1 a1_2 a1_3 t203 _ A27.out).mono ?_
        rintro e w31 ⟨rfl, hb⟩
        refine ⟨_, rfl, ?_⟩
        have n0_ := Aside0.mk (Kd.V_below (by (with_reducible repeat (first | apply Kd.V_alloc | apply Kd.V_drewN | apply Kd.V_drew)); exact HO_200002.out) hb)
        have n1_ := Aside0.mk (Kd.V_below (by (with_reducible repeat (first | apply Kd.V_alloc | apply Kd.V_drewN | apply Kd.V_drew)); exact HO_201014.out) hb)
        have n2_ := Aside0.mk (Kd.V_below (by (with_reducible repeat (first | apply Kd.V_alloc | apply Kd.V_drewN | apply Kd.V_drew)); exact HO_201015.out) hb)
        have n3_ := Aside0.mk (Kd.V_below (by (with_reducible repeat (first | apply Kd.V_alloc | apply Kd.V_drewN | apply Kd.V_drew)); exact HO_201016.out) hb)
        have n4_ := Aside0.mk (blk_below (g := gb199) (o := .cells #[.int .u16 a0_0, .int .u16 a0_1, .slice A0_2 l0_2.length c0_2] 31 (0, 0)) (by (with_reducible repeat (first | refine blk_drewN ?_ _ | refine blk_drew ?_ | refine blk_alloc ?_ _)); exact BK199.out) hb)
        have n5_ := Aside0.mk (blk_below (g := gb200) (o := .cells #[.int .u16 a1_0, .int .u16 a1_1, .int .i64 a1_2, .int .i64 a1_3, .int .u16 a1_4, .int .u16 a1_5, .int .i64 a1_6, .bool a1_7, .int .u16 a1_8, .int .u16 a1_9, .int .i64 a1_10, .string a1_11, .bool a1_12, .int .i64 a1_13, .slice A1_14 l1_14.length c1_14, .slice A1_15 l1_15.length c1_15, .slice A1_16 l1_16.length c1_16] 39 (0, 0)) (by (with_reducible repeat (first | refine blk_drewN ?_ _ | refine blk_drew ?_ | refine blk_alloc ?_ _)); exact BK200.out) hb)
        have n6_ := Aside0.mk (blk_below (g := gb201) (o := .cells #[.int .u16 0, .int .u16 0, .slice none 0 0] 31 (0, 0)) (by (with_reducible repeat (first | refine blk_drewN ?_ _ | refine blk_drew ?_ | refine blk_alloc ?_ _)); exact BK201.out) hb)
        have n7_ := Aside0.mk (below_step (by repeat (first | (with_reducible first | exact HB.out | apply below_alloc | apply pw_below_drewN | apply below_drew1 | refine below_set ?_ GE199.out | refine below_set ?_ GE200.out | refine below_set ?_ GE201.out) | exact HB.out)) hb)
        clear HO_200002
        clear HO_201014
        clear HO_201015
        clear HO_201016
        clear BK199
        clear BK200
        clear BK201
        clear HB
        have HO_200002 := n0_
        have HO_201014 := n1_
        have HO_201015 := n2_
        have HO_201016 := n3_
        have BK199 := n4_
        have BK200 := n5_
        have BK201 := n6_
        have HB := n7_
        clear n0_ n1_ n2_ n3_ n4_ n5_ n6_ n7_
        (try clear hb)
        (try clear hb2)
        (try clear hk)
        (try clear hi)
        refine hK.out _ _ ⟨(blk_cell BK199.out 0).trans rfl, (blk_cell BK199.out 1).trans rfl, (blk_cell BK199.out 2).trans rfl, (blk_cell BK200.out 0).trans rfl, (blk_cell BK200.out 1).trans rfl, (blk_cell BK200.out 2).trans rfl, (blk_cell BK200.out 3).trans rfl, (blk_cell BK200.out 4).trans rfl, (blk_cell BK200.out 5).trans rfl, (blk_cell BK200.out 6).trans rfl, (blk_cell BK200.out 7).trans rfl, (blk_cell BK200.out 8).trans rfl, (blk_cell BK200.out 9).trans rfl, (blk_cell BK200.out 10).trans rfl, (blk_cell BK200.out 11).trans rfl, (blk_cell BK200.out 12).trans rfl, (blk_cell BK200.out 13).trans rfl, (blk_cell BK200.out 14).trans rfl, (blk_cell BK200.out 15).trans rfl, (blk_cell BK200.out 16).trans rfl⟩ (fun hHeld => ?_)
        clear hK K
        refine norm_ (a' := ?_) ?_ ?_
        rotate_left
        · show Act.put _ (some 25) _ = _
          simp only [Act.put, List.setIfInBounds_toArray, List.set_cons_zero, List.set_cons_succ, i64_w, i32_w]
          rfl
        refine one_ (i := 4) (N := some 26) #[true, true, true, true, true, false] rfl rfl (by kernel_rfl) (by decide) (fun K hK => ?_)
        refine goes_ Try.func44 (by kernel_rfl) rfl #[.agg #[.int .u16 a0_0, .int .u16 a0_1, .slice A0_2 l0_2.length c0_2], .int .i64 t203] (by rfl) rfl rfl (by (try simp only [List.map_toArray, List.map_cons, List.map_nil]); first | done | rfl | (simp only [List.length_drop, List.length_take]; rfl)) ?_
        with_reducible refine (forepeakref26_at.calls kj3 a0_0 a0_1 _ _ l0_2 t203 t204 _ ?side1 ?side2 A28.out).mono ?_
        (case side1 => repeat (first | exact (Kd.V_reads' HO_200002.out).2.2 | (with_reducible refine Kd.C_alloc ?_ _) | (with_reducible refine Kd.C_drewN ?_ _) | (with_reducible refine Kd.C_drew ?_)))
        (case side2 => exact (Kd.V_reads' HO_200002.out).2.1)
        rintro e w32 ⟨rfl, hb⟩
        refine ⟨_, rfl, ?_⟩
        have n0_ := Aside0.mk (Kd.V_below (by (with_reducible repeat (first | apply Kd.V_alloc | apply Kd.V_drewN | apply Kd.V_drew)); exact HO_200002.out) hb)
        have n1_ := Aside0.mk (Kd.V_below (by (with_reducible repeat (first | apply Kd.V_alloc | apply Kd.V_drewN | apply Kd.V_drew)); exact HO_201014.out) hb)
        have n2_ := Aside0.mk (Kd.V_below (by (with_reducible repeat (first | apply Kd.V_alloc | apply Kd.V_drewN | apply Kd.V_drew)); exact HO_201015.out) hb)
        have n3_ := Aside0.mk (Kd.V_below (by (with_reducible repeat (first | apply Kd.V_alloc | apply Kd.V_drewN | apply Kd.V_drew)); exact HO_201016.out) hb)
        have n4_ := Aside0.mk (blk_below (g := gb199) (o := .cells #[.int .u16 a0_0, .int .u16 a0_1, .slice A0_2 l0_2.length c0_2] 31 (0, 0)) (by (with_reducible repeat (first | refine blk_drewN ?_ _ | refine blk_drew ?_ | refine blk_alloc ?_ _)); exact BK199.out) hb)
        have n5_ := Aside0.mk (blk_below (g := gb200) (o := .cells #[.int .u16 a1_0, .int .u16 a1_1, .int .i64 a1_2, .int .i64 a1_3, .int .u16 a1_4, .int .u16 a1_5, .int .i64 a1_6, .bool a1_7, .int .u16 a1_8, .int .u16 a1_9, .int .i64 a1_10, .string a1_11, .bool a1_12, .int .i64 a1_13, .slice A1_14 l1_14.length c1_14, .slice A1_15 l1_15.length c1_15, .slice A1_16 l1_16.length c1_16] 39 (0, 0)) (by (with_reducible repeat (first | refine blk_drewN ?_ _ | refine blk_drew ?_ | refine blk_alloc ?_ _)); exact BK200.out) hb)
        have n6_ := Aside0.mk (blk_below (g := gb201) (o := .cells #[.int .u16 0, .int .u16 0, .slice none 0 0] 31 (0, 0)) (by (with_reducible repeat (first | refine blk_drewN ?_ _ | refine blk_drew ?_ | refine blk_alloc ?_ _)); exact BK201.out) hb)
        have n7_ := Aside0.mk (below_step (by repeat (first | (with_reducible first | exact HB.out | apply below_alloc | apply pw_below_drewN | apply below_drew1 | refine below_set ?_ GE199.out | refine below_set ?_ GE200.out | refine below_set ?_ GE201.out) | exact HB.out)) hb)
        clear HO_200002
        clear HO_201014
        clear HO_201015
        clear HO_201016
        clear BK199
        clear BK200
        clear BK201
        clear HB
        have HO_200002 := n0_
        have HO_201014 := n1_
        have HO_201015 := n2_
        have HO_201016 := n3_
        have BK199 := n4_
        have BK200 := n5_
        have BK201 := n6_
        have HB := n7_
        clear n0_ n1_ n2_ n3_ n4_ n5_ n6_ n7_
        (try clear hb)
        (try clear hb2)
        (try clear hk)
        (try clear hi)
        refine hK.out _ _ ⟨(blk_cell BK199.out 0).trans rfl, (blk_cell BK199.out 1).trans rfl, (blk_cell BK199.out 2).trans rfl, (blk_cell BK200.out 0).trans rfl, (blk_cell BK200.out 1).trans rfl, (blk_cell BK200.out 2).trans rfl, (blk_cell BK200.out 3).trans rfl, (blk_cell BK200.out 4).trans rfl, (blk_cell BK200.out 5).trans rfl, (blk_cell BK200.out 6).trans rfl, (blk_cell BK200.out 7).trans rfl, (blk_cell BK200.out 8).trans rfl, (blk_cell BK200.out 9).trans rfl, (blk_cell BK200.out 10).trans rfl, (blk_cell BK200.out 11).trans rfl, (blk_cell BK200.out 12).trans rfl, (blk_cell BK200.out 13).trans rfl, (blk_cell BK200.out 14).trans rfl, (blk_cell BK200.out 15).trans rfl, (blk_cell BK200.out 16).trans rfl⟩ (fun hHeld => ?_)
        clear hK K
        refine norm_ (a' := ?_) ?_ ?_
        rotate_left
        · show Act.put _ (some 26) _ = _
          simp only [Act.put, List.setIfInBounds_toArray, List.set_cons_zero, List.set_cons_succ, i64_w, i32_w]
          rfl
        refine pure_ (i := 5) (N := some 8) (v := ?_) (a' := ?_) #[true, true, true, true, true, true] rfl rfl (by kernel_rfl) (fun _ _ _ h => h) (Or.inl ⟨by rfl, ?_⟩) ?_ ?_
        rotate_left
        · intro w'
          go_simp
          with_reducible rfl
        rotate_left
        · simp only [Act.put, List.setIfInBounds_toArray, List.set_cons_zero, List.set_cons_succ, i64_w, i32_w]
          rfl
        refine done_ (by kernel_rfl) ?_
        go_upto_region 4 with (fail)
        go_cut [32] (fun v32 wc => ∃ (kq : Nat) (x32_28 : Bool), v32 = .bool x32_28 ∧ Aside0 (forepeakref26_Put.j1 kq a2 t204 x32_28 a0_0 a0_1 l0_2 a1_0 a1_1 a1_2 a1_3 a1_4 a1_5 a1_6 a1_7 a1_8 a1_9 a1_10 a1_11 a1_12 a1_13 l1_14 l1_15 l1_16 = some (r1, r2, r3, r4)) ∧ Aside0 (kq ≤ kj3) ∧ Aside0 (Kd.V k39 39 wc w.heap.size (fun k_ => ((P0_2_ k_ ∨ P1_14_ k_ ∨ P1_15_ k_ ∨ P1_16_ k_) ∨ w.heap.size ≤ k_) ∧ k_ ≠ gb199 ∧ k_ ≠ gb200 ∧ k_ ≠ gb201) (.slice A0_2 l0_2.length c0_2) l0_2) ∧ Aside0 (Kd.V k89 89 wc w.heap.size (fun k_ => ((P0_2_ k_ ∨ P1_14_ k_ ∨ P1_15_ k_ ∨ P1_16_ k_) ∨ w.heap.size ≤ k_) ∧ k_ ≠ gb199 ∧ k_ ≠ gb200 ∧ k_ ≠ gb201) (.slice A1_14 l1_14.length c1_14) l1_14) ∧ Aside0 (Kd.V k89 89 wc w.heap.size (fun k_ => ((P0_2_ k_ ∨ P1_14_ k_ ∨ P1_15_ k_ ∨ P1_16_ k_) ∨ w.heap.size ≤ k_) ∧ k_ ≠ gb199 ∧ k_ ≠ gb200 ∧ k_ ≠ gb201) (.slice A1_15 l1_15.length c1_15) l1_15) ∧ Aside0 (Kd.V k89 89 wc w.heap.size (fun k_ => ((P0_2_ k_ ∨ P1_14_ k_ ∨ P1_15_ k_ ∨ P1_16_ k_) ∨ w.heap.size ≤ k_) ∧ k_ ≠ gb199 ∧ k_ ≠ gb200 ∧ k_ ≠ gb201) (.slice A1_16 l1_16.length c1_16) l1_16) ∧ Aside0 (wc.heap[gb199]? = some (.cells #[.int .u16 a0_0, .int .u16 a0_1, (.slice A0_2 l0_2.length c0_2)] 31 (0, 0))) ∧ Aside0 (wc.heap[gb200]? = some (.cells #[.int .u16 a1_0, .int .u16 a1_1, .int .i64 a1_2, .int .i64 a1_3, .int .u16 a1_4, .int .u16 a1_5, .int .i64 a1_6, .bool a1_7, .int .u16 a1_8, .int .u16 a1_9, .int .i64 a1_10, .string a1_11, .bool a1_12, .int .i64 a1_13, (.slice A1_14 l1_14.length c1_14), (.slice A1_15 l1_15.length c1_15), (.slice A1_16 l1_16.length c1_16)] 39 (0, 0))) ∧ Aside0 (wc.heap[gb201]? = some (.cells #[.int .u16 0, .int .u16 0, (.slice none 0 0)] 31 (0, 0))) ∧ Aside0 (Below w.heap.size w wc))
        case first =>
          have H := HC29.out
          clear HC29
          by_cases c33 : a2 = true
          · subst c33
            have H1 : (forepeakref26_Put.j1 kj3 true t204 false a0_0 a0_1 l0_2 a1_0 a1_1 a1_2 a1_3 a1_4 a1_5 a1_6 a1_7 a1_8 a1_9 a1_10 a1_11 a1_12 a1_13 l1_14 l1_15 l1_16) = some (r1, r2, r3, r4) := by rw [if_pos rfl] at H; exact H
            clear H
            have H := H1
            clear H1
            have H' := Aside0.mk H
            clear H
            go_wp2
            go_meet
            case rel => exact ⟨_, (false), (by first | rfl | (simp; done) | (simp [*]; done)), H', ⟨by have := HJ3.out; first | omega | exact Nat.le_refl _⟩, ⟨by (with_reducible repeat (first | apply Kd.V_alloc | apply Kd.V_drewN | apply Kd.V_drew)); exact HO_200002.out⟩, ⟨by (with_reducible repeat (first | apply Kd.V_alloc | apply Kd.V_drewN | apply Kd.V_drew)); exact HO_201014.out⟩, ⟨by (with_reducible repeat (first | apply Kd.V_alloc | apply Kd.V_drewN | apply Kd.V_drew)); exact HO_201015.out⟩, ⟨by (with_reducible repeat (first | apply Kd.V_alloc | apply Kd.V_drewN | apply Kd.V_drew)); exact HO_201016.out⟩, ⟨by (with_reducible repeat (first | refine blk_drewN ?_ _ | refine blk_drew ?_ | refine blk_alloc ?_ _)); exact BK199.out⟩, ⟨by (with_reducible repeat (first | refine blk_drewN ?_ _ | refine blk_drew ?_ | refine blk_alloc ?_ _)); exact BK200.out⟩, ⟨by (with_reducible repeat (first | refine blk_drewN ?_ _ | refine blk_drew ?_ | refine blk_alloc ?_ _)); exact BK201.out⟩, ⟨by repeat (first | (with_reducible first | exact HB.out | apply below_alloc | apply pw_below_drewN | apply below_drew1 | refine below_set ?_ GE199.out | refine below_set ?_ GE200.out | refine below_set ?_ GE201.out) | exact HB.out)⟩⟩
          · replace c33 := Bool.eq_false_iff.mpr c33
            subst c33
            have H1 : (forepeakref26_Put.j1 kj3 false t204 (decide (t204 ≥ 0)) a0_0 a0_1 l0_2 a1_0 a1_1 a1_2 a1_3 a1_4 a1_5 a1_6 a1_7 a1_8 a1_9 a1_10 a1_11 a1_12 a1_13 l1_14 l1_15 l1_16) = some (r1, r2, r3, r4) := by rw [if_neg (show ¬ (false = true) by decide)] at H; exact H
            clear H
            have H := H1
            clear H1
            have H' := Aside0.mk H
            clear H
            go_wp2
            go_meet
            case rel => exact ⟨_, (decide (t204 ≥ 0)), (by first | rfl | (simp; done) | (simp [*]; done)), H', ⟨by have := HJ3.out; first | omega | exact Nat.le_refl _⟩, ⟨by (with_reducible repeat (first | apply Kd.V_alloc | apply Kd.V_drewN | apply Kd.V_drew)); exact HO_200002.out⟩, ⟨by (with_reducible repeat (first | apply Kd.V_alloc | apply Kd.V_drewN | apply Kd.V_drew)); exact HO_201014.out⟩, ⟨by (with_reducible repeat (first | apply Kd.V_alloc | apply Kd.V_drewN | apply Kd.V_drew)); exact HO_201015.out⟩, ⟨by (with_reducible repeat (first | apply Kd.V_alloc | apply Kd.V_drewN | apply Kd.V_drew)); exact HO_201016.out⟩, ⟨by (with_reducible repeat (first | refine blk_drewN ?_ _ | refine blk_drew ?_ | refine blk_alloc ?_ _)); exact BK199.out⟩, ⟨by (with_reducible repeat (first | refine blk_drewN ?_ _ | refine blk_drew ?_ | refine blk_alloc ?_ _)); exact BK200.out⟩, ⟨by (with_reducible repeat (first | refine blk_drewN ?_ _ | refine blk_drew ?_ | refine blk_alloc ?_ _)); exact BK201.out⟩, ⟨by repeat (first | (with_reducible first | exact HB.out | apply below_alloc | apply pw_below_drewN | apply below_drew1 | refine below_set ?_ GE199.out | refine below_set ?_ GE200.out | refine below_set ?_ GE201.out) | exact HB.out)⟩⟩
        case rest =>
          clear HC29
          try clear c1
          try clear c2
          try clear p2
          try clear c3
          try clear c4
          try clear c9
          try clear c10
          try clear c11
          try clear c14
          try clear c15
          try clear c17
          try clear c18
          try clear c21
          try clear c22
          try clear c23
          try clear c25
          try clear c33
          try clear hcz12_0
          try clear hcz12_1
          try clear hcz12_10
          try clear hcz12_11
          try clear hcz12_12
          try clear hcz12_13
          try clear hcz12_14
          try clear hcz12_15
          try clear hcz12_16
          try clear hcz12_2
          try clear hcz12_3
          try clear hcz12_4
          try clear hcz12_5
          try clear hcz12_6
          try clear hcz12_7
          try clear hcz12_8
          try clear hcz12_9
          try clear hcz14_0
          try clear hcz14_1
          try clear hcz14_10
          try clear hcz14_11
          try clear hcz14_12
          try clear hcz14_13
          try clear hcz14_14
          try clear hcz14_15
          try clear hcz14_16
          try clear hcz14_2
          try clear hcz14_3
          try clear hcz14_4
          try clear hcz14_5
          try clear hcz14_6
          try clear hcz14_7
          try clear hcz14_8
          try clear hcz14_9
          try clear hcz16_0
          try clear hcz16_1
          try clear hcz16_2
          try clear hcz19_0
          try clear hcz19_1
          try clear hcz19_10
          try clear hcz19_11
          try clear hcz19_12
          try clear hcz19_13
          try clear hcz19_14
          try clear hcz19_15
          try clear hcz19_16
          try clear hcz19_2
          try clear hcz19_3
          try clear hcz19_4
          try clear hcz19_5
          try clear hcz19_6
          try clear hcz19_7
          try clear hcz19_8
          try clear hcz19_9
          try clear hcz24_0
          try clear hcz24_1
          try clear hcz24_2
          try clear hcz26_0
          try clear hcz26_1
          try clear hcz26_2
          try clear hfz12_0
          try clear hfz12_1
          try clear hfz12_10
          try clear hfz12_11
          try clear hfz12_12
          try clear hfz12_13
          try clear hfz12_14
          try clear hfz12_15
          try clear hfz12_16
          try clear hfz12_2
          try clear hfz12_3
          try clear hfz12_4
          try clear hfz12_5
          try clear hfz12_6
          try clear hfz12_7
          try clear hfz12_8
          try clear hfz12_9
          try clear hfz14_0
          try clear hfz14_1
          try clear hfz14_10
          try clear hfz14_11
          try clear hfz14_12
          try clear hfz14_13
          try clear hfz14_14
          try clear hfz14_15
          try clear hfz14_16
          try clear hfz14_2
          try clear hfz14_3
          try clear hfz14_4
          try clear hfz14_5
          try clear hfz14_6
          try clear hfz14_7
          try clear hfz14_8
          try clear hfz14_9
          try clear hfz16_0
          try clear hfz16_1
          try clear hfz16_2
          try clear hfz19_0
          try clear hfz19_1
          try clear hfz19_10
          try clear hfz19_11
          try clear hfz19_12
          try clear hfz19_13
          try clear hfz19_14
          try clear hfz19_15
          try clear hfz19_16
          try clear hfz19_2
          try clear hfz19_3
          try clear hfz19_4
          try clear hfz19_5
          try clear hfz19_6
          try clear hfz19_7
          try clear hfz19_8
          try clear hfz19_9
          try clear hfz24_0
          try clear hfz24_1
          try clear hfz24_2
          try clear hfz26_0
          try clear hfz26_1
          try clear hfz26_2
          try clear p2
          obtain ⟨kq, x32_28, rfl, HA, HJ28, HO_200002, HO_201014, HO_201015, HO_201016, BK199, BK200, BK201, HB⟩ := hcut
          cases kq with
          | zero => exact absurd HA.out (by simp [forepeakref26_Put.j1])
          | succ kj28 =>
            have H := HA.out
            clear HA
            simp only [forepeakref26_Put.j1] at H
            by_cases c34 : x32_28 = true
            · subst c34
              have H1 : (some (a0_0, a0_1, l0_2, 7)) = some (r1, r2, r3, r4) := by rw [if_pos rfl] at H; exact H
              clear H
              have H := H1
              clear H1
              simp only [Option.some.injEq, Prod.mk.injEq] at H
              obtain ⟨rfl, rfl, rfl, rfl⟩ := H
              have hnb35 := NB199_200.out
              have hnc35 := NB200_199.out
              have hnb36 := NB199_201.out
              have hnc36 := NB201_199.out
              have hcz37_0 : wc.cell? ⟨gb199, 0, none⟩ = some (.int .u16 a0_0) := (blk_cell BK199.out 0).trans rfl
              have hcz37_1 : wc.cell? ⟨gb199, 1, none⟩ = some (.int .u16 a0_1) := (blk_cell BK199.out 1).trans rfl
              have hcz37_2 : wc.cell? ⟨gb199, 2, none⟩ = some (.slice A0_2 l0_2.length c0_2) := (blk_cell BK199.out 2).trans rfl
              have hfz37_0 := blk_frozen BK199.out 0
              have hfz37_1 := blk_frozen BK199.out 1
              have hfz37_2 := blk_frozen BK199.out 2
              have hnb38 := NB201_200.out
              have hnc38 := NB200_201.out
              have hcz39_0 : wc.cell? ⟨gb201, 0, none⟩ = some (.int .u16 0) := (blk_cell BK201.out 0).trans rfl
              have hcz39_1 : wc.cell? ⟨gb201, 1, none⟩ = some (.int .u16 0) := (blk_cell BK201.out 1).trans rfl
              have hcz39_2 : wc.cell? ⟨gb201, 2, none⟩ = some (.slice none 0 0) := (blk_cell BK201.out 2).trans rfl
              have hfz39_0 := blk_frozen BK201.out 0
              have hfz39_1 := blk_frozen BK201.out 1
              have hfz39_2 := blk_frozen BK201.out 2
              go_wp2
              refine bodyPost_ret (results_ct rfl _ _ gb201 31 #[.int .u16 a0_0, .int .u16 a0_1, .slice A0_2 l0_2.length c0_2] (0, 0) _ rfl (by (with_reducible repeat (first | refine blk_drewN ?_ _ | refine blk_drew ?_ | refine blk_alloc ?_ _)); refine blk_put (cs := #[.int .u16 a0_0, .int .u16 a0_1, .slice none 0 0]) ?_ 2 _ rfl; (with_reducible repeat (first | refine blk_drewN ?_ _ | refine blk_drew ?_ | refine blk_alloc ?_ _)); refine blk_put (cs := #[.int .u16 a0_0, .int .u16 0, .slice none 0 0]) ?_ 1 _ rfl; (with_reducible repeat (first | refine blk_drewN ?_ _ | refine blk_drew ?_ | refine blk_alloc ?_ _)); refine blk_put (cs := #[.int .u16 0, .int .u16 0, .slice none 0 0]) ?_ 0 _ rfl; (with_reducible repeat (first | refine blk_drewN ?_ _ | refine blk_drew ?_ | refine blk_alloc ?_ _)); exact BK201.out) Try.underlying31 rfl (by kernel_rfl)) rfl ?_
              exact ⟨_, by first | rfl | (simp [errW_none, errW_some] <;> rfl) | (simp [*, errW_none, errW_some] <;> rfl), by (with_reducible repeat (first | apply Kd.V_alloc | apply Kd.V_drewN | apply Kd.V_drew)); exact Kd.V_mono (Kd.V_far (p := ⟨gb201, 2, none⟩) (Kd.V_far (p := ⟨gb201, 1, none⟩) (Kd.V_far (p := ⟨gb201, 0, none⟩) (Kd.V_mono HO_200002.out (fun k_ hk => (⟨hk, hk.2.2.2⟩ : _ ∧ k_ ≠ gb201))) (fun _ hk => hk.2) (.int .u16 a0_0)) (fun _ hk => hk.2) (.int .u16 a0_1)) (fun _ hk => hk.2) (.slice A0_2 l0_2.length c0_2)) (fun _ hk => hk.1.1), by repeat (first | (with_reducible first | exact HB.out | apply below_alloc | apply pw_below_drewN | apply below_drew1 | refine below_set ?_ GE199.out | refine below_set ?_ GE200.out | refine below_set ?_ GE201.out) | exact HB.out)⟩
            · replace c34 := Bool.eq_false_iff.mpr c34
              subst c34
              have H1 : (if a2 = true then (forepeakref26_Put.j2 kj28 a2 t204 (decide (t204 < 0)) a0_0 a0_1 l0_2 a1_0 a1_1 a1_2 a1_3 a1_4 a1_5 a1_6 a1_7 a1_8 a1_9 a1_10 a1_11 a1_12 a1_13 l1_14 l1_15 l1_16) else (forepeakref26_Put.j2 kj28 a2 t204 false a0_0 a0_1 l0_2 a1_0 a1_1 a1_2 a1_3 a1_4 a1_5 a1_6 a1_7 a1_8 a1_9 a1_10 a1_11 a1_12 a1_13 l1_14 l1_15 l1_16)) = some (r1, r2, r3, r4) := by rw [if_neg (show ¬ (false = true) by decide)] at H; exact H
              clear H
              have H := H1
              clear H1
              have HC40 := Aside0.mk H
              clear H
              go_upto_region 6 with (fail)
              go_cut [38] (fun v38 wc => ∃ (kq : Nat) (x38_39 : Bool), v38 = .bool x38_39 ∧ Aside0 (forepeakref26_Put.j2 kq a2 t204 x38_39 a0_0 a0_1 l0_2 a1_0 a1_1 a1_2 a1_3 a1_4 a1_5 a1_6 a1_7 a1_8 a1_9 a1_10 a1_11 a1_12 a1_13 l1_14 l1_15 l1_16 = some (r1, r2, r3, r4)) ∧ Aside0 (kq ≤ kj28) ∧ Aside0 (Kd.V k39 39 wc w.heap.size (fun k_ => ((P0_2_ k_ ∨ P1_14_ k_ ∨ P1_15_ k_ ∨ P1_16_ k_) ∨ w.heap.size ≤ k_) ∧ k_ ≠ gb199 ∧ k_ ≠ gb200 ∧ k_ ≠ gb201) (.slice A0_2 l0_2.length c0_2) l0_2) ∧ Aside0 (Kd.V k89 89 wc w.heap.size (fun k_ => ((P0_2_ k_ ∨ P1_14_ k_ ∨ P1_15_ k_ ∨ P1_16_ k_) ∨ w.heap.size ≤ k_) ∧ k_ ≠ gb199 ∧ k_ ≠ gb200 ∧ k_ ≠ gb201) (.slice A1_14 l1_14.length c1_14) l1_14) ∧ Aside0 (Kd.V k89 89 wc w.heap.size (fun k_ => ((P0_2_ k_ ∨ P1_14_ k_ ∨ P1_15_ k_ ∨ P1_16_ k_) ∨ w.heap.size ≤ k_) ∧ k_ ≠ gb199 ∧ k_ ≠ gb200 ∧ k_ ≠ gb201) (.slice A1_15 l1_15.length c1_15) l1_15) ∧ Aside0 (Kd.V k89 89 wc w.heap.size (fun k_ => ((P0_2_ k_ ∨ P1_14_ k_ ∨ P1_15_ k_ ∨ P1_16_ k_) ∨ w.heap.size ≤ k_) ∧ k_ ≠ gb199 ∧ k_ ≠ gb200 ∧ k_ ≠ gb201) (.slice A1_16 l1_16.length c1_16) l1_16) ∧ Aside0 (wc.heap[gb199]? = some (.cells #[.int .u16 a0_0, .int .u16 a0_1, (.slice A0_2 l0_2.length c0_2)] 31 (0, 0))) ∧ Aside0 (wc.heap[gb200]? = some (.cells #[.int .u16 a1_0, .int .u16 a1_1, .int .i64 a1_2, .int .i64 a1_3, .int .u16 a1_4, .int .u16 a1_5, .int .i64 a1_6, .bool a1_7, .int .u16 a1_8, .int .u16 a1_9, .int .i64 a1_10, .string a1_11, .bool a1_12, .int .i64 a1_13, (.slice A1_14 l1_14.length c1_14), (.slice A1_15 l1_15.length c1_15), (.slice A1_16 l1_16.length c1_16)] 39 (0, 0))) ∧ Aside0 (wc.heap[gb201]? = some (.cells #[.int .u16 0, .int .u16 0, (.slice none 0 0)] 31 (0, 0))) ∧ Aside0 (Below w.heap.size w wc))
              case first =>
                have H := HC40.out
                clear HC40
                by_cases c41 : a2 = true
                · subst c41
                  have H1 : (forepeakref26_Put.j2 kj28 true t204 (decide (t204 < 0)) a0_0 a0_1 l0_2 a1_0 a1_1 a1_2 a1_3 a1_4 a1_5 a1_6 a1_7 a1_8 a1_9 a1_10 a1_11 a1_12 a1_13 l1_14 l1_15 l1_16) = some (r1, r2, r3, r4) := by rw [if_pos rfl] at H; exact H
                  clear H
                  have H := H1
                  clear H1
                  have H' := Aside0.mk H
                  clear H
                  go_wp2
                  go_meet
                  case rel => exact ⟨_, (decide (t204 < 0)), (by first | rfl | (simp; done) | (simp [*]; done)), H', ⟨by have := HJ3.out; have := HJ28.out; first | omega | exact Nat.le_refl _⟩, ⟨by (with_reducible repeat (first | apply Kd.V_alloc | apply Kd.V_drewN | apply Kd.V_drew)); exact HO_200002.out⟩, ⟨by (with_reducible repeat (first | apply Kd.V_alloc | apply Kd.V_drewN | apply Kd.V_drew)); exact HO_201014.out⟩, ⟨by (with_reducible repeat (first | apply Kd.V_alloc | apply Kd.V_drewN | apply Kd.V_drew)); exact HO_201015.out⟩, ⟨by (with_reducible repeat (first | apply Kd.V_alloc | apply Kd.V_drewN | apply Kd.V_drew)); exact HO_201016.out⟩, ⟨by (with_reducible repeat (first | refine blk_drewN ?_ _ | refine blk_drew ?_ | refine blk_alloc ?_ _)); exact BK199.out⟩, ⟨by (with_reducible repeat (first | refine blk_drewN ?_ _ | refine blk_drew ?_ | refine blk_alloc ?_ _)); exact BK200.out⟩, ⟨by (with_reducible repeat (first | refine blk_drewN ?_ _ | refine blk_drew ?_ | refine blk_alloc ?_ _)); exact BK201.out⟩, ⟨by repeat (first | (with_reducible first | exact HB.out | apply below_alloc | apply pw_below_drewN | apply below_drew1 | refine below_set ?_ GE199.out | refine below_set ?_ GE200.out | refine below_set ?_ GE201.out) | exact HB.out)⟩⟩
                · replace c41 := Bool.eq_false_iff.mpr c41
                  subst c41
                  have H1 : (forepeakref26_Put.j2 kj28 false t204 false a0_0 a0_1 l0_2 a1_0 a1_1 a1_2 a1_3 a1_4 a1_5 a1_6 a1_7 a1_8 a1_9 a1_10 a1_11 a1_12 a1_13 l1_14 l1_15 l1_16) = some (r1, r2, r3, r4) := by rw [if_neg (show ¬ (false = true) by decide)] at H; exact H
                  clear H
                  have H := H1
                  clear H1
                  have H' := Aside0.mk H
                  clear H
                  go_wp2
                  go_meet
                  case rel => exact ⟨_, (false), (by first | rfl | (simp; done) | (simp [*]; done)), H', ⟨by have := HJ3.out; have := HJ28.out; first | omega | exact Nat.le_refl _⟩, ⟨by (with_reducible repeat (first | apply Kd.V_alloc | apply Kd.V_drewN | apply Kd.V_drew)); exact HO_200002.out⟩, ⟨by (with_reducible repeat (first | apply Kd.V_alloc | apply Kd.V_drewN | apply Kd.V_drew)); exact HO_201014.out⟩, ⟨by (with_reducible repeat (first | apply Kd.V_alloc | apply Kd.V_drewN | apply Kd.V_drew)); exact HO_201015.out⟩, ⟨by (with_reducible repeat (first | apply Kd.V_alloc | apply Kd.V_drewN | apply Kd.V_drew)); exact HO_201016.out⟩, ⟨by (with_reducible repeat (first | refine blk_drewN ?_ _ | refine blk_drew ?_ | refine blk_alloc ?_ _)); exact BK199.out⟩, ⟨by (with_reducible repeat (first | refine blk_drewN ?_ _ | refine blk_drew ?_ | refine blk_alloc ?_ _)); exact BK200.out⟩, ⟨by (with_reducible repeat (first | refine blk_drewN ?_ _ | refine blk_drew ?_ | refine blk_alloc ?_ _)); exact BK201.out⟩, ⟨by repeat (first | (with_reducible first | exact HB.out | apply below_alloc | apply pw_below_drewN | apply below_drew1 | refine below_set ?_ GE199.out | refine below_set ?_ GE200.out | refine below_set ?_ GE201.out) | exact HB.out)⟩⟩
              case rest =>
                clear HC40
                try clear c1
                try clear c2
                try clear p2
                try clear c3
                try clear c4
                try clear c9
                try clear c10
                try clear c11
                try clear c14
                try clear c15
                try clear c17
                try clear c18
                try clear c21
                try clear c22
                try clear c23
                try clear c25
                try clear c33
                try clear c34
                try clear c35
                try clear c36
                try clear c38
                try clear c41
                try clear hcz12_0
                try clear hcz12_1
                try clear hcz12_10
                try clear hcz12_11
                try clear hcz12_12
                try clear hcz12_13
                try clear hcz12_14
                try clear hcz12_15
                try clear hcz12_16
                try clear hcz12_2
                try clear hcz12_3
                try clear hcz12_4
                try clear hcz12_5
                try clear hcz12_6
                try clear hcz12_7
                try clear hcz12_8
                try clear hcz12_9
                try clear hcz14_0
                try clear hcz14_1
                try clear hcz14_10
                try clear hcz14_11
                try clear hcz14_12
                try clear hcz14_13
                try clear hcz14_14
                try clear hcz14_15
                try clear hcz14_16
                try clear hcz14_2
                try clear hcz14_3
                try clear hcz14_4
                try clear hcz14_5
                try clear hcz14_6
                try clear hcz14_7
                try clear hcz14_8
                try clear hcz14_9
                try clear hcz16_0
                try clear hcz16_1
                try clear hcz16_2
                try clear hcz19_0
                try clear hcz19_1
                try clear hcz19_10
                try clear hcz19_11
                try clear hcz19_12
                try clear hcz19_13
                try clear hcz19_14
                try clear hcz19_15
                try clear hcz19_16
                try clear hcz19_2
                try clear hcz19_3
                try clear hcz19_4
                try clear hcz19_5
                try clear hcz19_6
                try clear hcz19_7
                try clear hcz19_8
                try clear hcz19_9
                try clear hcz24_0
                try clear hcz24_1
                try clear hcz24_2
                try clear hcz26_0
                try clear hcz26_1
                try clear hcz26_2
                try clear hcz37_0
                try clear hcz37_1
                try clear hcz37_2
                try clear hcz39_0
                try clear hcz39_1
                try clear hcz39_2
                try clear hfz12_0
                try clear hfz12_1
                try clear hfz12_10
                try clear hfz12_11
                try clear hfz12_12
                try clear hfz12_13
                try clear hfz12_14
                try clear hfz12_15
                try clear hfz12_16
                try clear hfz12_2
                try clear hfz12_3
                try clear hfz12_4
                try clear hfz12_5
                try clear hfz12_6
                try clear hfz12_7
                try clear hfz12_8
                try clear hfz12_9
                try clear hfz14_0
                try clear hfz14_1
                try clear hfz14_10
                try clear hfz14_11
                try clear hfz14_12
                try clear hfz14_13
                try clear hfz14_14
                try clear hfz14_15
                try clear hfz14_16
                try clear hfz14_2
                try clear hfz14_3
                try clear hfz14_4
                try clear hfz14_5
                try clear hfz14_6
                try clear hfz14_7
                try clear hfz14_8
                try clear hfz14_9
                try clear hfz16_0
                try clear hfz16_1
                try clear hfz16_2
                try clear hfz19_0
                try clear hfz19_1
                try clear hfz19_10
                try clear hfz19_11
                try clear hfz19_12
                try clear hfz19_13
                try clear hfz19_14
                try clear hfz19_15
                try clear hfz19_16
                try clear hfz19_2
                try clear hfz19_3
                try clear hfz19_4
                try clear hfz19_5
                try clear hfz19_6
                try clear hfz19_7
                try clear hfz19_8
                try clear hfz19_9
                try clear hfz24_0
                try clear hfz24_1
                try clear hfz24_2
                try clear hfz26_0
                try clear hfz26_1
                try clear hfz26_2
                try clear hfz37_0
                try clear hfz37_1
                try clear hfz37_2
                try clear hfz39_0
                try clear hfz39_1
                try clear hfz39_2
                try clear p2
                obtain ⟨kq, x38_39, rfl, HA, HJ39, HO_200002, HO_201014, HO_201015, HO_201016, BK199, BK200, BK201, HB⟩ := hcut
                cases kq with
                | zero => exact absurd HA.out (by simp [forepeakref26_Put.j2])
                | succ kj39 =>
                  have H := HA.out
                  clear HA
                  simp only [forepeakref26_Put.j2] at H
                  by_cases c42 : x38_39 = true
                  · subst c42
                    have H1 : (some (a0_0, a0_1, l0_2, 6)) = some (r1, r2, r3, r4) := by rw [if_pos rfl] at H; exact H
                    clear H
                    have H := H1
                    clear H1
                    simp only [Option.some.injEq, Prod.mk.injEq] at H
                    obtain ⟨rfl, rfl, rfl, rfl⟩ := H
                    have hnb43 := NB199_200.out
                    have hnc43 := NB200_199.out
                    have hnb44 := NB199_201.out
                    have hnc44 := NB201_199.out
                    have hcz45_0 : wc.cell? ⟨gb199, 0, none⟩ = some (.int .u16 a0_0) := (blk_cell BK199.out 0).trans rfl
                    have hcz45_1 : wc.cell? ⟨gb199, 1, none⟩ = some (.int .u16 a0_1) := (blk_cell BK199.out 1).trans rfl
                    have hcz45_2 : wc.cell? ⟨gb199, 2, none⟩ = some (.slice A0_2 l0_2.length c0_2) := (blk_cell BK199.out 2).trans rfl
                    have hfz45_0 := blk_frozen BK199.out 0
                    have hfz45_1 := blk_frozen BK199.out 1
                    have hfz45_2 := blk_frozen BK199.out 2
                    have hnb46 := NB201_200.out
                    have hnc46 := NB200_201.out
                    have hcz47_0 : wc.cell? ⟨gb201, 0, none⟩ = some (.int .u16 0) := (blk_cell BK201.out 0).trans rfl
                    have hcz47_1 : wc.cell? ⟨gb201, 1, none⟩ = some (.int .u16 0) := (blk_cell BK201.out 1).trans rfl
                    have hcz47_2 : wc.cell? ⟨gb201, 2, none⟩ = some (.slice none 0 0) := (blk_cell BK201.out 2).trans rfl
                    have hfz47_0 := blk_frozen BK201.out 0
                    have hfz47_1 := blk_frozen BK201.out 1
                    have hfz47_2 := blk_frozen BK201.out 2
                    go_wp2
                    refine bodyPost_ret (results_ct rfl _ _ gb201 31 #[.int .u16 a0_0, .int .u16 a0_1, .slice A0_2 l0_2.length c0_2] (0, 0) _ rfl (by (with_reducible repeat (first | refine blk_drewN ?_ _ | refine blk_drew ?_ | refine blk_alloc ?_ _)); refine blk_put (cs := #[.int .u16 a0_0, .int .u16 a0_1, .slice none 0 0]) ?_ 2 _ rfl; (with_reducible repeat (first | refine blk_drewN ?_ _ | refine blk_drew ?_ | refine blk_alloc ?_ _)); refine blk_put (cs := #[.int .u16 a0_0, .int .u16 0, .slice none 0 0]) ?_ 1 _ rfl; (with_reducible repeat (first | refine blk_drewN ?_ _ | refine blk_drew ?_ | refine blk_alloc ?_ _)); refine blk_put (cs := #[.int .u16 0, .int .u16 0, .slice none 0 0]) ?_ 0 _ rfl; (with_reducible repeat (first | refine blk_drewN ?_ _ | refine blk_drew ?_ | refine blk_alloc ?_ _)); exact BK201.out) Try.underlying31 rfl (by kernel_rfl)) rfl ?_
                    exact ⟨_, by first | rfl | (simp [errW_none, errW_some] <;> rfl) | (simp [*, errW_none, errW_some] <;> rfl), by (with_reducible repeat (first | apply Kd.V_alloc | apply Kd.V_drewN | apply Kd.V_drew)); exact Kd.V_mono (Kd.V_far (p := ⟨gb201, 2, none⟩) (Kd.V_far (p := ⟨gb201, 1, none⟩) (Kd.V_far (p := ⟨gb201, 0, none⟩) (Kd.V_mono HO_200002.out (fun k_ hk => (⟨hk, hk.2.2.2⟩ : _ ∧ k_ ≠ gb201))) (fun _ hk => hk.2) (.int .u16 a0_0)) (fun _ hk => hk.2) (.int .u16 a0_1)) (fun _ hk => hk.2) (.slice A0_2 l0_2.length c0_2)) (fun _ hk => hk.1.1), by repeat (first | (with_reducible first | exact HB.out | apply below_alloc | apply pw_below_drewN | apply below_drew1 | refine below_set ?_ GE199.out | refine below_set ?_ GE200.out | refine below_set ?_ GE201.out) | exact HB.out)⟩
                  · replace c42 := Bool.eq_false_iff.mpr c42
                    subst c42
                    have H1 : (if a2 = true then ((forepeakref26_Without.f l0_2 t204).bind fun t205 => ((forepeakref26_With.f kj39 t205 a1_0 a1_1 a1_2 a1_3 a1_4 a1_5 a1_6 a1_7 a1_8 a1_9 a1_10 a1_11 a1_12 a1_13 l1_14 l1_15 l1_16).bind fun t208 => (some (a0_0, a0_1, t208, 0)))) else ((forepeakref26_With.f kj39 l0_2 a1_0 a1_1 a1_2 a1_3 a1_4 a1_5 a1_6 a1_7 a1_8 a1_9 a1_10 a1_11 a1_12 a1_13 l1_14 l1_15 l1_16).bind fun t211 => (some (a0_0, a0_1, t211, 0)))) = some (r1, r2, r3, r4) := by rw [if_neg (show ¬ (false = true) by decide)] at H; exact H
                    clear H
                    have H := H1
                    clear H1
                    by_cases c48 : a2 = true
                    · subst c48
                      have H1 : ((forepeakref26_Without.f l0_2 t204).bind fun t205 => ((forepeakref26_With.f kj39 t205 a1_0 a1_1 a1_2 a1_3 a1_4 a1_5 a1_6 a1_7 a1_8 a1_9 a1_10 a1_11 a1_12 a1_13 l1_14 l1_15 l1_16).bind fun t208 => (some (a0_0, a0_1, t208, 0)))) = some (r1, r2, r3, r4) := by rw [if_pos rfl] at H; exact H
                      clear H
                      have H := H1
                      clear H1
                      replace H := Option.bind_eq_some_iff.mp H
                      obtain ⟨t205, A490, H⟩ := H
                      replace H : ((forepeakref26_With.f kj39 t205 a1_0 a1_1 a1_2 a1_3 a1_4 a1_5 a1_6 a1_7 a1_8 a1_9 a1_10 a1_11 a1_12 a1_13 l1_14 l1_15 l1_16).bind fun t208 => (some (a0_0, a0_1, t208, 0))) = some (r1, r2, r3, r4) := H
                      have A49 := Aside0.mk A490
                      clear A490
                      replace H := Option.bind_eq_some_iff.mp H
                      obtain ⟨t208, A500, H⟩ := H
                      replace H : (some (a0_0, a0_1, t208, 0)) = some (r1, r2, r3, r4) := H
                      have A50 := Aside0.mk A500
                      clear A500
                      simp only [Option.some.injEq, Prod.mk.injEq] at H
                      obtain ⟨rfl, rfl, rfl, rfl⟩ := H
                      have hnb51 := NB199_200.out
                      have hnc51 := NB200_199.out
                      have hnb52 := NB199_201.out
                      have hnc52 := NB201_199.out
                      have hcz53_0 : wc.cell? ⟨gb199, 0, none⟩ = some (.int .u16 a0_0) := (blk_cell BK199.out 0).trans rfl
                      have hcz53_1 : wc.cell? ⟨gb199, 1, none⟩ = some (.int .u16 a0_1) := (blk_cell BK199.out 1).trans rfl
                      have hcz53_2 : wc.cell? ⟨gb199, 2, none⟩ = some (.slice A0_2 l0_2.length c0_2) := (blk_cell BK199.out 2).trans rfl
                      have hfz53_0 := blk_frozen BK199.out 0
                      have hfz53_1 := blk_frozen BK199.out 1
                      have hfz53_2 := blk_frozen BK199.out 2
                      go_wp2_with (first | ((with_reducible refine gate_callee (f := 46) rfl ?_); refine goesL_ (some 44) rfl rfl Try.func46 (by kernel_rfl) rfl #[.slice A0_2 l0_2.length c0_2, .int .i64 t204] rfl (by (try simp only [List.map_toArray, List.map_cons, List.map_nil]); first | done | rfl | (simp only [List.length_drop, List.length_take]; rfl)) ?_; (with_reducible refine (forepeakref26_Without.calls (fun k_ => (((P0_2_ k_ ∨ P1_14_ k_ ∨ P1_15_ k_ ∨ P1_16_ k_) ∨ w.heap.size ≤ k_) ∧ (k_ ≠ gb199 ∧ (k_ ≠ gb200 ∧ k_ ≠ gb201)))) _ _ l0_2 t204 t205 _ ?side1 A49.out).mono ?_); (case side1 => exact HO_200002.out); rintro e w54 ⟨v206, rfl, ho0, hb⟩; refine ⟨_, rfl, ?_⟩; have n0_ := Aside0.mk (Kd.V_elder' (by (with_reducible repeat (first | apply Kd.V_alloc | apply Kd.V_drewN | apply Kd.V_drew)); exact HO_200002.out) (Kd.N_base ho0) hb); have n1_ := Aside0.mk (Kd.V_elder' (by (with_reducible repeat (first | apply Kd.V_alloc | apply Kd.V_drewN | apply Kd.V_drew)); exact HO_201014.out) (Kd.N_base ho0) hb); have n2_ := Aside0.mk (Kd.V_elder' (by (with_reducible repeat (first | apply Kd.V_alloc | apply Kd.V_drewN | apply Kd.V_drew)); exact HO_201015.out) (Kd.N_base ho0) hb); have n3_ := Aside0.mk (Kd.V_elder' (by (with_reducible repeat (first | apply Kd.V_alloc | apply Kd.V_drewN | apply Kd.V_drew)); exact HO_201016.out) (Kd.N_base ho0) hb); have n4_ := Aside0.mk (Kd.N_lower (Kd.N_mono (ok' := fun k_ => ((P0_2_ k_ ∨ P1_14_ k_ ∨ P1_15_ k_ ∨ P1_16_ k_) ∨ w.heap.size ≤ k_) ∧ k_ ≠ gb199 ∧ k_ ≠ gb200 ∧ k_ ≠ gb201) ho0 (fun k_ hk_ => ⟨Or.elim hk_ (fun hs_ => hs_.1) (fun hn_ => (.inr (Nat.le_trans (below_size (by repeat (first | (with_reducible first | exact HB.out | apply below_alloc | apply pw_below_drewN | apply below_drew1 | refine below_set ?_ GE199.out | refine below_set ?_ GE200.out | refine below_set ?_ GE201.out) | exact HB.out))) hn_))), Or.elim hk_ (fun hs_ => hs_.2.1) (fun hn_ => (Kd.freshB (g := gb199) (o := .cells #[.int .u16 a0_0, .int .u16 a0_1, .slice A0_2 l0_2.length c0_2] 31 (0, 0)) (by (with_reducible repeat (first | refine blk_drewN ?_ _ | refine blk_drew ?_ | refine blk_alloc ?_ _)); exact BK199.out) k_ hn_)), Or.elim hk_ (fun hs_ => hs_.2.2.1) (fun hn_ => (Kd.freshB (g := gb200) (o := .cells #[.int .u16 a1_0, .int .u16 a1_1, .int .i64 a1_2, .int .i64 a1_3, .int .u16 a1_4, .int .u16 a1_5, .int .i64 a1_6, .bool a1_7, .int .u16 a1_8, .int .u16 a1_9, .int .i64 a1_10, .string a1_11, .bool a1_12, .int .i64 a1_13, .slice A1_14 l1_14.length c1_14, .slice A1_15 l1_15.length c1_15, .slice A1_16 l1_16.length c1_16] 39 (0, 0)) (by (with_reducible repeat (first | refine blk_drewN ?_ _ | refine blk_drew ?_ | refine blk_alloc ?_ _)); exact BK200.out) k_ hn_)), Or.elim hk_ (fun hs_ => hs_.2.2.2) (fun hn_ => (Kd.freshB (g := gb201) (o := .cells #[.int .u16 0, .int .u16 0, .slice none 0 0] 31 (0, 0)) (by (with_reducible repeat (first | refine blk_drewN ?_ _ | refine blk_drew ?_ | refine blk_alloc ?_ _)); exact BK201.out) k_ hn_))⟩)) (below_size (by repeat (first | (with_reducible first | exact HB.out | apply below_alloc | apply pw_below_drewN | apply below_drew1 | refine below_set ?_ GE199.out | refine below_set ?_ GE200.out | refine below_set ?_ GE201.out) | exact HB.out)))); have n5_ := Aside0.mk (blk_below (g := gb199) (o := .cells #[.int .u16 a0_0, .int .u16 a0_1, .slice A0_2 l0_2.length c0_2] 31 (0, 0)) (by (with_reducible repeat (first | refine blk_drewN ?_ _ | refine blk_drew ?_ | refine blk_alloc ?_ _)); exact BK199.out) hb); have n6_ := Aside0.mk (blk_below (g := gb200) (o := .cells #[.int .u16 a1_0, .int .u16 a1_1, .int .i64 a1_2, .int .i64 a1_3, .int .u16 a1_4, .int .u16 a1_5, .int .i64 a1_6, .bool a1_7, .int .u16 a1_8, .int .u16 a1_9, .int .i64 a1_10, .string a1_11, .bool a1_12, .int .i64 a1_13, .slice A1_14 l1_14.length c1_14, .slice A1_15 l1_15.length c1_15, .slice A1_16 l1_16.length c1_16] 39 (0, 0)) (by (with_reducible repeat (first | refine blk_drewN ?_ _ | refine blk_drew ?_ | refine blk_alloc ?_ _)); exact BK200.out) hb); have n7_ := Aside0.mk (blk_below (g := gb201) (o := .cells #[.int .u16 0, .int .u16 0, .slice none 0 0] 31 (0, 0)) (by (with_reducible repeat (first | refine blk_drewN ?_ _ | refine blk_drew ?_ | refine blk_alloc ?_ _)); exact BK201.out) hb); have n8_ := Aside0.mk (below_step (by repeat (first | (with_reducible first | exact HB.out | apply below_alloc | apply pw_below_drewN | apply below_drew1 | refine below_set ?_ GE199.out | refine below_set ?_ GE200.out | refine below_set ?_ GE201.out) | exact HB.out)) hb); clear HO_200002; clear HO_201014; clear HO_201015; clear HO_201016; clear BK199; clear BK200; clear BK201; clear HB; have HO_200002 := n0_; have HO_201014 := n1_; have HO_201015 := n2_; have HO_201016 := n3_; have HO207 := n4_; have BK199 := n5_; have BK200 := n6_; have BK201 := n7_; have HB := n8_; clear n0_ n1_ n2_ n3_ n4_ n5_ n6_ n7_ n8_; (try clear hb); (try clear hb2); (try clear hk); (try clear hi); (try clear ho0); obtain ⟨Ao55, co55, eo55⟩ := Kd.N_slice HO207.out; subst eo55; have hcz56_0 : w54.cell? ⟨gb199, 0, none⟩ = some (.int .u16 a0_0) := (blk_cell BK199.out 0).trans rfl; have hcz56_1 : w54.cell? ⟨gb199, 1, none⟩ = some (.int .u16 a0_1) := (blk_cell BK199.out 1).trans rfl; have hcz56_2 : w54.cell? ⟨gb199, 2, none⟩ = some (.slice A0_2 l0_2.length c0_2) := (blk_cell BK199.out 2).trans rfl; have hfz56_0 := blk_frozen BK199.out 0; have hfz56_1 := blk_frozen BK199.out 1; have hfz56_2 := blk_frozen BK199.out 2) | ((with_reducible refine gate_store (t := 29) (p := 45) rfl ?_); refine store_event (t := 29) (p := 45) (v := ?vo_w57) (w1 := (w54.setCell ⟨gb199, 2, none⟩ (.slice Ao55 t205.length co55))) ?hg ?ho ?hn ?hr ?_; (case ho => rfl); (case hg => rfl); (case hn => rfl); (case hr => first | (go_simp; done) | (go_simp; rfl)); intro w57 hw; have n0_ : Aside0 (Kd.V k39 39 w57 w.heap.size (fun k_ => ((P0_2_ k_ ∨ P1_14_ k_ ∨ P1_15_ k_ ∨ P1_16_ k_) ∨ w.heap.size ≤ k_) ∧ some k_ ≠ (.slice Ao55 t205.length co55 : Value).ownBlock ∧ k_ ≠ gb199 ∧ k_ ≠ gb200 ∧ k_ ≠ gb201) (.slice A0_2 l0_2.length c0_2) l0_2) := ⟨(by rw [hw]; exact (by (with_reducible repeat (first | apply Kd.V_alloc | apply Kd.V_drewN | apply Kd.V_drew)); exact Kd.V_mono (Kd.V_far (p := ⟨gb199, 2, none⟩) (Kd.V_mono HO_200002.out (fun k_ hk => (⟨hk, hk.1.2.1⟩ : _ ∧ k_ ≠ gb199))) (fun _ hk => hk.2) (.slice Ao55 t205.length co55)) (fun _ hk => ⟨hk.1.1.1, ⟨hk.1.2, ⟨hk.1.1.2.1, ⟨hk.1.1.2.2.1, hk.1.1.2.2.2⟩⟩⟩⟩)))⟩; have n1_ : Aside0 (Kd.V k89 89 w57 w.heap.size (fun k_ => ((P0_2_ k_ ∨ P1_14_ k_ ∨ P1_15_ k_ ∨ P1_16_ k_) ∨ w.heap.size ≤ k_) ∧ some k_ ≠ (.slice Ao55 t205.length co55 : Value).ownBlock ∧ k_ ≠ gb199 ∧ k_ ≠ gb200 ∧ k_ ≠ gb201) (.slice A1_14 l1_14.length c1_14) l1_14) := ⟨(by rw [hw]; exact (by (with_reducible repeat (first | apply Kd.V_alloc | apply Kd.V_drewN | apply Kd.V_drew)); exact Kd.V_mono (Kd.V_far (p := ⟨gb199, 2, none⟩) (Kd.V_mono HO_201014.out (fun k_ hk => (⟨hk, hk.1.2.1⟩ : _ ∧ k_ ≠ gb199))) (fun _ hk => hk.2) (.slice Ao55 t205.length co55)) (fun _ hk => ⟨hk.1.1.1, ⟨hk.1.2, ⟨hk.1.1.2.1, ⟨hk.1.1.2.2.1, hk.1.1.2.2.2⟩⟩⟩⟩)))⟩; have n2_ : Aside0 (Kd.V k89 89 w57 w.heap.size (fun k_ => ((P0_2_ k_ ∨ P1_14_ k_ ∨ P1_15_ k_ ∨ P1_16_ k_) ∨ w.heap.size ≤ k_) ∧ some k_ ≠ (.slice Ao55 t205.length co55 : Value).ownBlock ∧ k_ ≠ gb199 ∧ k_ ≠ gb200 ∧ k_ ≠ gb201) (.slice A1_15 l1_15.length c1_15) l1_15) := ⟨(by rw [hw]; exact (by (with_reducible repeat (first | apply Kd.V_alloc | apply Kd.V_drewN | apply Kd.V_drew)); exact Kd.V_mono (Kd.V_far (p := ⟨gb199, 2, none⟩) (Kd.V_mono HO_201015.out (fun k_ hk => (⟨hk, hk.1.2.1⟩ : _ ∧ k_ ≠ gb199))) (fun _ hk => hk.2) (.slice Ao55 t205.length co55)) (fun _ hk => ⟨hk.1.1.1, ⟨hk.1.2, ⟨hk.1.1.2.1, ⟨hk.1.1.2.2.1, hk.1.1.2.2.2⟩⟩⟩⟩)))⟩; have n3_ : Aside0 (Kd.V k89 89 w57 w.heap.size (fun k_ => ((P0_2_ k_ ∨ P1_14_ k_ ∨ P1_15_ k_ ∨ P1_16_ k_) ∨ w.heap.size ≤ k_) ∧ some k_ ≠ (.slice Ao55 t205.length co55 : Value).ownBlock ∧ k_ ≠ gb199 ∧ k_ ≠ gb200 ∧ k_ ≠ gb201) (.slice A1_16 l1_16.length c1_16) l1_16) := ⟨(by rw [hw]; exact (by (with_reducible repeat (first | apply Kd.V_alloc | apply Kd.V_drewN | apply Kd.V_drew)); exact Kd.V_mono (Kd.V_far (p := ⟨gb199, 2, none⟩) (Kd.V_mono HO_201016.out (fun k_ hk => (⟨hk, hk.1.2.1⟩ : _ ∧ k_ ≠ gb199))) (fun _ hk => hk.2) (.slice Ao55 t205.length co55)) (fun _ hk => ⟨hk.1.1.1, ⟨hk.1.2, ⟨hk.1.1.2.1, ⟨hk.1.1.2.2.1, hk.1.1.2.2.2⟩⟩⟩⟩)))⟩; have n4_ : Aside0 (Kd.N k39 39 w57 w.heap.size (fun k_ => ((P0_2_ k_ ∨ P1_14_ k_ ∨ P1_15_ k_ ∨ P1_16_ k_) ∨ w.heap.size ≤ k_) ∧ k_ ≠ gb199 ∧ k_ ≠ gb200 ∧ k_ ≠ gb201) (.slice Ao55 t205.length co55) t205) := ⟨(by rw [hw]; exact (by (with_reducible repeat (first | apply Kd.N_alloc | apply Kd.N_drewN | apply Kd.N_drew)); exact Kd.N_mono (Kd.N_far (p := ⟨gb199, 2, none⟩) (Kd.N_mono HO207.out (fun k_ hk => (⟨hk, hk.2.1⟩ : _ ∧ k_ ≠ gb199))) (fun _ hk => hk.2) (.slice Ao55 t205.length co55)) (fun _ hk => ⟨hk.1.1, ⟨hk.1.2.1, ⟨hk.1.2.2.1, hk.1.2.2.2⟩⟩⟩)))⟩; have n5_ : Aside0 (w57.heap[gb199]? = some (.cells #[.int .u16 a0_0, .int .u16 a0_1, .slice Ao55 t205.length co55] 31 (0, 0))) := ⟨(by rw [hw]; exact (by (with_reducible repeat (first | refine blk_drewN ?_ _ | refine blk_drew ?_ | refine blk_alloc ?_ _)); refine blk_put (cs := #[.int .u16 a0_0, .int .u16 a0_1, .slice A0_2 l0_2.length c0_2]) ?_ 2 _ rfl; (with_reducible repeat (first | refine blk_drewN ?_ _ | refine blk_drew ?_ | refine blk_alloc ?_ _)); exact BK199.out))⟩; have n6_ : Aside0 (w57.heap[gb200]? = some (.cells #[.int .u16 a1_0, .int .u16 a1_1, .int .i64 a1_2, .int .i64 a1_3, .int .u16 a1_4, .int .u16 a1_5, .int .i64 a1_6, .bool a1_7, .int .u16 a1_8, .int .u16 a1_9, .int .i64 a1_10, .string a1_11, .bool a1_12, .int .i64 a1_13, .slice A1_14 l1_14.length c1_14, .slice A1_15 l1_15.length c1_15, .slice A1_16 l1_16.length c1_16] 39 (0, 0))) := ⟨(by rw [hw]; exact (by (with_reducible repeat (first | refine blk_drewN ?_ _ | refine blk_drew ?_ | refine blk_alloc ?_ _)); refine blk_far ?_ NB200_199.out _; (with_reducible repeat (first | refine blk_drewN ?_ _ | refine blk_drew ?_ | refine blk_alloc ?_ _)); exact BK200.out))⟩; have n7_ : Aside0 (w57.heap[gb201]? = some (.cells #[.int .u16 0, .int .u16 0, .slice none 0 0] 31 (0, 0))) := ⟨(by rw [hw]; exact (by (with_reducible repeat (first | refine blk_drewN ?_ _ | refine blk_drew ?_ | refine blk_alloc ?_ _)); refine blk_far ?_ NB201_199.out _; (with_reducible repeat (first | refine blk_drewN ?_ _ | refine blk_drew ?_ | refine blk_alloc ?_ _)); exact BK201.out))⟩; have n8_ : Aside0 (Below w.heap.size w w57) := ⟨(by rw [hw]; exact (by repeat (first | (with_reducible first | exact HB.out | apply below_alloc | apply pw_below_drewN | apply below_drew1 | refine below_set ?_ GE199.out | refine below_set ?_ GE200.out | refine below_set ?_ GE201.out) | exact HB.out)))⟩; clear hw; clear HO_200002; clear HO_201014; clear HO_201015; clear HO_201016; clear HO207; clear BK199; clear BK200; clear BK201; clear HB; have HO_200002 := n0_; have HO_201014 := n1_; have HO_201015 := n2_; have HO_201016 := n3_; have HO207 := n4_; have BK199 := n5_; have BK200 := n6_; have BK201 := n7_; have HB := n8_; clear n0_ n1_ n2_ n3_ n4_ n5_ n6_ n7_ n8_; have hcz58_0 : w57.cell? ⟨gb199, 0, none⟩ = some (.int .u16 a0_0) := (blk_cell BK199.out 0).trans rfl; have hcz58_1 : w57.cell? ⟨gb199, 1, none⟩ = some (.int .u16 a0_1) := (blk_cell BK199.out 1).trans rfl; have hcz58_2 : w57.cell? ⟨gb199, 2, none⟩ = some (.slice Ao55 t205.length co55) := (blk_cell BK199.out 2).trans rfl; have hfz58_0 := blk_frozen BK199.out 0; have hfz58_1 := blk_frozen BK199.out 1; have hfz58_2 := blk_frozen BK199.out 2; have hnb59 := NB200_201.out; have hnc59 := NB201_200.out; have hcz60_0 : w57.cell? ⟨gb200, 0, none⟩ = some (.int .u16 a1_0) := (blk_cell BK200.out 0).trans rfl; have hcz60_1 : w57.cell? ⟨gb200, 1, none⟩ = some (.int .u16 a1_1) := (blk_cell BK200.out 1).trans rfl; have hcz60_2 : w57.cell? ⟨gb200, 2, none⟩ = some (.int .i64 a1_2) := (blk_cell BK200.out 2).trans rfl; have hcz60_3 : w57.cell? ⟨gb200, 3, none⟩ = some (.int .i64 a1_3) := (blk_cell BK200.out 3).trans rfl; have hcz60_4 : w57.cell? ⟨gb200, 4, none⟩ = some (.int .u16 a1_4) := (blk_cell BK200.out 4).trans rfl; have hcz60_5 : w57.cell? ⟨gb200, 5, none⟩ = some (.int .u16 a1_5) := (blk_cell BK200.out 5).trans rfl; have hcz60_6 : w57.cell? ⟨gb200, 6, none⟩ = some (.int .i64 a1_6) := (blk_cell BK200.out 6).trans rfl; have hcz60_7 : w57.cell? ⟨gb200, 7, none⟩ = some (.bool a1_7) := (blk_cell BK200.out 7).trans rfl; have hcz60_8 : w57.cell? ⟨gb200, 8, none⟩ = some (.int .u16 a1_8) := (blk_cell BK200.out 8).trans rfl; have hcz60_9 : w57.cell? ⟨gb200, 9, none⟩ = some (.int .u16 a1_9) := (blk_cell BK200.out 9).trans rfl; have hcz60_10 : w57.cell? ⟨gb200, 10, none⟩ = some (.int .i64 a1_10) := (blk_cell BK200.out 10).trans rfl; have hcz60_11 : w57.cell? ⟨gb200, 11, none⟩ = some (.string a1_11) := (blk_cell BK200.out 11).trans rfl; have hcz60_12 : w57.cell? ⟨gb200, 12, none⟩ = some (.bool a1_12) := (blk_cell BK200.out 12).trans rfl; have hcz60_13 : w57.cell? ⟨gb200, 13, none⟩ = some (.int .i64 a1_13) := (blk_cell BK200.out 13).trans rfl; have hcz60_14 : w57.cell? ⟨gb200, 14, none⟩ = some (.slice A1_14 l1_14.length c1_14) := (blk_cell BK200.out 14).trans rfl; have hcz60_15 : w57.cell? ⟨gb200, 15, none⟩ = some (.slice A1_15 l1_15.length c1_15) := (blk_cell BK200.out 15).trans rfl; have hcz60_16 : w57.cell? ⟨gb200, 16, none⟩ = some (.slice A1_16 l1_16.length c1_16) := (blk_cell BK200.out 16).trans rfl; have hfz60_0 := blk_frozen BK200.out 0; have hfz60_1 := blk_frozen BK200.out 1; have hfz60_2 := blk_frozen BK200.out 2; have hfz60_3 := blk_frozen BK200.out 3; have hfz60_4 := blk_frozen BK200.out 4; have hfz60_5 := blk_frozen BK200.out 5; have hfz60_6 := blk_frozen BK200.out 6; have hfz60_7 := blk_frozen BK200.out 7; have hfz60_8 := blk_frozen BK200.out 8; have hfz60_9 := blk_frozen BK200.out 9; have hfz60_10 := blk_frozen BK200.out 10; have hfz60_11 := blk_frozen BK200.out 11; have hfz60_12 := blk_frozen BK200.out 12; have hfz60_13 := blk_frozen BK200.out 13; have hfz60_14 := blk_frozen BK200.out 14; have hfz60_15 := blk_frozen BK200.out 15; have hfz60_16 := blk_frozen BK200.out 16) | ((with_reducible refine gate_callee (f := 47) rfl ?_); refine goesL_ (some 49) rfl rfl Try.func47 (by kernel_rfl) rfl #[.slice Ao55 t205.length co55, .agg #[.int .u16 a1_0, .int .u16 a1_1, .int .i64 a1_2, .int .i64 a1_3, .int .u16 a1_4, .int .u16 a1_5, .int .i64 a1_6, .bool a1_7, .int .u16 a1_8, .int .u16 a1_9, .int .i64 a1_10, .string a1_11, .bool a1_12, .int .i64 a1_13, .slice A1_14 l1_14.length c1_14, .slice A1_15 l1_15.length c1_15, .slice A1_16 l1_16.length c1_16]] rfl (by (try simp only [List.map_toArray, List.map_cons, List.map_nil]); first | done | rfl | (simp only [List.length_drop, List.length_take]; rfl)) ?_; (with_reducible refine (forepeakref26_With.calls kj39 (fun k_ => (((P0_2_ k_ ∨ P1_14_ k_ ∨ P1_15_ k_ ∨ P1_16_ k_) ∨ w.heap.size ≤ k_) ∧ (k_ ≠ gb199 ∧ (k_ ≠ gb200 ∧ k_ ≠ gb201)))) _ _ t205 a1_0 a1_1 a1_2 a1_3 a1_4 a1_5 a1_6 a1_7 a1_8 a1_9 a1_10 a1_11 a1_12 a1_13 (fun k_ => (((P0_2_ k_ ∨ P1_14_ k_ ∨ P1_15_ k_ ∨ P1_16_ k_) ∨ w.heap.size ≤ k_) ∧ (some k_ ≠ (.slice Ao55 t205.length co55 : Value).ownBlock ∧ (k_ ≠ gb199 ∧ (k_ ≠ gb200 ∧ k_ ≠ gb201))))) _ _ l1_14 (fun k_ => (((P0_2_ k_ ∨ P1_14_ k_ ∨ P1_15_ k_ ∨ P1_16_ k_) ∨ w.heap.size ≤ k_) ∧ (some k_ ≠ (.slice Ao55 t205.length co55 : Value).ownBlock ∧ (k_ ≠ gb199 ∧ (k_ ≠ gb200 ∧ k_ ≠ gb201))))) _ _ l1_15 (fun k_ => (((P0_2_ k_ ∨ P1_14_ k_ ∨ P1_15_ k_ ∨ P1_16_ k_) ∨ w.heap.size ≤ k_) ∧ (some k_ ≠ (.slice Ao55 t205.length co55 : Value).ownBlock ∧ (k_ ≠ gb199 ∧ (k_ ≠ gb200 ∧ k_ ≠ gb201))))) _ _ l1_16 t208 _ ?side1 ?side2 ?side3 ?side4 A50.out).mono ?_); (case side1 => exact Kd.N_V (HO207.out)); (case side2 => exact HO_201014.out); (case side3 => exact HO_201015.out); (case side4 => exact HO_201016.out); rintro e w61 ⟨v209, rfl, ho0, hb⟩; refine ⟨_, rfl, ?_⟩; have n0_ := Aside0.mk (Kd.V_elder' (by (with_reducible repeat (first | apply Kd.V_alloc | apply Kd.V_drewN | apply Kd.V_drew)); exact HO_200002.out) (Kd.N_base ho0) hb); have n1_ := Aside0.mk (Kd.V_elder' (by (with_reducible repeat (first | apply Kd.V_alloc | apply Kd.V_drewN | apply Kd.V_drew)); exact HO_201014.out) (Kd.N_base ho0) hb); have n2_ := Aside0.mk (Kd.V_elder' (by (with_reducible repeat (first | apply Kd.V_alloc | apply Kd.V_drewN | apply Kd.V_drew)); exact HO_201015.out) (Kd.N_base ho0) hb); have n3_ := Aside0.mk (Kd.V_elder' (by (with_reducible repeat (first | apply Kd.V_alloc | apply Kd.V_drewN | apply Kd.V_drew)); exact HO_201016.out) (Kd.N_base ho0) hb); have n4_ := Aside0.mk (Kd.N_elder' (by (with_reducible repeat (first | apply Kd.N_alloc | apply Kd.N_drewN | apply Kd.N_drew)); exact HO207.out) (Kd.N_base ho0) hb); have n5_ := Aside0.mk (Kd.N_lower (Kd.N_mono (ok' := fun k_ => ((P0_2_ k_ ∨ P1_14_ k_ ∨ P1_15_ k_ ∨ P1_16_ k_) ∨ w.heap.size ≤ k_) ∧ k_ ≠ gb199 ∧ k_ ≠ gb200 ∧ k_ ≠ gb201) ho0 (fun k_ hk_ => ⟨Or.elim hk_ (fun hs_ => Or.elim hs_ (fun hs_ => hs_.1) (fun hs_ => Or.elim hs_ (fun hs_ => hs_.1) (fun hs_ => Or.elim hs_ (fun hs_ => hs_.1) (fun hs_ => hs_.1)))) (fun hn_ => (.inr (Nat.le_trans (below_size (by repeat (first | (with_reducible first | exact HB.out | apply below_alloc | apply pw_below_drewN | apply below_drew1 | refine below_set ?_ GE199.out | refine below_set ?_ GE200.out | refine below_set ?_ GE201.out) | exact HB.out))) hn_))), Or.elim hk_ (fun hs_ => Or.elim hs_ (fun hs_ => hs_.2.1) (fun hs_ => Or.elim hs_ (fun hs_ => hs_.2.2.1) (fun hs_ => Or.elim hs_ (fun hs_ => hs_.2.2.1) (fun hs_ => hs_.2.2.1)))) (fun hn_ => (Kd.freshB (g := gb199) (o := .cells #[.int .u16 a0_0, .int .u16 a0_1, .slice Ao55 t205.length co55] 31 (0, 0)) (by (with_reducible repeat (first | refine blk_drewN ?_ _ | refine blk_drew ?_ | refine blk_alloc ?_ _)); exact BK199.out) k_ hn_)), Or.elim hk_ (fun hs_ => Or.elim hs_ (fun hs_ => hs_.2.2.1) (fun hs_ => Or.elim hs_ (fun hs_ => hs_.2.2.2.1) (fun hs_ => Or.elim hs_ (fun hs_ => hs_.2.2.2.1) (fun hs_ => hs_.2.2.2.1)))) (fun hn_ => (Kd.freshB (g := gb200) (o := .cells #[.int .u16 a1_0, .int .u16 a1_1, .int .i64 a1_2, .int .i64 a1_3, .int .u16 a1_4, .int .u16 a1_5, .int .i64 a1_6, .bool a1_7, .int .u16 a1_8, .int .u16 a1_9, .int .i64 a1_10, .string a1_11, .bool a1_12, .int .i64 a1_13, .slice A1_14 l1_14.length c1_14, .slice A1_15 l1_15.length c1_15, .slice A1_16 l1_16.length c1_16] 39 (0, 0)) (by (with_reducible repeat (first | refine blk_drewN ?_ _ | refine blk_drew ?_ | refine blk_alloc ?_ _)); exact BK200.out) k_ hn_)), Or.elim hk_ (fun hs_ => Or.elim hs_ (fun hs_ => hs_.2.2.2) (fun hs_ => Or.elim hs_ (fun hs_ => hs_.2.2.2.2) (fun hs_ => Or.elim hs_ (fun hs_ => hs_.2.2.2.2) (fun hs_ => hs_.2.2.2.2)))) (fun hn_ => (Kd.freshB (g := gb201) (o := .cells #[.int .u16 0, .int .u16 0, .slice none 0 0] 31 (0, 0)) (by (with_reducible repeat (first | refine blk_drewN ?_ _ | refine blk_drew ?_ | refine blk_alloc ?_ _)); exact BK201.out) k_ hn_))⟩)) (below_size (by repeat (first | (with_reducible first | exact HB.out | apply below_alloc | apply pw_below_drewN | apply below_drew1 | refine below_set ?_ GE199.out | refine below_set ?_ GE200.out | refine below_set ?_ GE201.out) | exact HB.out)))); have n6_ := Aside0.mk (blk_below (g := gb199) (o := .cells #[.int .u16 a0_0, .int .u16 a0_1, .slice Ao55 t205.length co55] 31 (0, 0)) (by (with_reducible repeat (first | refine blk_drewN ?_ _ | refine blk_drew ?_ | refine blk_alloc ?_ _)); exact BK199.out) hb); have n7_ := Aside0.mk (blk_below (g := gb200) (o := .cells #[.int .u16 a1_0, .int .u16 a1_1, .int .i64 a1_2, .int .i64 a1_3, .int .u16 a1_4, .int .u16 a1_5, .int .i64 a1_6, .bool a1_7, .int .u16 a1_8, .int .u16 a1_9, .int .i64 a1_10, .string a1_11, .bool a1_12, .int .i64 a1_13, .slice A1_14 l1_14.length c1_14, .slice A1_15 l1_15.length c1_15, .slice A1_16 l1_16.length c1_16] 39 (0, 0)) (by (with_reducible repeat (first | refine blk_drewN ?_ _ | refine blk_drew ?_ | refine blk_alloc ?_ _)); exact BK200.out) hb); have n8_ := Aside0.mk (blk_below (g := gb201) (o := .cells #[.int .u16 0, .int .u16 0, .slice none 0 0] 31 (0, 0)) (by (with_reducible repeat (first | refine blk_drewN ?_ _ | refine blk_drew ?_ | refine blk_alloc ?_ _)); exact BK201.out) hb); have n9_ := Aside0.mk (below_step (by repeat (first | (with_reducible first | exact HB.out | apply below_alloc | apply pw_below_drewN | apply below_drew1 | refine below_set ?_ GE199.out | refine below_set ?_ GE200.out | refine below_set ?_ GE201.out) | exact HB.out)) hb); clear HO_200002; clear HO_201014; clear HO_201015; clear HO_201016; clear HO207; clear BK199; clear BK200; clear BK201; clear HB; have HO_200002 := n0_; have HO_201014 := n1_; have HO_201015 := n2_; have HO_201016 := n3_; have HO207 := n4_; have HO210 := n5_; have BK199 := n6_; have BK200 := n7_; have BK201 := n8_; have HB := n9_; clear n0_ n1_ n2_ n3_ n4_ n5_ n6_ n7_ n8_ n9_; (try clear hb); (try clear hb2); (try clear hk); (try clear hi); (try clear ho0); obtain ⟨Ao62, co62, eo62⟩ := Kd.N_slice HO210.out; subst eo62; have hcz63_0 : w61.cell? ⟨gb199, 0, none⟩ = some (.int .u16 a0_0) := (blk_cell BK199.out 0).trans rfl; have hcz63_1 : w61.cell? ⟨gb199, 1, none⟩ = some (.int .u16 a0_1) := (blk_cell BK199.out 1).trans rfl; have hcz63_2 : w61.cell? ⟨gb199, 2, none⟩ = some (.slice Ao55 t205.length co55) := (blk_cell BK199.out 2).trans rfl; have hfz63_0 := blk_frozen BK199.out 0; have hfz63_1 := blk_frozen BK199.out 1; have hfz63_2 := blk_frozen BK199.out 2; have hcz64_0 : w61.cell? ⟨gb201, 0, none⟩ = some (.int .u16 0) := (blk_cell BK201.out 0).trans rfl; have hcz64_1 : w61.cell? ⟨gb201, 1, none⟩ = some (.int .u16 0) := (blk_cell BK201.out 1).trans rfl; have hcz64_2 : w61.cell? ⟨gb201, 2, none⟩ = some (.slice none 0 0) := (blk_cell BK201.out 2).trans rfl; have hfz64_0 := blk_frozen BK201.out 0; have hfz64_1 := blk_frozen BK201.out 1; have hfz64_2 := blk_frozen BK201.out 2))
                      refine bodyPost_ret (results_ct rfl _ _ gb201 31 #[.int .u16 a0_0, .int .u16 a0_1, .slice Ao62 t208.length co62] (0, 0) _ rfl (by (with_reducible repeat (first | refine blk_drewN ?_ _ | refine blk_drew ?_ | refine blk_alloc ?_ _)); refine blk_put (cs := #[.int .u16 a0_0, .int .u16 a0_1, .slice none 0 0]) ?_ 2 _ rfl; (with_reducible repeat (first | refine blk_drewN ?_ _ | refine blk_drew ?_ | refine blk_alloc ?_ _)); refine blk_put (cs := #[.int .u16 a0_0, .int .u16 0, .slice none 0 0]) ?_ 1 _ rfl; (with_reducible repeat (first | refine blk_drewN ?_ _ | refine blk_drew ?_ | refine blk_alloc ?_ _)); refine blk_put (cs := #[.int .u16 0, .int .u16 0, .slice none 0 0]) ?_ 0 _ rfl; (with_reducible repeat (first | refine blk_drewN ?_ _ | refine blk_drew ?_ | refine blk_alloc ?_ _)); refine blk_far ?_ NB201_199.out _; (with_reducible repeat (first | refine blk_drewN ?_ _ | refine blk_drew ?_ | refine blk_alloc ?_ _)); exact BK201.out) Try.underlying31 rfl (by kernel_rfl)) rfl ?_
                      exact ⟨_, by first | rfl | (simp [errW_none, errW_some] <;> rfl) | (simp [*, errW_none, errW_some] <;> rfl), Kd.N_V (by (with_reducible repeat (first | apply Kd.N_alloc | apply Kd.N_drewN | apply Kd.N_drew)); exact Kd.N_mono (Kd.N_far (p := ⟨gb201, 2, none⟩) (Kd.N_far (p := ⟨gb201, 1, none⟩) (Kd.N_far (p := ⟨gb201, 0, none⟩) (Kd.N_far (p := ⟨gb199, 2, none⟩) (Kd.N_mono (Kd.N_mono HO210.out (fun k_ hk => (⟨hk, hk.2.1⟩ : _ ∧ k_ ≠ gb199))) (fun k_ hk => (⟨hk, hk.1.2.2.2⟩ : _ ∧ k_ ≠ gb201))) (fun _ hk => hk.1.2) (.slice Ao62 t208.length co62)) (fun _ hk => hk.2) (.int .u16 a0_0)) (fun _ hk => hk.2) (.int .u16 a0_1)) (fun _ hk => hk.2) (.slice Ao62 t208.length co62)) (fun _ hk => hk.1.1.1)), by repeat (first | (with_reducible first | exact HB.out | apply below_alloc | apply pw_below_drewN | apply below_drew1 | refine below_set ?_ GE199.out | refine below_set ?_ GE200.out | refine below_set ?_ GE201.out) | exact HB.out)⟩
                    · replace c48 := Bool.eq_false_iff.mpr c48
                      subst c48
                      have H1 : ((forepeakref26_With.f kj39 l0_2 a1_0 a1_1 a1_2 a1_3 a1_4 a1_5 a1_6 a1_7 a1_8 a1_9 a1_10 a1_11 a1_12 a1_13 l1_14 l1_15 l1_16).bind fun t211 => (some (a0_0, a0_1, t211, 0))) = some (r1, r2, r3, r4) := by rw [if_neg (show ¬ (false = true) by decide)] at H; exact H
                      clear H
                      have H := H1
                      clear H1
                      replace H := Option.bind_eq_some_iff.mp H
                      obtain ⟨t211, A650, H⟩ := H
                      replace H : (some (a0_0, a0_1, t211, 0)) = some (r1, r2, r3, r4) := H
                      have A65 := Aside0.mk A650
                      clear A650
                      simp only [Option.some.injEq, Prod.mk.injEq] at H
                      obtain ⟨rfl, rfl, rfl, rfl⟩ := H
                      have hnb66 := NB199_200.out
                      have hnc66 := NB200_199.out
                      have hnb67 := NB199_201.out
                      have hnc67 := NB201_199.out
                      have hcz68_0 : wc.cell? ⟨gb199, 0, none⟩ = some (.int .u16 a0_0) := (blk_cell BK199.out 0).trans rfl
                      have hcz68_1 : wc.cell? ⟨gb199, 1, none⟩ = some (.int .u16 a0_1) := (blk_cell BK199.out 1).trans rfl
                      have hcz68_2 : wc.cell? ⟨gb199, 2, none⟩ = some (.slice A0_2 l0_2.length c0_2) := (blk_cell BK199.out 2).trans rfl
                      have hfz68_0 := blk_frozen BK199.out 0
                      have hfz68_1 := blk_frozen BK199.out 1
                      have hfz68_2 := blk_frozen BK199.out 2
                      have hnb69 := NB200_201.out
                      have hnc69 := NB201_200.out
                      have hcz70_0 : wc.cell? ⟨gb200, 0, none⟩ = some (.int .u16 a1_0) := (blk_cell BK200.out 0).trans rfl
                      have hcz70_1 : wc.cell? ⟨gb200, 1, none⟩ = some (.int .u16 a1_1) := (blk_cell BK200.out 1).trans rfl
                      have hcz70_2 : wc.cell? ⟨gb200, 2, none⟩ = some (.int .i64 a1_2) := (blk_cell BK200.out 2).trans rfl
                      have hcz70_3 : wc.cell? ⟨gb200, 3, none⟩ = some (.int .i64 a1_3) := (blk_cell BK200.out 3).trans rfl
                      have hcz70_4 : wc.cell? ⟨gb200, 4, none⟩ = some (.int .u16 a1_4) := (blk_cell BK200.out 4).trans rfl
                      have hcz70_5 : wc.cell? ⟨gb200, 5, none⟩ = some (.int .u16 a1_5) := (blk_cell BK200.out 5).trans rfl
                      have hcz70_6 : wc.cell? ⟨gb200, 6, none⟩ = some (.int .i64 a1_6) := (blk_cell BK200.out 6).trans rfl
                      have hcz70_7 : wc.cell? ⟨gb200, 7, none⟩ = some (.bool a1_7) := (blk_cell BK200.out 7).trans rfl
                      have hcz70_8 : wc.cell? ⟨gb200, 8, none⟩ = some (.int .u16 a1_8) := (blk_cell BK200.out 8).trans rfl
                      have hcz70_9 : wc.cell? ⟨gb200, 9, none⟩ = some (.int .u16 a1_9) := (blk_cell BK200.out 9).trans rfl
                      have hcz70_10 : wc.cell? ⟨gb200, 10, none⟩ = some (.int .i64 a1_10) := (blk_cell BK200.out 10).trans rfl
                      have hcz70_11 : wc.cell? ⟨gb200, 11, none⟩ = some (.string a1_11) := (blk_cell BK200.out 11).trans rfl
                      have hcz70_12 : wc.cell? ⟨gb200, 12, none⟩ = some (.bool a1_12) := (blk_cell BK200.out 12).trans rfl
                      have hcz70_13 : wc.cell? ⟨gb200, 13, none⟩ = some (.int .i64 a1_13) := (blk_cell BK200.out 13).trans rfl
                      have hcz70_14 : wc.cell? ⟨gb200, 14, none⟩ = some (.slice A1_14 l1_14.length c1_14) := (blk_cell BK200.out 14).trans rfl
                      have hcz70_15 : wc.cell? ⟨gb200, 15, none⟩ = some (.slice A1_15 l1_15.length c1_15) := (blk_cell BK200.out 15).trans rfl
                      have hcz70_16 : wc.cell? ⟨gb200, 16, none⟩ = some (.slice A1_16 l1_16.length c1_16) := (blk_cell BK200.out 16).trans rfl
                      have hfz70_0 := blk_frozen BK200.out 0
                      have hfz70_1 := blk_frozen BK200.out 1
                      have hfz70_2 := blk_frozen BK200.out 2
                      have hfz70_3 := blk_frozen BK200.out 3
                      have hfz70_4 := blk_frozen BK200.out 4
                      have hfz70_5 := blk_frozen BK200.out 5
                      have hfz70_6 := blk_frozen BK200.out 6
                      have hfz70_7 := blk_frozen BK200.out 7
                      have hfz70_8 := blk_frozen BK200.out 8
                      have hfz70_9 := blk_frozen BK200.out 9
                      have hfz70_10 := blk_frozen BK200.out 10
                      have hfz70_11 := blk_frozen BK200.out 11
                      have hfz70_12 := blk_frozen BK200.out 12
                      have hfz70_13 := blk_frozen BK200.out 13
                      have hfz70_14 := blk_frozen BK200.out 14
                      have hfz70_15 := blk_frozen BK200.out 15
                      have hfz70_16 := blk_frozen BK200.out 16
                      go_wp2_with (first | ((with_reducible refine gate_callee (f := 47) rfl ?_); refine goesL_ (some 49) rfl rfl Try.func47 (by kernel_rfl) rfl #[.slice A0_2 l0_2.length c0_2, .agg #[.int .u16 a1_0, .int .u16 a1_1, .int .i64 a1_2, .int .i64 a1_3, .int .u16 a1_4, .int .u16 a1_5, .int .i64 a1_6, .bool a1_7, .int .u16 a1_8, .int .u16 a1_9, .int .i64 a1_10, .string a1_11, .bool a1_12, .int .i64 a1_13, .slice A1_14 l1_14.length c1_14, .slice A1_15 l1_15.length c1_15, .slice A1_16 l1_16.length c1_16]] rfl (by (try simp only [List.map_toArray, List.map_cons, List.map_nil]); first | done | rfl | (simp only [List.length_drop, List.length_take]; rfl)) ?_; (with_reducible refine (forepeakref26_With.calls kj39 (fun k_ => (((P0_2_ k_ ∨ P1_14_ k_ ∨ P1_15_ k_ ∨ P1_16_ k_) ∨ w.heap.size ≤ k_) ∧ (k_ ≠ gb199 ∧ (k_ ≠ gb200 ∧ k_ ≠ gb201)))) _ _ l0_2 a1_0 a1_1 a1_2 a1_3 a1_4 a1_5 a1_6 a1_7 a1_8 a1_9 a1_10 a1_11 a1_12 a1_13 (fun k_ => (((P0_2_ k_ ∨ P1_14_ k_ ∨ P1_15_ k_ ∨ P1_16_ k_) ∨ w.heap.size ≤ k_) ∧ (k_ ≠ gb199 ∧ (k_ ≠ gb200 ∧ k_ ≠ gb201)))) _ _ l1_14 (fun k_ => (((P0_2_ k_ ∨ P1_14_ k_ ∨ P1_15_ k_ ∨ P1_16_ k_) ∨ w.heap.size ≤ k_) ∧ (k_ ≠ gb199 ∧ (k_ ≠ gb200 ∧ k_ ≠ gb201)))) _ _ l1_15 (fun k_ => (((P0_2_ k_ ∨ P1_14_ k_ ∨ P1_15_ k_ ∨ P1_16_ k_) ∨ w.heap.size ≤ k_) ∧ (k_ ≠ gb199 ∧ (k_ ≠ gb200 ∧ k_ ≠ gb201)))) _ _ l1_16 t211 _ ?side1 ?side2 ?side3 ?side4 A65.out).mono ?_); (case side1 => exact HO_200002.out); (case side2 => exact HO_201014.out); (case side3 => exact HO_201015.out); (case side4 => exact HO_201016.out); rintro e w71 ⟨v212, rfl, ho0, hb⟩; refine ⟨_, rfl, ?_⟩; have n0_ := Aside0.mk (Kd.V_elder' (by (with_reducible repeat (first | apply Kd.V_alloc | apply Kd.V_drewN | apply Kd.V_drew)); exact HO_200002.out) (Kd.N_base ho0) hb); have n1_ := Aside0.mk (Kd.V_elder' (by (with_reducible repeat (first | apply Kd.V_alloc | apply Kd.V_drewN | apply Kd.V_drew)); exact HO_201014.out) (Kd.N_base ho0) hb); have n2_ := Aside0.mk (Kd.V_elder' (by (with_reducible repeat (first | apply Kd.V_alloc | apply Kd.V_drewN | apply Kd.V_drew)); exact HO_201015.out) (Kd.N_base ho0) hb); have n3_ := Aside0.mk (Kd.V_elder' (by (with_reducible repeat (first | apply Kd.V_alloc | apply Kd.V_drewN | apply Kd.V_drew)); exact HO_201016.out) (Kd.N_base ho0) hb); have n4_ := Aside0.mk (Kd.N_lower (Kd.N_mono (ok' := fun k_ => ((P0_2_ k_ ∨ P1_14_ k_ ∨ P1_15_ k_ ∨ P1_16_ k_) ∨ w.heap.size ≤ k_) ∧ k_ ≠ gb199 ∧ k_ ≠ gb200 ∧ k_ ≠ gb201) ho0 (fun k_ hk_ => ⟨Or.elim hk_ (fun hs_ => Or.elim hs_ (fun hs_ => hs_.1) (fun hs_ => Or.elim hs_ (fun hs_ => hs_.1) (fun hs_ => Or.elim hs_ (fun hs_ => hs_.1) (fun hs_ => hs_.1)))) (fun hn_ => (.inr (Nat.le_trans (below_size (by repeat (first | (with_reducible first | exact HB.out | apply below_alloc | apply pw_below_drewN | apply below_drew1 | refine below_set ?_ GE199.out | refine below_set ?_ GE200.out | refine below_set ?_ GE201.out) | exact HB.out))) hn_))), Or.elim hk_ (fun hs_ => Or.elim hs_ (fun hs_ => hs_.2.1) (fun hs_ => Or.elim hs_ (fun hs_ => hs_.2.1) (fun hs_ => Or.elim hs_ (fun hs_ => hs_.2.1) (fun hs_ => hs_.2.1)))) (fun hn_ => (Kd.freshB (g := gb199) (o := .cells #[.int .u16 a0_0, .int .u16 a0_1, .slice A0_2 l0_2.length c0_2] 31 (0, 0)) (by (with_reducible repeat (first | refine blk_drewN ?_ _ | refine blk_drew ?_ | refine blk_alloc ?_ _)); exact BK199.out) k_ hn_)), Or.elim hk_ (fun hs_ => Or.elim hs_ (fun hs_ => hs_.2.2.1) (fun hs_ => Or.elim hs_ (fun hs_ => hs_.2.2.1) (fun hs_ => Or.elim hs_ (fun hs_ => hs_.2.2.1) (fun hs_ => hs_.2.2.1)))) (fun hn_ => (Kd.freshB (g := gb200) (o := .cells #[.int .u16 a1_0, .int .u16 a1_1, .int .i64 a1_2, .int .i64 a1_3, .int .u16 a1_4, .int .u16 a1_5, .int .i64 a1_6, .bool a1_7, .int .u16 a1_8, .int .u16 a1_9, .int .i64 a1_10, .string a1_11, .bool a1_12, .int .i64 a1_13, .slice A1_14 l1_14.length c1_14, .slice A1_15 l1_15.length c1_15, .slice A1_16 l1_16.length c1_16] 39 (0, 0)) (by (with_reducible repeat (first | refine blk_drewN ?_ _ | refine blk_drew ?_ | refine blk_alloc ?_ _)); exact BK200.out) k_ hn_)), Or.elim hk_ (fun hs_ => Or.elim hs_ (fun hs_ => hs_.2.2.2) (fun hs_ => Or.elim hs_ (fun hs_ => hs_.2.2.2) (fun hs_ => Or.elim hs_ (fun hs_ => hs_.2.2.2) (fun hs_ => hs_.2.2.2)))) (fun hn_ => (Kd.freshB (g := gb201) (o := .cells #[.int .u16 0, .int .u16 0, .slice none 0 0] 31 (0, 0)) (by (with_reducible repeat (first | refine blk_drewN ?_ _ | refine blk_drew ?_ | refine blk_alloc ?_ _)); exact BK201.out) k_ hn_))⟩)) (below_size (by repeat (first | (with_reducible first | exact HB.out | apply below_alloc | apply pw_below_drewN | apply below_drew1 | refine below_set ?_ GE199.out | refine below_set ?_ GE200.out | refine below_set ?_ GE201.out) | exact HB.out)))); have n5_ := Aside0.mk (blk_below (g := gb199) (o := .cells #[.int .u16 a0_0, .int .u16 a0_1, .slice A0_2 l0_2.length c0_2] 31 (0, 0)) (by (with_reducible repeat (first | refine blk_drewN ?_ _ | refine blk_drew ?_ | refine blk_alloc ?_ _)); exact BK199.out) hb); have n6_ := Aside0.mk (blk_below (g := gb200) (o := .cells #[.int .u16 a1_0, .int .u16 a1_1, .int .i64 a1_2, .int .i64 a1_3, .int .u16 a1_4, .int .u16 a1_5, .int .i64 a1_6, .bool a1_7, .int .u16 a1_8, .int .u16 a1_9, .int .i64 a1_10, .string a1_11, .bool a1_12, .int .i64 a1_13, .slice A1_14 l1_14.length c1_14, .slice A1_15 l1_15.length c1_15, .slice A1_16 l1_16.length c1_16] 39 (0, 0)) (by (with_reducible repeat (first | refine blk_drewN ?_ _ | refine blk_drew ?_ | refine blk_alloc ?_ _)); exact BK200.out) hb); have n7_ := Aside0.mk (blk_below (g := gb201) (o := .cells #[.int .u16 0, .int .u16 0, .slice none 0 0] 31 (0, 0)) (by (with_reducible repeat (first | refine blk_drewN ?_ _ | refine blk_drew ?_ | refine blk_alloc ?_ _)); exact BK201.out) hb); have n8_ := Aside0.mk (below_step (by repeat (first | (with_reducible first | exact HB.out | apply below_alloc | apply pw_below_drewN | apply below_drew1 | refine below_set ?_ GE199.out | refine below_set ?_ GE200.out | refine below_set ?_ GE201.out) | exact HB.out)) hb); clear HO_200002; clear HO_201014; clear HO_201015; clear HO_201016; clear BK199; clear BK200; clear BK201; clear HB; have HO_200002 := n0_; have HO_201014 := n1_; have HO_201015 := n2_; have HO_201016 := n3_; have HO213 := n4_; have BK199 := n5_; have BK200 := n6_; have BK201 := n7_; have HB := n8_; clear n0_ n1_ n2_ n3_ n4_ n5_ n6_ n7_ n8_; (try clear hb); (try clear hb2); (try clear hk); (try clear hi); (try clear ho0); obtain ⟨Ao72, co72, eo72⟩ := Kd.N_slice HO213.out; subst eo72; have hcz73_0 : w71.cell? ⟨gb199, 0, none⟩ = some (.int .u16 a0_0) := (blk_cell BK199.out 0).trans rfl; have hcz73_1 : w71.cell? ⟨gb199, 1, none⟩ = some (.int .u16 a0_1) := (blk_cell BK199.out 1).trans rfl; have hcz73_2 : w71.cell? ⟨gb199, 2, none⟩ = some (.slice A0_2 l0_2.length c0_2) := (blk_cell BK199.out 2).trans rfl; have hfz73_0 := blk_frozen BK199.out 0; have hfz73_1 := blk_frozen BK199.out 1; have hfz73_2 := blk_frozen BK199.out 2; have hcz74_0 : w71.cell? ⟨gb201, 0, none⟩ = some (.int .u16 0) := (blk_cell BK201.out 0).trans rfl; have hcz74_1 : w71.cell? ⟨gb201, 1, none⟩ = some (.int .u16 0) := (blk_cell BK201.out 1).trans rfl; have hcz74_2 : w71.cell? ⟨gb201, 2, none⟩ = some (.slice none 0 0) := (blk_cell BK201.out 2).trans rfl; have hfz74_0 := blk_frozen BK201.out 0; have hfz74_1 := blk_frozen BK201.out 1; have hfz74_2 := blk_frozen BK201.out 2))
                      refine bodyPost_ret (results_ct rfl _ _ gb201 31 #[.int .u16 a0_0, .int .u16 a0_1, .slice Ao72 t211.length co72] (0, 0) _ rfl (by (with_reducible repeat (first | refine blk_drewN ?_ _ | refine blk_drew ?_ | refine blk_alloc ?_ _)); refine blk_put (cs := #[.int .u16 a0_0, .int .u16 a0_1, .slice none 0 0]) ?_ 2 _ rfl; (with_reducible repeat (first | refine blk_drewN ?_ _ | refine blk_drew ?_ | refine blk_alloc ?_ _)); refine blk_put (cs := #[.int .u16 a0_0, .int .u16 0, .slice none 0 0]) ?_ 1 _ rfl; (with_reducible repeat (first | refine blk_drewN ?_ _ | refine blk_drew ?_ | refine blk_alloc ?_ _)); refine blk_put (cs := #[.int .u16 0, .int .u16 0, .slice none 0 0]) ?_ 0 _ rfl; (with_reducible repeat (first | refine blk_drewN ?_ _ | refine blk_drew ?_ | refine blk_alloc ?_ _)); refine blk_far ?_ NB201_199.out _; (with_reducible repeat (first | refine blk_drewN ?_ _ | refine blk_drew ?_ | refine blk_alloc ?_ _)); exact BK201.out) Try.underlying31 rfl (by kernel_rfl)) rfl ?_
                      exact ⟨_, by first | rfl | (simp [errW_none, errW_some] <;> rfl) | (simp [*, errW_none, errW_some] <;> rfl), Kd.N_V (by (with_reducible repeat (first | apply Kd.N_alloc | apply Kd.N_drewN | apply Kd.N_drew)); exact Kd.N_mono (Kd.N_far (p := ⟨gb201, 2, none⟩) (Kd.N_far (p := ⟨gb201, 1, none⟩) (Kd.N_far (p := ⟨gb201, 0, none⟩) (Kd.N_far (p := ⟨gb199, 2, none⟩) (Kd.N_mono (Kd.N_mono HO213.out (fun k_ hk => (⟨hk, hk.2.1⟩ : _ ∧ k_ ≠ gb199))) (fun k_ hk => (⟨hk, hk.1.2.2.2⟩ : _ ∧ k_ ≠ gb201))) (fun _ hk => hk.1.2) (.slice Ao72 t211.length co72)) (fun _ hk => hk.2) (.int .u16 a0_0)) (fun _ hk => hk.2) (.int .u16 a0_1)) (fun _ hk => hk.2) (.slice Ao72 t211.length co72)) (fun _ hk => hk.1.1.1)), by repeat (first | (with_reducible first | exact HB.out | apply below_alloc | apply pw_below_drewN | apply below_drew1 | refine below_set ?_ GE199.out | refine below_set ?_ GE200.out | refine below_set ?_ GE201.out) | exact HB.out)⟩

end Go.Proofs.Ytaapejhoegeimaa.PPartPlays
