/- The reference's Same and SameAll (package forepeakref25) on the same objects. No conditions. -/
import Derived.Test.YtaapejhoegeimaaPlawc
import Derived.Test.YtaapejhoegeimaaGet
import Derived.Deep.DeepCutAuto
import Derived.Deep.CutBlock
namespace Go.Proofs.Ytaapejhoegeimaa
open Go.RowKit Go.Shelf Go.Proofs.YtaapejhoegeimaaW.PrintWords Go.Proofs.Ytaapejhoegeimaa.PPartPlays
set_option linter.unusedSimpArgs false
set_option linter.unusedVariables false

/-- An object whose queues are not long. -/
def Short (n : Nat) (s : S39) : Prop := s.f8.f1.length ≤ n ∧ s.f8.f2.length ≤ n ∧ s.f8.f3.length ≤ n
theorem same_obj (s : S39) (hq : Short 100 s) (cs cs' : List Value) (w : World) (h : k39.K w s cs) (h' : k39.K w s cs') :
    Calls Try.prog 21 #[.agg cs.toArray, .agg cs'.toArray] w fun e w' => e = .returned (.bool true) ∧ Below w.heap.size w w' := by
  obtain ⟨A1, c1, A2, c2, A3, c3, rfl, l1, g1, l2, g2, l3, g3⟩ := k39_open h
  obtain ⟨A4, c4, A5, c5, A6, c6, rfl, l4, g4, l5, g5, l6, g6⟩ := k39_open h'
  exact forepeakref25_Same.calls 101 _ _ _ _ _ _ _ _ _ _ _ _ _ _ A1 c1 _ A2 c2 _ A3 c3 _ _ _ _ _ _ _ _ _ _ _ _ _ _ _ A4 c4 _ A5 c5 _ A6 c6 _ true w g1 l1 g2 l2 g3 l3 g4 l4 g5 l5 g6 l6 (Plaw.same25 0 s hq.1 hq.2.1 hq.2.2)
theorem obj_at {w : World} {A : Option Addr} {l : List S39} (h : Kd.C k39 w A l.length l) (i : Nat) (hi : i < l.length) : ∃ b off cs, A = some ⟨b, off, none⟩ ∧ cs.length = 17 ∧ k39.K w l[i] cs ∧ w.rangeAt b (off + i * 17) cs ∧ b < w.heap.size := by
  obtain ⟨b, off, rfl⟩ := row_form h (by omega) (by rw [k39_sz]; omega)
  obtain ⟨ad, cs, hA, hl, hF, hc⟩ := Kd.C_get h (l[i]) (i : Int) (by omega) (by omega)
  obtain rfl := Option.some.inj hA
  rw [k39_sz] at hl hc
  simp only [Int.toNat_natCast, List.getD_eq_getElem?_getD, List.getElem?_eq_getElem hi, Option.getD_some] at hF hc
  have hr : w.rangeAt b (off + i * 17) cs := fun j v hj => by have := hc j v hj; rw [Addr.add_mid] at this; rw [Nat.add_assoc]; exact this
  exact ⟨b, off, cs, rfl, hl, hF, hr, World.block_lt_of_cell? w _ (hr 0 cs[0] (List.getElem?_eq_getElem (by omega)))⟩
set_option maxRecDepth 100000 in
set_option maxHeartbeats 4000000 in
theorem sameAll_ok (A0 A1 : Option Addr) (c0 c1 : Nat) (l : List S39) (hq : ∀ x ∈ l, Short 100 x) (hl : l.length ≤ 100) (w : World) (h0 : Kd.C k39 w A0 l.length l) (h1 : Kd.C k39 w A1 l.length l) :
    Calls Try.prog 23 #[.slice A0 l.length c0, .slice A1 l.length c1] w fun e w' => e = .returned (.bool true) ∧ Below w.heap.size w w' := by
  have H0 := Lib.hid h0
  have H1 := Lib.hid h1
  have HQ := Lib.hid hq
  clear h0 h1 hq
  go_enter Try.func23, Try.ntmps23
  go_wp2_with fail
  go_loopw [5] (fun i wr => ∃ k : Nat, i = .int .i64 k ∧ k ≤ l.length ∧ Hid (Below w.heap.size w wr)) (fun i _ => l.length - (intOf i).toNat)
  case atStart => exact ⟨0, rfl, by omega, Lib.hid (Below.refl _ _)⟩
  case round =>
    obtain ⟨k, rfl, hk, HB⟩ := hrel
    by_cases hkl : k = l.length
    · subst hkl
      go_wp2_with fail
      go_ret
      exact ⟨rfl, HB.out⟩
    · have hkn : k < l.length := by omega
      have hki : (k : Int) < (l.length : Int) := by omega
      clear hkl
      obtain ⟨b, off, cs, rfl, hcl, hK, hR, hb⟩ := obj_at (Kd.C_below H0.out HB.out) k hkn
      obtain ⟨b', off', cs', rfl, hcl', hK', hR', hb'⟩ := obj_at (Kd.C_below H1.out HB.out) k hkn
      have hQ := Lib.hid (HQ.out _ (List.getElem_mem hkn))
      have HK := Lib.hid hK
      have HK' := Lib.hid hK'
      have HM : Hid (∀ W : World, (∃ X, W = over wr X) → W.rangeAt b (off + k * 17) cs) := Lib.hid (by rintro W ⟨X, rfl⟩; exact rangeAt_over hR)
      have HM' : Hid (∀ W : World, (∃ X, W = over wr X) → W.rangeAt b' (off' + k * 17) cs') := Lib.hid (by rintro W ⟨X, rfl⟩; exact rangeAt_over hR')
      clear hK hK' hR hR'
      go_upto_region 6 with fail
      refine wp_region_over (by kernel_rfl) (by kernel_rfl) ?_
      repeat (first | (go_big_quiet_want; refine quiet_load_mid 39 (.tmp 19) rfl b (off + k * 17) rfl cs _ HM.out Try.underlying39 rfl (by rw [hcl]; exact sizeObj) ?_; go_big_quiet_on; simp only [Act.put, List.setIfInBounds_toArray, List.set_cons_succ, List.set_cons_zero]) | (go_big_quiet_want; refine quiet_load_mid 39 (.tmp 23) rfl b' (off' + k * 17) rfl cs' _ HM'.out Try.underlying39 rfl (by rw [hcl']; exact sizeObj) ?_; go_big_quiet_on; simp only [Act.put, List.setIfInBounds_toArray, List.set_cons_succ, List.set_cons_zero]) | go_big_quiet_step ((go_at_call 21; exact Calls.over_of (same_obj _ hQ.out cs cs' _ (k39.K_below (over_below _ _) HK.out) (k39.K_below (over_below _ _) HK'.out)))))
      refine wpQuiet_nil ?_
      intro W7 hW7
      have HB7 := Lib.hid (below_here HB.out (below_of_over hW7))
      clear hW7
      go_wp2_with fail
      go_roundw
      case rel => exact ⟨k + 1, by go_num, by omega, HB7⟩
      case measure => simp [intOf]; omega
end Go.Proofs.Ytaapejhoegeimaa
