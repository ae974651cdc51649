/- LabelTells, LabelJoins: the walks. No conditions. -/
import Derived.Test.YtdjndnoiankicaaDoorLalive
import Derived.Test.YtdjndnoiankicaaDoorLrefd
namespace Go.Proofs.YtdjndnoiankicaaDoor
open Go.RowKit Go.Shelf
set_option linter.unusedSimpArgs false
set_option linter.unusedVariables false
attribute [local go_sem] cell_over frozen_over

set_option maxRecDepth 100000 in
set_option maxHeartbeats 4000000 in
theorem ltells_ok (a b : Lab.L) (ha : Lab.ok a) (hb : Lab.ok b) (w : World) (hL : LaidAt w) :
    Calls Tryd.prog 3 #[labV a, labV b] w fun e w' => e = .returned (.bool true) ∧ Below w.heap.size w w' := by
  have HL := Lib.hid (hL.below (below_new (below_new (Below.refl w.heap.size w) (.cells #[.int .u16 (a.1 : Int), .int .u16 (a.2 : Int)] 24)) (.cells #[.int .u16 (b.1 : Int), .int .u16 (b.2 : Int)] 24)))
  clear hL
  have H1 := Lib.hid (fun w => flows_ok a b ha hb w)
  have H2 := Lib.hid (fun w => rflows_ok a b ha hb w)
  have H3 := Lib.hid (fun w => lcmp_ok a b ha hb w)
  have H4 := Lib.hid (fun w => rcmp_ok a b ha hb w)
  have H5 := Lib.hid (fun w => ltags_ok a ha w)
  have H6 := Lib.hid (fun w => rtags_ok a ha w)
  have H7 : Hid (∀ w, Calls Tryd.prog 20 #[.slice none 0 0] w fun e w' => e = .returned (labV Lab.top) ∧ Below w.heap.size w w') := Lib.hid (fun w => rlmeet_ok none 0 [] (by simp) (by simp) w (.inl rfl))
  generalize Lab.flows a b = x at H1 H2
  generalize Lab.cmp a b = c at H3 H4
  generalize (a.1 ||| a.2) = t at H5 H6
  have hxx : (x == x) = true := by simp
  go_enter Tryd.func3, Tryd.ntmps3
  go_wp2_with fail
  refine wp_region_over (by kernel_rfl) (by kernel_rfl) ?_
  repeat (go_big_quiet_step (first
    | ((go_at_call 11; exact Calls.over_of (H1.out _)))
    | ((go_at_call 12; exact Calls.over_of (H2.out _)))
    | ((go_at_call 13; exact Calls.over_of (H3.out _)))
    | ((go_at_call 14; exact Calls.over_of (H4.out _)))
    | ((go_at_call 15; exact Calls.over_of (H5.out _)))
    | ((go_at_call 16; exact Calls.over_of (H6.out _)))
    | ((go_at_call 17; exact Calls.over_of (bottom_ok _)))
    | ((go_at_call 18; exact Calls.over_of (rbottom_ok _)))
    | ((go_at_call 19; exact Calls.over_of (top_ok _)))
    | ((go_at_call 20; exact Calls.over_of (H7.out _)))
    | ((go_at_call 21; exact Calls.over_of (lalive_ok _ (HL.out.below (over_below _ _)))))))
  refine wpQuiet_nil ?_
  intro W7 hW7
  have hb7 := below_of_over hW7
  clear hW7
  go_wp2_with fail
  go_ret
  exact ⟨rfl, below_here (below_new (below_new (Below.refl _ _) _) _) hb7⟩
set_option maxRecDepth 100000 in
set_option maxHeartbeats 4000000 in
theorem ljoins_ok (A : Option Addr) (c : Nat) (l : List Lab.L) (hl : l.length ≤ 9223372036854775807) (hok : ∀ a ∈ l, Lab.ok a) (w : World) (hA : LabsAt w A l) (hL : LaidAt w) :
    Calls Tryd.prog 4 #[.slice A l.length c] w fun e w' => e = .returned (.bool true) ∧ Below w.heap.size w w' := by
  have HL := Lib.hid hL
  have HA := Lib.hid hA
  by_cases h40 : 40 < l.length
  · obtain ⟨n, hn⟩ : ∃ n, n = l.length := ⟨_, rfl⟩
    rw [← hn] at hl h40 ⊢
    have h40i : (40 : Int) < (n : Int) := by omega
    clear hL hA hn hok
    go_enter Tryd.func4, Tryd.ntmps4
    go_wp2_with (go_at_call 21; refine (lalive_ok _ HL.out).mono ?_; rintro e w1 ⟨rfl, hb1⟩)
    go_ret
    exact ⟨rfl, hb1⟩
  · have hl' : l.length ≤ 4611686018427387904 := by omega
    have H1 := Lib.hid (fun w h => ljoin_ok A c l hl' hok w h)
    have H2 := Lib.hid (fun w h => rljoin_ok A c l hl' hok w h)
    have H3 := Lib.hid (fun w h => lmeet_ok A c l hl' hok w h)
    have H4 := Lib.hid (fun w h => rlmeet_ok A c l hl' hok w h)
    generalize Lab.join l = x at H1 H2
    generalize Lab.meet l = y at H3 H4
    obtain ⟨n, hn⟩ : ∃ n, n = l.length := ⟨_, rfl⟩
    rw [← hn] at h40 H1 H2 H3 H4 ⊢
    have h40i : ¬ (40 : Int) < (n : Int) := by omega
    have hn0 : 0 ≤ (n : Int) := by omega
    clear hL hA hn hok hl hl' h40
    go_enter Tryd.func4, Tryd.ntmps4
    go_wp2_with (first
      | (go_at_call 22; refine (H1.out _ HA.out).mono ?_; rintro e w1 ⟨rfl, hb1⟩; have HB1 := Lib.hid hb1; clear hb1)
      | (go_at_call 23; refine (H2.out _ (HA.out.below HB1.out)).mono ?_; rintro e w2 ⟨rfl, hb2⟩; have HB2 := Lib.hid (below_here HB1.out hb2); clear hb2)
      | (go_at_call 24; refine (H3.out _ (HA.out.below HB2.out)).mono ?_; rintro e w3 ⟨rfl, hb3⟩; have HB3 := Lib.hid (below_here HB2.out hb3); clear hb3)
      | (go_at_call 20; refine (H4.out _ (HA.out.below HB3.out)).mono ?_; rintro e w4 ⟨rfl, hb4⟩; have HB4 := Lib.hid (below_here HB3.out hb4); clear hb4)
      | (go_at_call 21; refine (lalive_ok _ (HL.out.below HB4.out)).mono ?_; rintro e w5 ⟨rfl, hb5⟩; have HB5 := Lib.hid (below_here HB4.out hb5); clear hb5))
    go_ret
    exact ⟨rfl, HB5.out⟩
end Go.Proofs.YtdjndnoiankicaaDoor
