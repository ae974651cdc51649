/- TraceSees: the walk. TraceSees: at any entries and events that came in. No conditions. -/
import Derived.Test.YtdjndnoiankicaaDoorTrd
namespace Go.Proofs.YtdjndnoiankicaaDoor
open Go.RowKit Go.Shelf
set_option linter.unusedSimpArgs false
set_option linter.unusedVariables false
attribute [local go_sem] cell_over frozen_over

theorem rseen_at (A : Option Addr) (c : Nat) (l : List Tr.E) (hlen : l.length ≤ 1000000) (hok : ∀ e ∈ l, Lab.ok e.2.2.1) (b : Lab.L) (hb : Lab.ok b) (w : World) (hA : EntsAt w A l) :
    Calls Tryd.prog 35 #[.slice A l.length c, labV b] w fun e w' => ∃ p : Option Addr × Nat, e = .returned (.slice p.1 (Tr.seen l b).length p.2) ∧ EntsAt w' p.1 (Tr.seen l b) ∧ Below w.heap.size w w' := by
  refine (rseen_ok A c l hlen hok b hb w hA).mono ?_
  rintro e w' ⟨v, rfl, ho, hb1⟩
  obtain ⟨A', cap, rfl, h1, h2⟩ := ents_of_own ho
  exact ⟨(A', cap), rfl, h1, hb1⟩
set_option maxRecDepth 100000 in
set_option maxHeartbeats 4000000 in
theorem trsees_big (A B E : Option Addr) (c d f n m k : Nat) (hn : 60 < n ∨ (n ≤ 60 ∧ 60 < m) ∨ (n ≤ 60 ∧ m ≤ 60 ∧ 60 < k)) (by' : Lab.L) (w : World) (hL : LaidAt w) :
    Calls Tryd.prog 8 #[.slice A n c, .slice B m d, .slice E k f, labV by'] w fun r w' => r = .returned (.bool true) ∧ Below w.heap.size w w' := by
  have HBW := Lib.hid (below_new (Below.refl w.heap.size w) (.cells #[.int .u16 (by'.1 : Int), .int .u16 (by'.2 : Int)] 24))
  have HL := Lib.hid (tralive_ok _ (hL.below HBW.out))
  clear hL
  rcases hn with h1 | ⟨h1, h2⟩ | ⟨h1, h2, h3⟩
  · have g1 : (60 : Int) < (n : Int) := by omega
    clear h1
    go_enter Tryd.func8, Tryd.ntmps8
    go_wp2_with fail
    refine HL.out.mono ?_
    rintro r w1 ⟨rfl, hb1⟩
    go_wp2_with fail
    go_ret
    exact ⟨rfl, below_here HBW.out hb1⟩
  · have g1 : ¬ (60 : Int) < (n : Int) := by omega
    have g2 : (60 : Int) < (m : Int) := by omega
    clear h1 h2
    go_enter Tryd.func8, Tryd.ntmps8
    go_wp2_with fail
    refine HL.out.mono ?_
    rintro r w1 ⟨rfl, hb1⟩
    go_wp2_with fail
    go_ret
    exact ⟨rfl, below_here HBW.out hb1⟩
  · have g1 : ¬ (60 : Int) < (n : Int) := by omega
    have g2 : ¬ (60 : Int) < (m : Int) := by omega
    have g3 : (60 : Int) < (k : Int) := by omega
    clear h1 h2 h3
    go_enter Tryd.func8, Tryd.ntmps8
    go_wp2_with fail
    refine HL.out.mono ?_
    rintro r w1 ⟨rfl, hb1⟩
    go_wp2_with fail
    go_ret
    exact ⟨rfl, below_here HBW.out hb1⟩
set_option maxRecDepth 100000 in
set_option maxHeartbeats 8000000 in
theorem trsees_few (A B E : Option Addr) (c d f : Nat) (l m : List Tr.E) (ev : List Tr.Ev) (hl : l.length ≤ 60) (hm : m.length ≤ 60) (he : ev.length ≤ 60) (hok : ∀ x ∈ l, Lab.ok x.2.2.1) (hev : ∀ x ∈ ev, x.ok) (by' : Lab.L) (hby : Lab.ok by') (w : World) (hL : LaidAt w) (hA : EntsAt w A l) (hB : EntsAt w B m) (hE : EvsAt w E ev) :
    Calls Tryd.prog 8 #[.slice A l.length c, .slice B m.length d, .slice E ev.length f, labV by'] w fun r w' => r = .returned (.bool true) ∧ Below w.heap.size w w' := by
  have hb0 := below_new (Below.refl w.heap.size w) (.cells #[.int .u16 (by'.1 : Int), .int .u16 (by'.2 : Int)] 24)
  have HB := Lib.hid hb0
  have HLw := Lib.hid hL
  have HLB := Lib.hid (LabIn.new w by')
  have HEA := Lib.hid (entries_at A c l (by omega) _ (hA.below hb0))
  have HEB := Lib.hid (fun w h => entries_at B d m (by omega) w h)
  have HA := Lib.hid (hA.below hb0)
  have HBB := Lib.hid (hB.below hb0)
  have HE := Lib.hid (hE.below hb0)
  have HEV := Lib.hid hev
  have hls := Tr.seen_len l by'
  have HSN := Lib.hid (fun A c w h => tseen_at A c l (by omega) hok by' hby w h)
  have HRS := Lib.hid (fun w h => rseen_at A c l (by omega) hok by' hby w h)
  have HES := Lib.hid (fun A c w h => entries_at A c (Tr.seen l by') (by omega) w h)
  have HSM := Lib.hid (fun A B c d w h k => same_ok A B c d (Tr.seen l by') (Tr.seen l by') (by omega) (by omega) w h k)
  rw [decide_eq_true rfl] at HSM
  have HCR := Lib.hid (fun w h => crossed_ok E f ev (by omega) hev by' hby w h)
  have HSP := Lib.hid (fun A B c d w h k => same_ok A B c d l m (by omega) (by omega) w h k)
  have HSR := Lib.hid (fun w h k => rsame_ok A B c d l m (by omega) (by omega) w h k)
  have HX1 := Lib.hid (fun x (h : x ∈ ev) w => rcrosses_ok x (hev x h) by' hby w)
  have HX2 := Lib.hid (fun x (h : x ∈ ev) w => crosses_ok x (hev x h) by' hby w)
  generalize decide (l = m) = D at HSP HSR
  obtain ⟨AN, hAN⟩ : ∃ AN, AN = ev.any fun e => Tr.crosses e by' := ⟨_, rfl⟩
  rw [← hAN] at HCR
  have HAN := Lib.hid hAN
  have g1 : ¬ (60 : Int) < (l.length : Int) := by omega
  have g2 : ¬ (60 : Int) < (m.length : Int) := by omega
  have g3 : ¬ (60 : Int) < (ev.length : Int) := by omega
  obtain ⟨n, hn⟩ : ∃ n, n = ev.length := ⟨_, rfl⟩
  have HN := Lib.hid hn
  rw [← hn] at g3 HCR he ⊢
  clear hL hA hB hE hev hok hby hb0 hAN hn
  go_enter Tryd.func8, Tryd.ntmps8
  go_wp2_with fail
  refine HEA.out.mono ?_
  rintro r w1 ⟨⟨A1, k1⟩, rfl, h2, hb1⟩
  simp only at h2
  have HA1 := Lib.hid h2
  replace HB := Lib.hid (below_here HB.out hb1)
  replace HLB := Lib.hid (HLB.out.below hb1)
  replace HA := Lib.hid (HA.out.below hb1)
  replace HBB := Lib.hid (HBB.out.below hb1)
  replace HE := Lib.hid (HE.out.below hb1)
  clear h2 hb1 HEA
  go_wp2_with fail
  refine (HEB.out _ HBB.out).mono ?_
  rintro r w3 ⟨⟨B1, k2⟩, rfl, h2, hb1⟩
  simp only at h2
  have HB1 := Lib.hid h2
  replace HA1 := Lib.hid (HA1.out.below hb1)
  replace HB := Lib.hid (below_here HB.out hb1)
  replace HLB := Lib.hid (HLB.out.below hb1)
  replace HA := Lib.hid (HA.out.below hb1)
  replace HBB := Lib.hid (HBB.out.below hb1)
  replace HE := Lib.hid (HE.out.below hb1)
  clear h2 hb1 HEB
  go_wp2_with fail
  go_loopw [11, 12] (fun o i wr => ∃ (k : Nat) (b : Bool), i = .int .i64 (k : Int) ∧ k ≤ n ∧ o = .bool b ∧ Hid (b = ((ev.take k).any fun e => Tr.crosses e by')) ∧ Hid (Below w3.heap.size w3 wr)) (fun _ i _ => n - (intOf i).toNat)
  case atStart => exact ⟨0, false, rfl, Nat.zero_le _, rfl, Lib.hid rfl, Lib.hid (Below.refl _ _)⟩
  case round =>
    obtain ⟨k, b, rfl, hk, rfl, hT, HW⟩ := hrel
    by_cases hkn : k = n
    · subst hkn
      have hb : b = AN := by
        have h := hT.out
        rw [List.take_of_length_le (Nat.le_of_eq HN.out.symm)] at h
        rw [h, HAN.out]
      subst hb
      clear hT HAN HX1 HX2 HEV
      obtain ⟨c1, c2, c3⟩ := (HLB.out.below HW.out).cells
      go_wp2_with fail
      refine (HSN.out _ _ _ (HA1.out.below HW.out)).mono ?_
      rintro r W11 ⟨⟨HSA, HSc⟩, rfl, h2, hb⟩
      simp only at h2
      have HS := Lib.hid h2
      clear h2
      replace HW := Lib.hid (below_here HW.out hb)
      clear c1 c2 c3 hb
      obtain ⟨c1, c2, c3⟩ := (HLB.out.below HW.out).cells
      go_wp2_with fail
      refine (HRS.out _ (HA.out.below HW.out)).mono ?_
      rintro r W12 ⟨⟨HRA, HRc⟩, rfl, h2, hb⟩
      simp only at h2
      have HR := Lib.hid h2
      clear h2
      replace HW := Lib.hid (below_here HW.out hb)
      replace HS := Lib.hid (HS.out.below hb)
      clear c1 c2 c3 hb
      obtain ⟨c1, c2, c3⟩ := (HLB.out.below HW.out).cells
      go_wp2_with fail
      refine (HES.out _ _ _ HR.out).mono ?_
      rintro r W13 ⟨⟨HTA, HTc⟩, rfl, h2, hb⟩
      simp only at h2
      have HT := Lib.hid h2
      clear h2
      replace HW := Lib.hid (below_here HW.out hb)
      replace HS := Lib.hid (HS.out.below hb)
      clear c1 c2 c3 hb
      obtain ⟨c1, c2, c3⟩ := (HLB.out.below HW.out).cells
      go_wp2_with fail
      refine (HSM.out _ _ _ _ _ HS.out HT.out).mono ?_
      rintro r W14 ⟨rfl, hb⟩
      replace HW := Lib.hid (below_here HW.out hb)
      clear c1 c2 c3 hb
      obtain ⟨c1, c2, c3⟩ := (HLB.out.below HW.out).cells
      go_wp2_with fail
      refine (HCR.out _ (HE.out.below HW.out)).mono ?_
      rintro r W15 ⟨rfl, hb⟩
      replace HW := Lib.hid (below_here HW.out hb)
      clear c1 c2 c3 hb
      obtain ⟨c1, c2, c3⟩ := (HLB.out.below HW.out).cells
      go_wp2_with fail
      refine (HSP.out _ _ _ _ _ (HA1.out.below HW.out) (HB1.out.below HW.out)).mono ?_
      rintro r W16 ⟨rfl, hb⟩
      replace HW := Lib.hid (below_here HW.out hb)
      clear c1 c2 c3 hb
      obtain ⟨c1, c2, c3⟩ := (HLB.out.below HW.out).cells
      go_wp2_with fail
      refine (HSR.out _ (HA.out.below HW.out) (HBB.out.below HW.out)).mono ?_
      rintro r W17 ⟨rfl, hb⟩
      replace HW := Lib.hid (below_here HW.out hb)
      clear c1 c2 c3 hb
      obtain ⟨c1, c2, c3⟩ := (HLB.out.below HW.out).cells
      go_wp2_with fail
      refine (tralive_ok _ (HLw.out.below (below_here HB.out HW.out))).mono ?_
      rintro r W99 ⟨rfl, hb⟩
      go_wp2_with fail
      go_ret
      exact ⟨rfl, below_here (below_here HB.out HW.out) hb⟩
    · have hlt : k < n := by omega
      have hki : (k : Int) < (n : Int) := by omega
      have hkl : k < ev.length := by rw [← HN.out]; exact hlt
      obtain ⟨b', off, rfl, e0⟩ : ∃ b off, E = some ⟨b, off, none⟩ ∧ Ev10 wr b (off + k * 10) ev[k] := by
        rcases HE.out.below HW.out with h | ⟨b, off, h1, h2⟩
        · rw [h] at hkl; simp at hkl
        · exact ⟨b, off, h1, h2 k hkl⟩
      have HY1 := Lib.hid (HX1.out _ (List.getElem_mem hkl))
      have HY2 := Lib.hid (HX2.out _ (List.getElem_mem hkl))
      have HNX : Hid (((ev.take (k + 1)).any fun e => Tr.crosses e by') = (b || Tr.crosses ev[k] by')) := Lib.hid (by
        rw [List.take_succ_eq_append_getElem hkl, List.any_append, hT.out]; simp)
      generalize Tr.crosses ev[k] by' = x at HY1 HY2 HNX
      generalize ev[k] = e at e0 HY1 HY2
      clear hkl hkn
      have HE0 := Lib.hid e0
      obtain ⟨a0, a1, a2, a3, a4, a5, a6, a7, a8, a9⟩ := e0
      have hlb : b' < wr.heap.size := World.block_lt_of_cell? wr _ a0
      obtain ⟨c1, c2, c3⟩ := (HLB.out.below HW.out).cells
      obtain ⟨kd, ⟨s1, s2⟩, ⟨d1, d2⟩, ep, rl, ⟨u1, u2⟩, uu⟩ := e
      simp only at a0 a1 a2 a3 a4 a5 a6 a7 a8 a9
      go_wp2_with fail
      refine wp_region_over (by kernel_rfl) (by kernel_rfl) ?_
      repeat (go_big_quiet_step ((go_at_call 31; exact Calls.over_of (HY1.out _))))
      refine wpQuiet_nil ?_
      intro W7 hW7
      have hb7 := below_of_over hW7
      replace HW := Lib.hid (below_here HW.out hb7)
      have HE7 := Lib.hid (HE0.out.below hb7)
      clear hW7 hb7 a0 a1 a2 a3 a4 a5 a6 a7 a8 a9 hlb c1 c2 c3 HE0
      obtain ⟨a0, a1, a2, a3, a4, a5, a6, a7, a8, a9⟩ := HE7.out
      simp only at a0 a1 a2 a3 a4 a5 a6 a7 a8 a9
      have hlb : b' < W7.heap.size := World.block_lt_of_cell? W7 _ a0
      obtain ⟨c1, c2, c3⟩ := (HLB.out.below HW.out).cells
      go_wp2_with fail
      refine wp_region_over (by kernel_rfl) (by kernel_rfl) ?_
      repeat (go_big_quiet_step ((go_at_call 32; exact Calls.over_of (HY2.out _))))
      refine wpQuiet_nil ?_
      intro W8 hW8
      have hb8 := below_of_over hW8
      replace HW := Lib.hid (below_here HW.out hb8)
      clear hW8 hb8 a0 a1 a2 a3 a4 a5 a6 a7 a8 a9 hlb c1 c2 c3 HE7
      cases b <;> cases x
      all_goals
        go_wp2_with fail
        go_roundw
        case rel => exact ⟨k + 1, _, by go_num, by omega, rfl, Lib.hid (by rw [HNX.out]; rfl), HW⟩
        case measure => simp [intOf]; omega
end Go.Proofs.YtdjndnoiankicaaDoor
namespace Go.Proofs.YtdjndnoiankicaaDoor
open Go.RowKit
theorem trsees_ok (A B E : Option Addr) (c d f : Nat) (l m : List Tr.E) (ev : List Tr.Ev) (hok : ∀ x ∈ l, Tr.okE x) (hev : ∀ x ∈ ev, x.ok) (by' : Lab.L) (hby : Lab.ok by') (w : World) (hL : LaidAt w) (hA : EntsAt w A l) (hB : EntsAt w B m) (hE : EvsAt w E ev) :
    Calls Tryd.prog 8 #[.slice A l.length c, .slice B m.length d, .slice E ev.length f, labV by'] w fun r w' => r = .returned (.bool true) ∧ Below w.heap.size w w' := by
  by_cases h1 : l.length ≤ 60
  · by_cases h2 : m.length ≤ 60
    · by_cases h3 : ev.length ≤ 60
      · exact trsees_few A B E c d f l m ev h1 h2 h3 (fun x hx => (hok x hx).2.2.1) hev by' hby w hL hA hB hE
      · exact trsees_big A B E c d f _ _ _ (.inr (.inr ⟨h1, h2, by omega⟩)) by' w hL
    · exact trsees_big A B E c d f _ _ _ (.inr (.inl ⟨h1, by omega⟩)) by' w hL
  · exact trsees_big A B E c d f _ _ _ (.inl (by omega)) by' w hL
end Go.Proofs.YtdjndnoiankicaaDoor
