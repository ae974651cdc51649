/- TagsetTells and TagsetTexts: the walks. No conditions. -/
import Derived.Test.YtaapejhoegeimaaDoorTrefd
import Derived.Test.YtaapejhoegeimaaDoorTalive
import Derived.Test.YtaapejhoegeimaaDoorTback
namespace Go.Proofs.YtaapejhoegeimaaDoor
open Go.RowKit Go.Shelf
set_option linter.unusedSimpArgs false
set_option linter.unusedVariables false
attribute [local go_sem] cell_over frozen_over Oper.semAt_some

theorem first_least {a : Nat} (h0 : a ≠ 0) (ha : a < 65536) (h : 0 < (Tag.tags a).length) : (Tag.tags a)[0] = Tag.least a := by
  have hs := (Tag.step (show 0 < a by omega) ha).2.1
  unfold Tag.least
  rw [if_neg h0]
  simp [hs]
set_option maxRecDepth 100000 in
set_option maxHeartbeats 4000000 in
theorem tells_ok (a b : Nat) (ha : a < 65536) (hb : b < 65536) (A : Option Addr) (c : Nat) (l : List Int) (t : Int) (w : World) (hI : IntsAt w A l) (hL : LaidAt w) :
    Calls Tryd.prog 3 #[.int .u16 (a : Int), .int .u16 (b : Int), .slice A l.length c, .int .i64 t] w fun e w' => e = .returned (.bool true) ∧ Below w.heap.size w w' := by
  have HL := Lib.hid hL
  have HI := Lib.hid hI
  clear hL hI
  by_cases h100 : (100 : Int) < (l.length : Int)
  · go_enter Tryd.func3, Tryd.ntmps3
    go_wp2_with (go_at_call 7; refine (alive_ok _ HL.out).mono ?_; rintro e w1 ⟨rfl, hb1⟩)
    go_ret
    exact ⟨rfl, hb1⟩
  · have hl : l.length ≤ 4611686018427387904 := by omega
    have HRL := Lib.hid (fun w => list_read a ha w)
    have HTG := Lib.hid (fun w h => tags_read a ha w h)
    have HLE := Lib.hid (fun w h => least_ok a ha w h)
    have HCO := Lib.hid (fun w => count_ok a ha w)
    have HHA := Lib.hid (fun w => has_ok a ha t w)
    have HRH := Lib.hid (fun w => rhas_ok a ha t w)
    have HSU := Lib.hid (fun w => sub_ok a b ha hb w)
    have HRS := Lib.hid (fun w => rsub_ok a b ha hb w)
    have HOF := Lib.hid (fun w h => of_ok A c l hl w h)
    have HRO := Lib.hid (fun w h => rof_ok A c l hl w h)
    obtain ⟨T, hT⟩ : ∃ T : List Int, T = (Tag.tags a).map (fun t : Nat => (t : Int)) := ⟨_, rfl⟩
    have hTl : (Tag.tags a).length = T.length := by rw [hT, List.length_map]
    have hT16 : T.length ≤ 16 := by rw [← hTl]; exact Tag.tags_le a
    have HSA := Lib.hid (fun A1 A2 c1 c2 w h1 h2 => same_ok A1 A2 c1 c2 T T (by omega) w h1 h2)
    have hdT : decide (T = T) = true := by simp
    rw [hdT] at HSA
    have hfirst : a ≠ 0 → ∃ h : 0 < T.length, T[0] = (Tag.least a : Int) := fun h0 => by
      have h : 0 < (Tag.tags a).length := List.length_pos_iff.2 (Tag.tags_ne h0 ha)
      have e := first_least h0 ha h
      subst hT
      exact ⟨by rw [List.length_map]; exact h, by rw [List.getElem_map, e]⟩
    have hnil : a = 0 → T.length = 0 := fun h0 => by rw [hT, h0]; rfl
    rw [← hT, hTl] at HRL HTG
    rw [hTl] at HCO
    generalize Tag.has a t = h1 at HHA HRH
    generalize Tag.sub a b = h2 at HSU HRS
    generalize Tag.of l = h3 at HOF HRO
    clear hdT hT hTl hl
    by_cases h0 : a = 0
    · have hn := hnil h0
      rw [show decide (a ≠ 0) = false by simp [h0], show Tag.least a = 0 by rw [h0]; rfl] at HLE
      rw [hn] at HRL HTG HCO HSA
      clear hfirst hnil hT16 hn h0
      go_enter Tryd.func3, Tryd.ntmps3
      go_wp2_with (first
          | (go_at_call 8; refine (HRL.out _).mono ?_; rintro e w1 ⟨A1, c1, rfl, hi1, hb1⟩; have HB1 := Lib.hid hb1; have HI1 := Lib.hid hi1; clear hi1 hb1)
          | (go_at_call 9; refine (HLE.out _ (HL.out.below HB1.out).tab).mono ?_; rintro e w2 ⟨rfl, hw2⟩; obtain rfl := hw2.symm)
          | (go_at_call 11; refine (HTG.out _ (HL.out.below HB1.out).tab).mono ?_; rintro e w3 ⟨A3, c3, rfl, hi3, hb3⟩; have HB3 := Lib.hid (below_here HB1.out hb3); have HI3 := Lib.hid hi3; have HI13 := Lib.hid (HI1.out.below hb3); clear hi3 hb3)
          | (go_at_call 10; refine (HSA.out _ _ _ _ _ HI3.out HI13.out).mono ?_; rintro e w4 ⟨rfl, hb4⟩; have HB4 := Lib.hid (below_here HB3.out hb4); clear hb4)
          | (go_at_call 12; refine (HCO.out _).mono ?_; rintro e w5 ⟨rfl, hb5⟩; have HB5 := Lib.hid (below_here HB4.out hb5); clear hb5)
          | (go_at_call 13; refine (HHA.out _).mono ?_; rintro e w6 ⟨rfl, hw6⟩; obtain rfl := hw6.symm)
          | (go_at_call 14; refine (HRH.out _).mono ?_; rintro e w6 ⟨rfl, hw6⟩; obtain rfl := hw6.symm)
          | (go_at_call 15; refine (HSU.out _).mono ?_; rintro e w6 ⟨rfl, hw6⟩; obtain rfl := hw6.symm)
          | (go_at_call 16; refine (HRS.out _).mono ?_; rintro e w6 ⟨rfl, hw6⟩; obtain rfl := hw6.symm)
          | (go_at_call 17; refine (HOF.out _ (HI.out.below HB5.out)).mono ?_; rintro e w6 ⟨rfl, hw6⟩; obtain rfl := hw6.symm)
          | (go_at_call 18; refine (HRO.out _ (HI.out.below HB5.out)).mono ?_; rintro e w6 ⟨rfl, hw6⟩; obtain rfl := hw6.symm)
          | (go_at_call 7; have _h := HB5; refine (alive_ok _ (HL.out.below HB5.out)).mono ?_; rintro e w7 ⟨rfl, hb7⟩; have HB7 := Lib.hid (below_here HB5.out hb7); clear hb7))
      go_ret
      exact ⟨rfl, HB7.out⟩
    · obtain ⟨hpos, he0⟩ := hfirst h0
      rw [show decide (a ≠ 0) = true by simp [h0]] at HLE
      have hposi : (0 : Int) < (T.length : Int) := by omega
      have HE0 := Lib.hid he0
      clear hfirst hnil h0 he0
      go_enter Tryd.func3, Tryd.ntmps3
      go_upto_region 4 with (go_at_call 8; refine (HRL.out _).mono ?_; rintro e w1 ⟨A1, c1, rfl, hi1, hb1⟩; have HB1 := Lib.hid hb1; have HI1 := Lib.hid hi1; clear hi1 hb1)
      obtain ⟨b1, o1, rfl, hc0⟩ : ∃ bb off, A1 = some ⟨bb, off, none⟩ ∧ w1.cell? ⟨bb, off, none⟩ = some (.int .i64 (Tag.least a : Int)) := by
        rcases HI1.out with h | ⟨b', off', h1, h2⟩
        · rw [h] at hpos; simp at hpos
        · exact ⟨b', off', h1, by have := h2 0 hpos; rw [HE0.out] at this; exact this⟩
      generalize (Tag.least a : Int) = z at HLE hc0 HE0
      clear HE0
      go_wp2_with (first
          | (go_at_call 9; refine (HLE.out _ (HL.out.below HB1.out).tab).mono ?_; rintro e w2 ⟨rfl, hw2⟩; obtain rfl := hw2.symm)
          | (go_at_call 11; refine (HTG.out _ (HL.out.below HB1.out).tab).mono ?_; rintro e w3 ⟨A3, c3, rfl, hi3, hb3⟩; have HB3 := Lib.hid (below_here HB1.out hb3); have HI3 := Lib.hid hi3; have HI13 := Lib.hid (HI1.out.below hb3); clear hi3 hb3)
          | (go_at_call 10; refine (HSA.out _ _ _ _ _ HI3.out HI13.out).mono ?_; rintro e w4 ⟨rfl, hb4⟩; have HB4 := Lib.hid (below_here HB3.out hb4); clear hb4)
          | (go_at_call 12; refine (HCO.out _).mono ?_; rintro e w5 ⟨rfl, hb5⟩; have HB5 := Lib.hid (below_here HB4.out hb5); clear hb5)
          | (go_at_call 13; refine (HHA.out _).mono ?_; rintro e w6 ⟨rfl, hw6⟩; obtain rfl := hw6.symm)
          | (go_at_call 14; refine (HRH.out _).mono ?_; rintro e w6 ⟨rfl, hw6⟩; obtain rfl := hw6.symm)
          | (go_at_call 15; refine (HSU.out _).mono ?_; rintro e w6 ⟨rfl, hw6⟩; obtain rfl := hw6.symm)
          | (go_at_call 16; refine (HRS.out _).mono ?_; rintro e w6 ⟨rfl, hw6⟩; obtain rfl := hw6.symm)
          | (go_at_call 17; refine (HOF.out _ (HI.out.below HB5.out)).mono ?_; rintro e w6 ⟨rfl, hw6⟩; obtain rfl := hw6.symm)
          | (go_at_call 18; refine (HRO.out _ (HI.out.below HB5.out)).mono ?_; rintro e w6 ⟨rfl, hw6⟩; obtain rfl := hw6.symm)
          | (go_at_call 7; have _h := HB5; refine (alive_ok _ (HL.out.below HB5.out)).mono ?_; rintro e w7 ⟨rfl, hb7⟩; have HB7 := Lib.hid (below_here HB5.out hb7); clear hb7))
      go_ret
      exact ⟨rfl, HB7.out⟩
set_option maxRecDepth 100000 in
set_option maxHeartbeats 4000000 in
theorem texts_ok (a : Nat) (ha : a < 65536) (s : ByteArray) (w : World) (hL : LaidAt w) :
    Calls Tryd.prog 4 #[.int .u16 (a : Int), .string s] w fun e w' => e = .returned (.bool true) ∧ Below w.heap.size w w' := by
  have HL := Lib.hid hL
  clear hL
  by_cases h200 : (200 : Int) < (s.size : Int)
  · go_enter Tryd.func4, Tryd.ntmps4
    go_wp2_with (go_at_call 7; refine (alive_ok _ HL.out).mono ?_; rintro e w1 ⟨rfl, hb1⟩)
    go_ret
    exact ⟨rfl, hb1⟩
  · have HP := Lib.hid (fun w h => parse_ok s (by omega) w h)
    have HR := Lib.hid (fun w => rparse_ok s (by omega) w)
    have HT := Lib.hid (fun (w : World) (h : LaidAt w) => text_ok a ha w h.tab h.pow)
    have HU := Lib.hid (fun w => rtext_ok a ha w)
    rw [Tag.parse_is s] at HP
    generalize (⟨(Tag.text a).toArray⟩ : ByteArray) = X at HT HU
    have hXX : (X.toList == X.toList) = true := (Lib.bytes_beq_iff _ _).2 rfl
    generalize Tag.rparse s.data.toList = r at HP HR
    cases r with
    | none =>
      simp only at HP HR
      go_enter Tryd.func4, Tryd.ntmps4
      go_wp2_with (first
          | (go_at_call 19; refine (HP.out _ HL.out).mono ?_; rintro e w1 ⟨rfl, hb1⟩; have HB1 := Lib.hid hb1; clear hb1)
          | (go_at_call 20; refine (HR.out _).mono ?_; rintro e w2 ⟨rfl, hw2⟩; obtain rfl := hw2.symm)
          | (go_at_call 21; refine (HT.out _ (HL.out.below HB1.out)).mono ?_; rintro e w3 ⟨rfl, hb3⟩; have HB3 := Lib.hid (below_here HB1.out hb3); clear hb3)
          | (go_at_call 22; refine (HU.out _).mono ?_; rintro e w4 ⟨rfl, hb4⟩; have HB4 := Lib.hid (below_here HB3.out hb4); clear hb4)
          | (go_at_call 7; have _h := HB4; refine (alive_ok _ (HL.out.below HB4.out)).mono ?_; rintro e w7 ⟨rfl, hb7⟩; have HB7 := Lib.hid (below_here HB4.out hb7); clear hb7))
      go_ret
      exact ⟨rfl, HB7.out⟩
    | some x =>
      simp only at HP HR
      go_enter Tryd.func4, Tryd.ntmps4
      go_wp2_with (first
          | (go_at_call 19; refine (HP.out _ HL.out).mono ?_; rintro e w1 ⟨rfl, hb1⟩; have HB1 := Lib.hid hb1; clear hb1)
          | (go_at_call 20; refine (HR.out _).mono ?_; rintro e w2 ⟨rfl, hw2⟩; obtain rfl := hw2.symm)
          | (go_at_call 21; refine (HT.out _ (HL.out.below HB1.out)).mono ?_; rintro e w3 ⟨rfl, hb3⟩; have HB3 := Lib.hid (below_here HB1.out hb3); clear hb3)
          | (go_at_call 22; refine (HU.out _).mono ?_; rintro e w4 ⟨rfl, hb4⟩; have HB4 := Lib.hid (below_here HB3.out hb4); clear hb4)
          | (go_at_call 7; have _h := HB4; refine (alive_ok _ (HL.out.below HB4.out)).mono ?_; rintro e w7 ⟨rfl, hb7⟩; have HB7 := Lib.hid (below_here HB4.out hb7); clear hb7))
      go_ret
      exact ⟨rfl, HB7.out⟩
end Go.Proofs.YtaapejhoegeimaaDoor
