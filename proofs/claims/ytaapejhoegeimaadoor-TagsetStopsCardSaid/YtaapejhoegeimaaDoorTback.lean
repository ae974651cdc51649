/- TagsetBack: the walk. No conditions. -/
import Derived.Test.YtaapejhoegeimaaDoorTlawb
import Derived.Test.YtaapejhoegeimaaDoorTalive
import Derived.Deep.DeepCutAuto
import Derived.Lib.QuoteBits
namespace Go.Proofs.YtaapejhoegeimaaDoor
open Go.RowKit Go.Shelf
set_option linter.unusedSimpArgs false
set_option linter.unusedVariables false
attribute [local go_sem] cell_over frozen_over Oper.semAt_some

/-- What tags hands back, read. -/
theorem tags_read (s : Nat) (hs : s < 65536) (w : World) (hT : TabAt w) :
    Calls Tryd.prog 11 #[.int .u16 (s : Int)] w fun e w' => ∃ A c, e = .returned (.slice A (Tag.tags s).length c) ∧ IntsAt w' A ((Tag.tags s).map (fun t : Nat => (t : Int))) ∧ Below w.heap.size w w' := by
  refine (tags_ok s hs w hT).mono ?_
  rintro e w' ⟨v, rfl, hrow, hb⟩
  by_cases h0 : Tag.tags s = []
  · obtain ⟨A, c, rfl⟩ : ∃ A c, v = .slice A (Tag.tags s).length c := by
      rcases hrow.2 with ⟨rfl, h⟩ | ⟨g, cap, cur, rfl, _⟩
      · exact ⟨none, 0, by rw [h]⟩
      · exact ⟨_, _, rfl⟩
    exact ⟨A, c, rfl, .inl (by rw [h0]; rfl), hb⟩
  · have hp : 0 < (Tag.tags s).length := List.length_pos_iff.2 h0
    obtain ⟨g, cap, rfl⟩ := own_form hrow hp
    refine ⟨_, _, rfl, .inr ⟨g, 0, rfl, fun i hi => ?_⟩, hb⟩
    rw [List.length_map] at hi
    have := hrow.cells (g := g) rfl i (.int .i64 ((Tag.tags s)[i] : Int)) (by simp [intCells, hi])
    rw [Addr.add_mid] at this
    rw [List.getElem_map]
    exact this
theorem IntsAt.below {w W : World} {A : Option Addr} {l : List Int} (h : IntsAt w A l) (hb : Below w.heap.size w W) : IntsAt W A l := by
  rcases h with h | ⟨b, off, h1, h2⟩
  · exact .inl h
  · exact .inr ⟨b, off, h1, fun i hi => cell_on (h2 i hi) hb⟩
theorem IntsAt.get {w : World} {A : Option Addr} {l : List Int} (h : IntsAt w A l) : l = [] ∨ ∃ b off, A = some ⟨b, off, none⟩ ∧ ∀ i (h : i < l.length), w.cell? ⟨b, off + i, none⟩ = some (.int .i64 l[i]) := h
namespace Tag
theorem tags_inc (s : Nat) (i : Nat) (h : i + 1 < (tags s).length) : (tags s)[i] < (tags s)[i + 1] := List.pairwise_iff_getElem.1 (tags_sorted s) i (i + 1) (by omega) h (by omega)
theorem all_take {l : List Nat} {f : Nat → Bool} {k : Nat} (h : k < l.length) : (l.take (k + 1)).all f = ((l.take k).all f && f l[k]) := by
  rw [List.take_succ_eq_append_getElem h, List.all_append]
  simp
end Tag
set_option maxRecDepth 100000 in
set_option maxHeartbeats 4000000 in
theorem back_ok (a b : Nat) (ha : a < 65536) (hb : b < 65536) (w : World) (hL : LaidAt w) :
    Calls Tryd.prog 5 #[.int .u16 (a : Int), .int .u16 (b : Int)] w fun e w' => e = .returned (.bool true) ∧ Below w.heap.size w w' := by
  have HL := Lib.hid hL
  clear hL
  have hpt : (⟨(Tag.text a).toArray⟩ : ByteArray).size ≤ 1000 := by
    have := Tag.join_len (Tag.tags a)
    have := Tag.tags_le a
    show (Tag.text a).toArray.size ≤ 1000
    rw [List.size_toArray]
    unfold Tag.text
    split
    · simp
    · omega
  have HP := Lib.hid (fun w => parse_ok ⟨(Tag.text a).toArray⟩ hpt w)
  rw [Tag.parse_text a ha] at HP
  obtain ⟨n, hn⟩ : ∃ n, n = (Tag.tags a).length := ⟨_, rfl⟩
  have hn16 : n ≤ 16 := by rw [hn]; exact Tag.tags_le a
  have HN := Lib.hid hn
  have HTG := Lib.hid (fun w => tags_read a ha w)
  rw [← hn] at HTG
  clear hpt hn
  go_enter Tryd.func5, Tryd.ntmps5
  go_wp2_with (first
    | (go_at_call 7; refine (alive_ok _ HL.out).mono ?_; rintro e w1 ⟨rfl, hb1⟩; have HB1 := Lib.hid hb1; clear hb1)
    | (go_at_call 11; refine (HTG.out _ (HL.out.below HB1.out).tab).mono ?_; rintro e w2 ⟨A, c, rfl, hi2, hb2⟩; have HB2 := Lib.hid (below_here HB1.out hb2); have HI2 := Lib.hid hi2; clear hb2 hi2)
    | (go_at_call 21; refine (text_ok a ha _ (HL.out.below HB2.out).tab (HL.out.below HB2.out).pow).mono ?_; rintro e w3 ⟨rfl, hb3⟩; have HB3 := Lib.hid (below_here HB2.out hb3); have HI3 := Lib.hid (HI2.out.below hb3); clear hb3)
    | (go_at_call 19; refine (HP.out _ (HL.out.below HB3.out)).mono ?_; rintro e w4 ⟨rfl, hb4⟩; have HB4 := Lib.hid (below_here HB3.out hb4); have HI4 := Lib.hid (HI3.out.below hb4); clear hb4))
  clear HI2 HI3 HB1 HB2 HB3 HP HTG
  go_loopw [8, 9] (fun al i wr => ∃ (k : Nat) (q : Bool), i = .int .i64 (k : Int) ∧ al = .bool q ∧ k ≤ n ∧ Hid (q = ((Tag.tags a).take k).all (fun t => b.testBit t)) ∧ Hid (Below w4.heap.size w4 wr)) (fun al i _ => n - (intOf i).toNat)
  case atStart => exact ⟨0, true, rfl, rfl, by omega, Lib.hid rfl, Lib.hid (Below.refl _ _)⟩
  case round =>
    obtain ⟨k, q, rfl, rfl, hk, hq, HB⟩ := hrel
    have HLr := Lib.hid (HL.out.below (below_here HB4.out HB.out))
    have HIr := Lib.hid (HI4.out.below HB.out)
    by_cases hkn : k = n
    · subst hkn
      have hql : q = Tag.sub a b := by
        rw [hq.out, HN.out, List.take_length]; rfl
      have HS := Lib.hid (fun w => sub_ok a b ha hb w)
      rw [← hql] at HS
      have HO := Lib.hid (fun w hA => of_ok A c ((Tag.tags a).map (fun t : Nat => (t : Int))) (by simp; have := Tag.tags_le a; omega) w hA)
      rw [List.length_map, ← HN.out, Tag.of_tags a ha] at HO
      have HTX := Lib.hid (fun (w : World) (h : LaidAt w) => text_ok a ha w h.tab h.pow)
      have HTY := Lib.hid (fun (w : World) (h : LaidAt w) => text_ok b hb w h.tab h.pow)
      have hnn : ¬ (k : Int) < (k : Int) := by omega
      clear hql hq
      have hinj : (⟨(Tag.text a).toArray⟩ : ByteArray) = ⟨(Tag.text b).toArray⟩ → a = b := fun h => Tag.text_inj ha hb (by simpa using h)
      by_cases hab : a = b
      · subst hab
        go_wp2_with (first
          | (go_at_call 17; refine (HO.out _ HIr.out).mono ?_; rintro e _ ⟨rfl, rfl⟩)
          | (go_at_call 15; refine (HS.out _).mono ?_; rintro e _ ⟨rfl, rfl⟩)
          | (go_at_call 21; have _h := HBT; refine (HTY.out _ (HLr.out.below HBT.out)).mono ?_; rintro e wU ⟨rfl, hbU⟩; have HBU := Lib.hid (below_here HBT.out hbU); clear hbU)
          | (go_at_call 21; refine (HTX.out _ HLr.out).mono ?_; rintro e wT ⟨rfl, hbT⟩; have HBT := Lib.hid hbT; clear hbT)
          | (go_at_call 7; have _h := HBU; refine (alive_ok _ (HLr.out.below HBU.out)).mono ?_; rintro e wV ⟨rfl, hbV⟩; have HBV := Lib.hid (below_here HBU.out hbV); clear hbV))
        go_ret
        exact ⟨rfl, below_here HB4.out (below_here HB.out HBV.out)⟩
      · have hsn : ¬ (⟨(Tag.text a).toArray⟩ : ByteArray) = ⟨(Tag.text b).toArray⟩ := fun h => hab (hinj h)
        have hsm : (Tag.text a == Tag.text b) = false := by simpa using fun h => hab (Tag.text_inj ha hb h)
        have hib : ((a : Int) == (b : Int)) = false := by simp; omega
        go_wp2_with (first
          | (go_at_call 17; refine (HO.out _ HIr.out).mono ?_; rintro e _ ⟨rfl, rfl⟩)
          | (go_at_call 15; refine (HS.out _).mono ?_; rintro e _ ⟨rfl, rfl⟩)
          | (go_at_call 21; have _h := HBT; refine (HTY.out _ (HLr.out.below HBT.out)).mono ?_; rintro e wU ⟨rfl, hbU⟩; have HBU := Lib.hid (below_here HBT.out hbU); clear hbU)
          | (go_at_call 21; refine (HTX.out _ HLr.out).mono ?_; rintro e wT ⟨rfl, hbT⟩; have HBT := Lib.hid hbT; clear hbT)
          | (go_at_call 7; have _h := HBU; refine (alive_ok _ (HLr.out.below HBU.out)).mono ?_; rintro e wV ⟨rfl, hbV⟩; have HBV := Lib.hid (below_here HBU.out hbV); clear hbV))
        go_ret
        exact ⟨rfl, below_here HB4.out (below_here HB.out HBV.out)⟩
    · have hkl : k < n := by omega
      have hki : (k : Int) < (n : Int) := by omega
      have hkt : k < (Tag.tags a).length := by rw [← HN.out]; exact hkl
      obtain ⟨bb, off, rfl, hcs⟩ : ∃ bb off, A = some ⟨bb, off, none⟩ ∧ ∀ i (h : i < (Tag.tags a).length), wr.cell? ⟨bb, off + i, none⟩ = some (.int .i64 ((Tag.tags a)[i] : Nat)) := by
        rcases HIr.out with h | ⟨b', off', h1, h2⟩
        · exfalso
          have h9 := congrArg List.length h
          rw [List.length_map] at h9
          rw [h9] at hkt
          exact absurd hkt (by simp)
        · exact ⟨b', off', h1, fun i hi => by have := h2 i (by rw [List.length_map]; exact hi); rw [List.getElem_map] at this; exact this⟩
      obtain ⟨x, hx⟩ : ∃ x, x = (Tag.tags a)[k] := ⟨_, rfl⟩
      have hx16 : x < 16 := by rw [hx]; exact (Tag.tags_lt a _ (List.getElem_mem _)).1
      have hck := hcs k hkt
      rw [← hx] at hck
      have hxi : (0 : Int) ≤ (x : Int) := by omega
      have hxj : (x : Int) < 16 := by omega
      have hq' : ((Tag.tags a).take (k + 1)).all (fun t => b.testBit t) = (q && b.testBit x) := by rw [Tag.all_take hkt, ← hq.out, hx]
      have hhas : Tag.has b (x : Int) = b.testBit x := by unfold Tag.has; rw [Int.toNat_natCast]; simp; omega
      have HH := Lib.hid (fun w => has_ok b hb (x : Int) w)
      rw [hhas] at HH
      obtain ⟨z, hz⟩ : ∃ z, z = b.testBit x := ⟨_, rfl⟩
      rw [← hz] at HH hq'
      have HQ := Lib.hid hq'
      have hlt : bb < wr.heap.size := World.block_lt_of_cell? wr _ hck
      have HHX := Lib.hid hx
      have HCS := Lib.hid hcs
      clear hhas hz hq' hkn hx hcs
      have hcd := HCS.out
      cases q
      · have hkt' := hkt
        · go_upto_region 10 with (go_at_call 13; refine (HH.out _).mono ?_; rintro e _ ⟨rfl, rfl⟩)
          have hk1 := hkl
          clear hcd
          by_cases hk0 : k = 0
          · have hg : ¬ (0 : Int) < (k : Int) := by omega
            refine wp_region_over (by kernel_rfl) (by kernel_rfl) ?_
            repeat (go_big_quiet_step (fail))
            refine wpQuiet_nil ?_
            intro W7 hW7
            have HB7 := Lib.hid (below_here HB.out (below_of_over hW7))
            clear hW7
            go_wp2_with fail
            go_roundw
            case measure => simp only [intOf, Int.toNat_natCast]; omega
            exact ⟨k + 1, false, by first | (simp; done) | (simp; omega), rfl, by omega, Lib.hid (by rw [HQ.out]; rfl), HB7⟩
          · have hg : (0 : Int) < (k : Int) := by omega
            have hg2 : 0 < k := by omega
            obtain ⟨y, hy⟩ : ∃ y, y = (Tag.tags a)[k - 1] := ⟨_, rfl⟩
            have hcy := HCS.out (k - 1) (by omega)
            rw [← hy] at hcy
            have hyx : y < x := by
              rw [hy, HHX.out]
              have := Tag.tags_inc a (k - 1) (by omega)
              simpa [show k - 1 + 1 = k by omega] using this
            have hyi : ¬ (x : Int) ≤ (y : Int) := by omega
            have hwr : IntKind.i64.wrap ((k : Int) - 1) = (((k - 1 : Nat)) : Int) := by rw [show (k : Int) - 1 = ((k - 1 : Nat) : Int) by omega]; exact Lib.wrap_i64_small _ (by omega)
            have hkm : ((k - 1 : Nat) : Int) < (n : Int) := by omega
            clear hy
            refine wp_region_over (by kernel_rfl) (by kernel_rfl) ?_
            repeat (go_big_quiet_step (fail))
            refine wpQuiet_nil ?_
            intro W7 hW7
            have HB7 := Lib.hid (below_here HB.out (below_of_over hW7))
            clear hW7
            go_wp2_with fail
            go_roundw
            case measure => simp only [intOf, Int.toNat_natCast]; omega
            exact ⟨k + 1, false, by first | (simp; done) | (simp; omega), rfl, by omega, Lib.hid (by rw [HQ.out]; rfl), HB7⟩
      · cases z
        · go_upto_region 10 with (go_at_call 13; refine (HH.out _).mono ?_; rintro e _ ⟨rfl, rfl⟩)
          have hk1 := hkl
          clear hcd
          by_cases hk0 : k = 0
          · have hg : ¬ (0 : Int) < (k : Int) := by omega
            refine wp_region_over (by kernel_rfl) (by kernel_rfl) ?_
            repeat (go_big_quiet_step (fail))
            refine wpQuiet_nil ?_
            intro W7 hW7
            have HB7 := Lib.hid (below_here HB.out (below_of_over hW7))
            clear hW7
            go_wp2_with fail
            go_roundw
            case measure => simp only [intOf, Int.toNat_natCast]; omega
            exact ⟨k + 1, false, by first | (simp; done) | (simp; omega), rfl, by omega, Lib.hid (by rw [HQ.out]; rfl), HB7⟩
          · have hg : (0 : Int) < (k : Int) := by omega
            have hg2 : 0 < k := by omega
            obtain ⟨y, hy⟩ : ∃ y, y = (Tag.tags a)[k - 1] := ⟨_, rfl⟩
            have hcy := HCS.out (k - 1) (by omega)
            rw [← hy] at hcy
            have hyx : y < x := by
              rw [hy, HHX.out]
              have := Tag.tags_inc a (k - 1) (by omega)
              simpa [show k - 1 + 1 = k by omega] using this
            have hyi : ¬ (x : Int) ≤ (y : Int) := by omega
            have hwr : IntKind.i64.wrap ((k : Int) - 1) = (((k - 1 : Nat)) : Int) := by rw [show (k : Int) - 1 = ((k - 1 : Nat) : Int) by omega]; exact Lib.wrap_i64_small _ (by omega)
            have hkm : ((k - 1 : Nat) : Int) < (n : Int) := by omega
            clear hy
            refine wp_region_over (by kernel_rfl) (by kernel_rfl) ?_
            repeat (go_big_quiet_step (fail))
            refine wpQuiet_nil ?_
            intro W7 hW7
            have HB7 := Lib.hid (below_here HB.out (below_of_over hW7))
            clear hW7
            go_wp2_with fail
            go_roundw
            case measure => simp only [intOf, Int.toNat_natCast]; omega
            exact ⟨k + 1, false, by first | (simp; done) | (simp; omega), rfl, by omega, Lib.hid (by rw [HQ.out]; rfl), HB7⟩
        · go_upto_region 10 with (go_at_call 13; refine (HH.out _).mono ?_; rintro e _ ⟨rfl, rfl⟩)
          have hk1 := hkl
          clear hcd
          by_cases hk0 : k = 0
          · have hg : ¬ (0 : Int) < (k : Int) := by omega
            refine wp_region_over (by kernel_rfl) (by kernel_rfl) ?_
            repeat (go_big_quiet_step (fail))
            refine wpQuiet_nil ?_
            intro W7 hW7
            have HB7 := Lib.hid (below_here HB.out (below_of_over hW7))
            clear hW7
            go_wp2_with fail
            go_roundw
            case measure => simp only [intOf, Int.toNat_natCast]; omega
            exact ⟨k + 1, true, by first | (simp; done) | (simp; omega), rfl, by omega, Lib.hid (by rw [HQ.out]; rfl), HB7⟩
          · have hg : (0 : Int) < (k : Int) := by omega
            have hg2 : 0 < k := by omega
            obtain ⟨y, hy⟩ : ∃ y, y = (Tag.tags a)[k - 1] := ⟨_, rfl⟩
            have hcy := HCS.out (k - 1) (by omega)
            rw [← hy] at hcy
            have hyx : y < x := by
              rw [hy, HHX.out]
              have := Tag.tags_inc a (k - 1) (by omega)
              simpa [show k - 1 + 1 = k by omega] using this
            have hyi : ¬ (x : Int) ≤ (y : Int) := by omega
            have hwr : IntKind.i64.wrap ((k : Int) - 1) = (((k - 1 : Nat)) : Int) := by rw [show (k : Int) - 1 = ((k - 1 : Nat) : Int) by omega]; exact Lib.wrap_i64_small _ (by omega)
            have hkm : ((k - 1 : Nat) : Int) < (n : Int) := by omega
            clear hy
            refine wp_region_over (by kernel_rfl) (by kernel_rfl) ?_
            repeat (go_big_quiet_step (fail))
            refine wpQuiet_nil ?_
            intro W7 hW7
            have HB7 := Lib.hid (below_here HB.out (below_of_over hW7))
            clear hW7
            go_wp2_with fail
            go_roundw
            case measure => simp only [intOf, Int.toNat_natCast]; omega
            exact ⟨k + 1, true, by first | (simp; done) | (simp; omega), rfl, by omega, Lib.hid (by rw [HQ.out]; rfl), HB7⟩
end Go.Proofs.YtaapejhoegeimaaDoor
