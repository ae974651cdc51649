/- TagsetStops: the walk. No conditions. -/
import Derived.Test.YtaapejhoegeimaaDoorTrefd
import Derived.Test.YtaapejhoegeimaaDoorTalive
import Derived.Test.YtaapejhoegeimaaDoorTback
namespace Go.Proofs.YtaapejhoegeimaaDoor
open Go.RowKit Go.Shelf
set_option linter.unusedSimpArgs false
set_option linter.unusedVariables false
attribute [local go_sem] cell_over frozen_over Oper.semAt_some

/-- What List hands back, read; its room. -/
theorem list_room (s : Nat) (hs : s < 65536) (w : World) :
    Calls Tryd.prog 8 #[.int .u16 (s : Int)] w fun e w' => ∃ A c, e = .returned (.slice A (Tag.tags s).length c) ∧ (Tag.tags s).length ≤ c ∧ IntsAt w' A ((Tag.tags s).map (fun t : Nat => (t : Int))) ∧ Below w.heap.size w w' := by
  refine (rlist_ok s hs w).mono ?_
  rintro e w' ⟨v, rfl, hrow, hb⟩
  by_cases h0 : Tag.tags s = []
  · obtain ⟨A, c, rfl⟩ : ∃ A c, v = .slice A (Tag.tags s).length c := by
      rcases hrow.2 with ⟨rfl, h⟩ | ⟨g, cap, cur, rfl, _⟩
      · exact ⟨none, 0, by rw [h]⟩
      · exact ⟨_, _, rfl⟩
    exact ⟨A, c, rfl, by rw [h0]; simp, .inl (by rw [h0]; rfl), hb⟩
  · have hp : 0 < (Tag.tags s).length := List.length_pos_iff.2 h0
    obtain ⟨g, cap, rfl⟩ := own_form hrow hp
    have hcap : (Tag.tags s).length ≤ cap := by
      rcases hrow.2 with ⟨e, _⟩ | ⟨g', cap', cur, e, _, _, hle, _⟩
      · cases e
      · cases e; exact hle
    refine ⟨_, _, rfl, hcap, .inr ⟨g, 0, rfl, fun i hi => ?_⟩, hb⟩
    rw [List.length_map] at hi
    have := hrow.cells (g := g) rfl i (.int .i64 ((Tag.tags s)[i] : Int)) (by simp [intCells, hi])
    rw [Addr.add_mid] at this
    rw [List.getElem_map]
    exact this
theorem ints_of_row {W : World} {base : Nat} {v : Value} {pre : List Nat} (hrow : W.ownsRow base 3 1 v pre.length (intCells pre)) : ∃ A c, v = .slice A pre.length c ∧ IntsAt W A (pre.map (fun t : Nat => (t : Int))) := by
  by_cases h0 : pre = []
  · obtain ⟨A, c, rfl⟩ : ∃ A c, v = .slice A pre.length c := by
      rcases hrow.2 with ⟨rfl, h⟩ | ⟨g, cap, cur, rfl, _⟩
      · exact ⟨none, 0, by rw [h]⟩
      · exact ⟨_, _, rfl⟩
    exact ⟨A, c, rfl, .inl (by rw [h0]; rfl)⟩
  · have hp : 0 < pre.length := List.length_pos_iff.2 h0
    obtain ⟨g, cap, rfl⟩ := own_form hrow hp
    refine ⟨_, _, rfl, .inr ⟨g, 0, rfl, fun i hi => ?_⟩⟩
    rw [List.length_map] at hi
    have := hrow.cells (g := g) rfl i (.int .i64 (pre[i] : Int)) (by simp [intCells, hi])
    rw [Addr.add_mid] at this
    rw [List.getElem_map]
    exact this
theorem IntsAt.take {w : World} {A : Option Addr} {l : List Int} (h : IntsAt w A l) (n : Nat) : IntsAt w A (l.take n) := by
  rcases h with h | ⟨b, off, h1, h2⟩
  · exact .inl (by rw [h]; simp)
  · exact .inr ⟨b, off, h1, fun i hi => by rw [List.getElem_take]; exact h2 i (by rw [List.length_take] at hi; omega)⟩
theorem pure_own {β : Type} (f : β → Prop) : Own (fun s (_ : World) => f s) := fun _ _ _ _ hs _ _ => hs
set_option maxRecDepth 100000 in
set_option maxHeartbeats 4000000 in
theorem stops_ok (a n : Nat) (ha : a < 65536) (hn : n < 256) (w : World) (hL : LaidAt w) :
    Calls Tryd.prog 6 #[.int .u16 (a : Int), .int .u8 (n : Int)] w fun e w' => e = .returned (.bool true) ∧ Below w.heap.size w w' := by
  have HL := Lib.hid hL
  clear hL
  refine (callsIn_wide (n := 9)).1 ?_
  refine callsIn_of_wp_marks Tryd.func6 rfl trivial ?_ rfl
  refine wpIn_wide.2 ?_
  simp only [Tryd.ntmps6, List.size_toArray, List.length_cons, List.length_nil, Nat.reduceAdd, Nat.reduceSub, Array.replicate_succ, Array.replicate_zero, List.push_toArray, List.append_toArray, List.nil_append, List.cons_append]
  go_wp2_with (first
    | (go_at_call 7; refine (alive_ok _ (HL.out.below (below_new (Below.refl _ _) _))).mono ?_; rintro e w1 ⟨rfl, hb1⟩)
    | (go_at_call 23; refine (each_ok a _).mono ?_; rintro e w2 ⟨rfl, rfl⟩))
  obtain ⟨i0, hi, hz0, hz1, hz2⟩ := info_parts info_int
  obtain ⟨m, hm⟩ : ∃ m, m = n % 17 := ⟨_, rfl⟩
  have hmi : (n : Int) % 17 = (m : Int) := by omega
  have hm17 : m < 17 := by omega
  have HM := Lib.hid hm
  clear hm
  have hsz := hb1.size
  rw [World.size_alloc] at hsz
  have HLA := Lib.hid (HL.out.below (below_here (below_new (Below.refl _ _) _) hb1))
  have b1 : Boxed ((w1.alloc (.cells #[.slice none 0 0] 23)).alloc (.cells #[.int .u16 (a : Int)] 22)) w1.heap.size 23 (.slice none 0 0) := (Boxed.new w1 _ _).alloc _
  have b2 : Boxed ((w1.alloc (.cells #[.slice none 0 0] 23)).alloc (.cells #[.int .u16 (a : Int)] 22)) (w1.heap.size + 1) 22 (.int .u16 (a : Int)) := by
    have := Boxed.new (w1.alloc (.cells #[.slice none 0 0] 23)) 22 (.int .u16 (a : Int))
    rw [World.size_alloc] at this
    exact this
  have b0 : Boxed ((w1.alloc (.cells #[.slice none 0 0] 23)).alloc (.cells #[.int .u16 (a : Int)] 22)) w.heap.size 5 (.int .u8 (n : Int)) := by
    have h : Boxed w1 w.heap.size 5 (.int .u8 (n : Int)) := block_below hb1 (Boxed.new w _ _)
    exact (h.alloc _).alloc _
  have hBa : Below w1.heap.size w1 ((w1.alloc (.cells #[.slice none 0 0] 23)).alloc (.cells #[.int .u16 (a : Int)] 22)) := below_new (below_new (Below.refl _ _) _) _
  have hB0 : Below w.heap.size w ((w1.alloc (.cells #[.slice none 0 0] 23)).alloc (.cells #[.int .u16 (a : Int)] 22)) := below_here (below_here (below_new (Below.refl _ _) _) hb1) hBa
  have HT := Lib.hid ((HLA.out.below hBa).tab)
  have htab : 0 < w.heap.size := HL.out.tab.lt
  have hseq := each_seq 8 (w1.heap.size + 1) a w.heap.size ha _ htab b2 HT.out
  have hle16 := Tag.tags_le a
  refine (wpIn_wide (n := 9)).1 (wpIn_rangeFunc_ownH rfl (by omega) (gf := 31) (lb := #[.pointer (some ⟨w1.heap.size + 1, 0, none⟩)]) rfl trivial (enters_of Tryd.func31 (by kernel_rfl) rfl)
    hseq keepsLow_t (keepsLow_b (by simp; omega)) (Below.refl _ _) (fun _ => rfl)
    (fun pre W => ((∃ v, Boxed W w1.heap.size 23 v ∧ W.ownsRow w1.heap.size 3 1 v pre.length (intCells pre) ∧ pre.length ≤ m) ∧ Boxed W w.heap.size 5 (.int .u8 (n : Int))) ∧ Below w.heap.size w W)
    (fun c pre W => (c = Code.exit 0 ∧ ((∃ v, Boxed W w1.heap.size 23 v ∧ W.ownsRow w1.heap.size 3 1 v m (intCells (pre.take m)) ∧ pre.length = m + 1) ∧ Boxed W w.heap.size 5 (.int .u8 (n : Int)))) ∧ Below w.heap.size w W)
    (OwnFrom.and (OwnFrom.and (Own.from (holdsRow_own w1.heap.size w1.heap.size 23 3 1 (fun pre : List Nat => pre.length) (fun pre : List Nat => intCells pre) (fun pre _ => pre.length ≤ m)) _) (Own.from (boxed_own w.heap.size 5 (fun _ => .int .u8 (n : Int))) _)) (ownFrom_below (Nat.le_refl _) (by simp; omega)))
    (fun c => OwnFrom.and (OwnFrom.and (Own.from (pure_own _) _) (OwnFrom.and (Own.from (holdsRow_own w1.heap.size w1.heap.size 23 3 1 (fun _ : List Nat => m) (fun pre : List Nat => intCells (pre.take m)) (fun pre _ => pre.length = m + 1)) _) (Own.from (boxed_own w.heap.size 5 (fun _ => .int .u8 (n : Int))) _))) (ownFrom_below (Nat.le_refl _) (by simp; omega)))
    ⟨⟨⟨_, b1, World.ownsRow_nil _ _ _ _, by simp⟩, b0⟩, hB0⟩
    (fun x a' W => a' = { tmps := #[.int .u16 (a : Int), .int .u8 (n : Int), undef, .pointer (some ⟨w.heap.size, 0, none⟩), .bool false, .pointer (some ⟨w1.heap.size, 0, none⟩), .int .i64 (x : Int), undef, .bool true, .bool false, .int .u16 (a : Int), .func (.func 31) #[] #[.pointer (some ⟨w1.heap.size + 1, 0, none⟩)], .int .i64 (x : Int), undef, undef, undef, undef, undef, undef, undef, undef, undef, undef, undef, undef, undef, undef, undef, undef, undef, undef, undef, undef, undef, undef, undef, undef, undef], defers := [] })
    (fun x a' _ A B row hs hg hr => hs) ?assign ?body ?done ?stop)
  case assign =>
    rintro l pre x W K ⟨⟨⟨v, hv, hrow, hle⟩, hb⟩, hB⟩ hK
    simp only [List.zip_toArray, List.zip_cons_cons, List.zip_nil_right, List.foldl_toArray', List.foldl_cons, List.foldl_nil, List.setIfInBounds_toArray, List.set_cons_succ, List.set_cons_zero]
    gi_wp2
    exact hK _ _ ((KeepsOthers.refl _).from _) (fun _ _ => rfl) ⟨⟨⟨v, hv, hrow, hle⟩, hb⟩, hB⟩ rfl
  case body =>
    rintro l pre x a' W hl _ ⟨⟨⟨v, hv, hrow, hle⟩, hb⟩, hB⟩ rfl hlen
    have hszW := hB.size
    have hcv := hv.cell
    have hfv := hv.frozen
    have hcn := hb.cell
    have hlo := hv.lt
    obtain ⟨A0, c0, rfl⟩ : ∃ A c, v = .slice A pre.length c := by
      rcases hrow.2 with ⟨rfl, h⟩ | ⟨g, cap, cur, rfl, _⟩
      · exact ⟨none, 0, by rw [h]⟩
      · exact ⟨_, _, rfl⟩
    by_cases hge : (m : Int) ≤ (pre.length : Int)
    · obtain rfl : m = pre.length := by omega
      clear hge hle
      gi_wp2
      refine ⟨(KeepsOthers.refl _).from _, ⟨rfl, ⟨_, hv, ?_, by rw [List.length_append, List.length_singleton]⟩, hb⟩, hB⟩
      rw [List.take_append_of_le_length (Nat.le_refl _), List.take_of_length_le (Nat.le_refl _)]
      exact hrow
    · have hlt : pre.length < m := by omega
      gi_wp2_with (first | (gi_at_builtin; refine wpListIn_append_own _ rfl (.tmp 19) (.tmp 21) 23 rfl w1.heap.size 3 i0 (.int .i64 0) 1 8 Tryd.underlying23 hi hz0 hz1 hz2 rfl (by decide) (.slice A0 pre.length c0) pre.length (intCells pre) ?c1 (hrow.alloc _) ⟨W.heap.size, 0, none⟩ 1 1 [.int .i64 (x : Int)] ?c2 ?c3 ?c4 ?c8 ?c5 ?c6 ?c7 ?_; (case c1 => simp [Act.eval, Act.put]); (case c2 => simp [Act.eval, Act.put]); (case c3 => rfl); (case c4 => exact news_block (heap_alloc_new W _)); (case c8 => simp [Value.oneCell']); (case c5 => unfold maxLen; omega); (case c6 => omega); (case c7 => rw [World.size_alloc]; omega); intro v' w2 hown' hgrow _; obtain ⟨g', cap', rfl⟩ := ownsRow_succ hown'; obtain ⟨hv1, hv2, hr2, hk2, hb2⟩ := hv.appended (by decide) hrow (by omega) (Nat.le_refl _) hown' hgrow; have hc1 := hv1.cell; have hf1 := hv1.frozen))
      have hb1 : Boxed w2 w.heap.size 5 (.int .u8 (n : Int)) := Boxed.kept (Boxed.alloc hb _) hgrow (hb.not_row (by decide) hrow)
      have hb3 : Boxed (w2.setCell ⟨w1.heap.size, 0, none⟩ (.slice (some ⟨g', 0, none⟩) (pre.length + 1) cap')) w.heap.size 5 (.int .u8 (n : Int)) := hb1.kept (grownBy_setCell' _ _ _) (by simp; omega)
      have hsz1 := hgrow.size
      have hko := keepsLow_t (keepsLow_t (keepsLow_below (N := w.heap.size) hszW (below_new (Below.refl _ _) (.cells #[.int .i64 (x : Int)] 3))) (keepsLow_grown hgrow (by rw [World.size_alloc]; omega) (fun k hk => by have := own_at hrow k hk; omega))) (keepsLow_set w2 w1.heap.size 0 (.slice (some ⟨g', 0, none⟩) (pre.length + 1) cap') (by omega))
      exact ⟨hk2.from _, hko, ⟨⟨_, hv2, by rw [List.length_append, List.length_singleton]; simpa [intCells] using hr2, by rw [List.length_append, List.length_singleton]; omega⟩, hb3⟩, hB.trans (hb2.mono (by omega))⟩
  case done =>
    rintro D ys W hD rfl ⟨⟨⟨v, hv, hrow, hle⟩, hnb⟩, hB⟩ hK
    obtain ⟨A0, c0, rfl, hIT⟩ := ints_of_row hrow
    obtain ⟨N, hN⟩ : ∃ N, N = (Tag.tags a).length := ⟨_, rfl⟩
    obtain ⟨T, hT⟩ : ∃ T, T = Tag.tags a := ⟨_, rfl⟩
    have hTT : T = (Tag.tags a).take m := by rw [hT, List.take_of_length_le hle]
    rw [← hT] at hIT
    obtain ⟨k, hkN⟩ : ∃ k, k = N := ⟨_, rfl⟩
    have hTk : k = T.length := by rw [hkN, hN, hT]
    have hmin : min (N : Int) (m : Int) = (k : Int) := by omega
    have hk16 : k ≤ 16 := by omega
    rw [← hN, ← hkN] at hv
    clear hT hkN
    have HS := Lib.hid (fun (A B : Option Addr) (c d : Nat) (w : World) (hA : IntsAt w A (T.map (fun t : Nat => (t : Int)))) (hB : IntsAt w B (T.map (fun t : Nat => (t : Int)))) => same_ok A B c d (T.map (fun t : Nat => (t : Int))) (T.map (fun t : Nat => (t : Int))) (by rw [List.length_map]; omega) w hA hB)
    rw [List.length_map, ← hTk, show decide (T.map (fun t : Nat => (t : Int)) = T.map (fun t : Nat => (t : Int))) = true from by simp] at HS
    have HL4 := Lib.hid (fun w => list_room a ha w)
    rw [← hN] at HL4
    have HIT := Lib.hid hIT
    have HTT := Lib.hid hTT
    have H5 := Lib.hid hB
    have HK := Lib.hid hK
    have hcv := hv.cell
    have hcn := hnb.cell
    have hlo := hv.lt
    have hlo2 := hnb.lt
    have hkc : (k : Int) ≤ (N : Int) := by omega
    have hDw : w.heap.size ≤ D := by simp at hD; omega
    have HLW := Lib.hid (HL.out.below hB)
    clear hIT hTT hB hK hv hnb hN hTk hrow hD hseq htab b1 b2 b0 hBa hB0
    go_wp2_with (go_at_call 8; refine (HL4.out _).mono ?_; rintro e w4 ⟨A', c', rfl, hc', hI', hb4⟩)
    have hcv4 := cell_on hcv hb4
    have hcn4 := cell_on hcn hb4
    have hz4 := hb4.size
    have hlo4 : w1.heap.size < w4.heap.size := by omega
    have hlo5 : w.heap.size < w4.heap.size := by omega
    have HI1 := Lib.hid (HIT.out.below hb4)
    have HI2 : Hid (IntsAt w4 A' (T.map (fun t : Nat => (t : Int)))) := Lib.hid (by rw [HTT.out, List.map_take]; exact hI'.take m)
    have HB4 := Lib.hid hb4
    have hkc2 : (k : Int) ≤ (c' : Int) := by omega
    clear hcv hcn hb4 hI' hz4
    refine wp_region_over (by kernel_rfl) (by kernel_rfl) ?_
    repeat (go_big_quiet_step (first
      | (go_at_call 10; exact Calls.over_of (HS.out _ _ _ _ _ (HI1.out.below (over_below _ _)) (HI2.out.below (over_below _ _))))
      | (go_at_call 7; exact Calls.over_of (alive_ok _ ((HLW.out.below HB4.out).below (over_below _ _))))))
    refine wpQuiet_nil ?_
    intro W7 hW7
    have hb7 := below_of_over hW7
    clear hW7
    go_wp2_with fail
    have hK7 : W7.heap[D]? = some (.deferred (some [])) := block_below (below_here HB4.out hb7) HK.out
    exact ⟨by simp, .inl ⟨_, _, rfl, run_takeDeferred hK7, _, results_tmp rfl _ _ _, rfl, (below_here (below_here H5.out HB4.out) hb7).trans (belowK_b (w := w) (Nat.le_refl _) W7 D _ _ hDw hK7 rfl rfl)⟩⟩
  case stop =>
    rintro D c pre W hD hpre ⟨⟨rfl, ⟨v, hv, hrow, hle⟩, hnb⟩, hB⟩ hK
    refine wpIn_exit ?_
    obtain ⟨N, hN⟩ : ∃ N, N = (Tag.tags a).length := ⟨_, rfl⟩
    have hpl := hpre.length_le
    obtain ⟨T, hTp⟩ : ∃ T, T = pre.take m := ⟨_, rfl⟩
    have hTT : T = (Tag.tags a).take m := by
      obtain ⟨r, hr⟩ := hpre
      rw [hTp, ← hr, List.take_append_of_le_length (by omega)]
    have hTm : T.length = m := by rw [hTp, List.length_take]; omega
    rw [← hTp] at hrow
    obtain ⟨A0, c0, rfl, hIT⟩ := ints_of_row (pre := T) (by rw [hTm]; exact hrow)
    rw [hTm] at hv
    obtain ⟨k, hkN⟩ : ∃ k, m = k := ⟨_, rfl⟩
    have hTk : k = T.length := by rw [hTm, hkN]
    have hmin : min (N : Int) (m : Int) = (k : Int) := by omega
    have hk16 : k ≤ 16 := by omega
    rw [hkN] at hv
    have hkm : k ≤ N := by omega
    clear hTp hTm hpre hpl
    have hkN := hkN.symm
    subst hkN
    have HS := Lib.hid (fun (A B : Option Addr) (c d : Nat) (w : World) (hA : IntsAt w A (T.map (fun t : Nat => (t : Int)))) (hB : IntsAt w B (T.map (fun t : Nat => (t : Int)))) => same_ok A B c d (T.map (fun t : Nat => (t : Int))) (T.map (fun t : Nat => (t : Int))) (by rw [List.length_map]; omega) w hA hB)
    rw [List.length_map, ← hTk, show decide (T.map (fun t : Nat => (t : Int)) = T.map (fun t : Nat => (t : Int))) = true from by simp] at HS
    have HL4 := Lib.hid (fun w => list_room a ha w)
    rw [← hN] at HL4
    have HIT := Lib.hid hIT
    have HTT := Lib.hid hTT
    have H5 := Lib.hid hB
    have HK := Lib.hid hK
    have hcv := hv.cell
    have hcn := hnb.cell
    have hlo := hv.lt
    have hlo2 := hnb.lt
    have hkc : (k : Int) ≤ (N : Int) := by omega
    have hDw : w.heap.size ≤ D := by simp at hD; omega
    have HLW := Lib.hid (HL.out.below hB)
    clear hIT hTT hB hK hv hnb hN hTk hrow hD hseq htab b1 b2 b0 hBa hB0
    go_wp2_with (go_at_call 8; refine (HL4.out _).mono ?_; rintro e w4 ⟨A', c', rfl, hc', hI', hb4⟩)
    have hcv4 := cell_on hcv hb4
    have hcn4 := cell_on hcn hb4
    have hz4 := hb4.size
    have hlo4 : w1.heap.size < w4.heap.size := by omega
    have hlo5 : w.heap.size < w4.heap.size := by omega
    have HI1 := Lib.hid (HIT.out.below hb4)
    have HI2 : Hid (IntsAt w4 A' (T.map (fun t : Nat => (t : Int)))) := Lib.hid (by rw [HTT.out, List.map_take]; exact hI'.take k)
    have HB4 := Lib.hid hb4
    have hkc2 : (k : Int) ≤ (c' : Int) := by omega
    clear hcv hcn hb4 hI' hz4
    refine wp_region_over (by kernel_rfl) (by kernel_rfl) ?_
    repeat (go_big_quiet_step (first
      | (go_at_call 10; exact Calls.over_of (HS.out _ _ _ _ _ (HI1.out.below (over_below _ _)) (HI2.out.below (over_below _ _))))
      | (go_at_call 7; exact Calls.over_of (alive_ok _ ((HLW.out.below HB4.out).below (over_below _ _))))))
    refine wpQuiet_nil ?_
    intro W7 hW7
    have hb7 := below_of_over hW7
    clear hW7
    go_wp2_with fail
    have hK7 : W7.heap[D]? = some (.deferred (some [])) := block_below (below_here HB4.out hb7) HK.out
    exact ⟨by simp, .inl ⟨_, _, rfl, run_takeDeferred hK7, _, results_tmp rfl _ _ _, rfl, (below_here (below_here H5.out HB4.out) hb7).trans (belowK_b (w := w) (Nat.le_refl _) W7 D _ _ hDw hK7 rfl rfl)⟩⟩
end Go.Proofs.YtaapejhoegeimaaDoor
