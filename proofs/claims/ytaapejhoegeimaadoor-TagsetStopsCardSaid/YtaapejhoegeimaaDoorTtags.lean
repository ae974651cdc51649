/- The conditions' tags (package forepeaklaw01): what is gone through. No conditions. -/
import Derived.Test.YtaapejhoegeimaaDoorTeach
namespace Go.Proofs.YtaapejhoegeimaaDoor
open Go.RowKit Go.Shelf
set_option linter.unusedSimpArgs false
set_option linter.unusedVariables false
attribute [local go_sem] Oper.semAt_some

theorem keepsLow_grown {N : Nat} {A B : World} {row : Option Nat} (h : A.grownBy B row) (hN : N ≤ A.heap.size) (hr : ∀ k, row = some k → N ≤ k) : KeepsLow N A B := fun q hq => h.block q (by omega) (fun e => by have := hr q e.symm; omega)
theorem keepsLow_set {N : Nat} (W : World) (g o : Nat) (v : Value) (hg : N ≤ g) : KeepsLow N W (W.setCell ⟨g, o, none⟩ v) := fun q hq => Below.heap_setCell W ⟨g, o, none⟩ v q (by simp; omega)
theorem TabAt.lt {w : World} (h : TabAt w) : 0 < w.heap.size := World.block_lt_of_cell? w _ (h 0 (by omega))
theorem news_block {w : World} {b : Nat} {C : List Value} {t : TypeId} {fr : Nat × Nat} (hb : w.heap[b]? = some (.cells C.toArray t fr)) : ∀ j u, C[j]? = some u → w.cell? ((⟨b, 0, none⟩ : Addr).add j) = some u := fun j u hu => by
  have h := range_of_block hb 0 C (fun j _ => by rw [Nat.zero_add]) j u hu
  rw [Nat.zero_add] at h
  by_cases e : j = 0
  · subst e; simpa [Addr.add] using h
  · simpa [Addr.add, e] using h
theorem own_at {w : World} {base : Nat} {e : TypeId} {size n : Nat} {v : Value} {xs : List Value} (h : w.ownsRow base e size v n xs) (k : Nat) (hk : v.ownBlock = some k) : base ≤ k := by
  rcases h.2 with ⟨rfl, _⟩ | ⟨g, cap, cur, rfl, hb, _⟩
  · simp [Value.ownBlock] at hk
  · have : g = k := by simpa [Value.ownBlock] using hk
    omega
theorem info_int : (Tryd.prog.info? 3).map (fun i => (i.zero, i.size, i.bytes)) = some (some (.int .i64 0), 1, 8) := by kernel_rfl
theorem slice_int (x : Int) (W : World) : (Instr.buildSlice 23 1 #[(0, .int .i64 x)]).run Tryd.prog W = .ok (.slice (some ⟨W.heap.size, 0, none⟩) 1 1) (W.alloc (.cells #[.int .i64 x] 3)) := by kernel_rfl
def intCells (l : List Nat) : List Value := l.map fun t : Nat => .int .i64 (t : Int)
set_option maxRecDepth 100000 in
set_option maxHeartbeats 2000000 in
theorem tags_ok (s : Nat) (hs : s < 65536) (w : World) (hT : TabAt w) :
    Calls Tryd.prog 11 #[.int .u16 (s : Int)] w fun e w' => ∃ v, e = .returned v ∧ w'.ownsRow w.heap.size 3 1 v (Tag.tags s).length (intCells (Tag.tags s)) ∧ Below w.heap.size w w' := by
  refine (callsIn_wide (n := 9)).1 ?_
  refine callsIn_of_wp_marks Tryd.func11 rfl trivial ?_ rfl
  simp only [Tryd.ntmps11, List.size_toArray, List.length_cons, List.length_nil, Nat.reduceAdd, Nat.reduceSub, Array.replicate_succ, Array.replicate_zero, List.push_toArray, List.append_toArray, List.nil_append, List.cons_append]
  have HT := Lib.hid hT
  clear hT
  gi_wp2_with (refine ⟨trivial, ?_⟩; refine (callsIn_wide.2 (each_ok s _)).mono ?_; rintro e w1 ⟨rfl, rfl⟩)
  obtain ⟨i0, hi, hz0, hz1, hz2⟩ := info_parts info_int
  have hB0 : Below w.heap.size w (((w.alloc (.cells #[.slice none 0 0] 23)).alloc (.cells #[.slice none 0 0] 23)).alloc (.cells #[.int .u16 (s : Int)] 22)) := below_new (below_new (below_new (Below.refl _ _) _) _) _
  have b0 : Boxed (((w.alloc (.cells #[.slice none 0 0] 23)).alloc (.cells #[.slice none 0 0] 23)).alloc (.cells #[.int .u16 (s : Int)] 22)) w.heap.size 23 (.slice none 0 0) := ((Boxed.new w _ _).alloc _).alloc _
  have b1 : Boxed (((w.alloc (.cells #[.slice none 0 0] 23)).alloc (.cells #[.slice none 0 0] 23)).alloc (.cells #[.int .u16 (s : Int)] 22)) (w.heap.size + 1) 23 (.slice none 0 0) := by
    have := Boxed.new (w.alloc (.cells #[.slice none 0 0] 23)) 23 (.slice none 0 0)
    rw [World.size_alloc] at this
    exact this.alloc _
  have b2 : Boxed (((w.alloc (.cells #[.slice none 0 0] 23)).alloc (.cells #[.slice none 0 0] 23)).alloc (.cells #[.int .u16 (s : Int)] 22)) (w.heap.size + 1 + 1) 22 (.int .u16 (s : Int)) := by
    have := Boxed.new ((w.alloc (.cells #[.slice none 0 0] 23)).alloc (.cells #[.slice none 0 0] 23)) 22 (.int .u16 (s : Int))
    rw [World.size_alloc, World.size_alloc] at this
    exact this
  have hseq := each_seq 8 (w.heap.size + 1 + 1) s w.heap.size hs _ HT.out.lt b2 (HT.out.below hB0)
  refine wpIn_rangeFunc_ownH rfl (by omega) (gf := 31) (lb := #[.pointer (some ⟨w.heap.size + 1 + 1, 0, none⟩)]) rfl trivial (enters_of Tryd.func31 (by kernel_rfl) rfl)
    hseq keepsLow_t (keepsLow_b (by simp; omega)) (Below.refl _ _) (fun _ => rfl)
    (fun pre W => ((∃ v, Boxed W (w.heap.size + 1) 23 v ∧ W.ownsRow w.heap.size 3 1 v pre.length (intCells pre) ∧ True) ∧ Boxed W w.heap.size 23 (.slice none 0 0)) ∧ Below w.heap.size w W)
    (fun _ _ _ => False)
    (OwnFrom.and (OwnFrom.and (Own.from (holdsRow_own w.heap.size (w.heap.size + 1) 23 3 1 (fun pre : List Nat => pre.length) (fun pre : List Nat => intCells pre) (fun _ _ => True)) _) (Own.from (boxed_own w.heap.size 23 (fun _ => .slice none 0 0)) _)) (ownFrom_below (Nat.le_refl _) (by simp; omega)))
    (fun _ _ _ _ _ hs _ _ => hs)
    ⟨⟨⟨_, b1, World.ownsRow_nil _ _ _ _, trivial⟩, b0⟩, hB0⟩
    (fun x a' W => a' = { tmps := #[.int .u16 (s : Int), undef, .pointer (some ⟨w.heap.size, 0, none⟩), .pointer (some ⟨w.heap.size + 1, 0, none⟩), .int .i64 (x : Int), .int .u16 (s : Int), .func (.func 31) #[] #[.pointer (some ⟨w.heap.size + 1 + 1, 0, none⟩)], .int .i64 (x : Int), undef, undef, undef, undef, undef, undef, undef, undef, undef], defers := [] })
    (fun x a' _ A B row hs hg hr => hs) ?assign ?body ?done ?stop
  case assign =>
    rintro l pre x W K ⟨⟨⟨v, hv, hrow, _⟩, hb⟩, hB⟩ hK
    simp only [List.zip_toArray, List.zip_cons_cons, List.zip_nil_right, List.foldl_toArray', List.foldl_cons, List.foldl_nil, List.setIfInBounds_toArray, List.set_cons_succ, List.set_cons_zero]
    gi_wp2
    exact hK _ _ ((KeepsOthers.refl _).from _) (fun _ _ => rfl) ⟨⟨⟨v, hv, hrow, trivial⟩, hb⟩, hB⟩ rfl
  case body =>
    rintro l pre x a' W hl _ ⟨⟨⟨v, hv, hrow, _⟩, hb⟩, hB⟩ rfl hlen
    have hp : pre.length < 16 := by have := Tag.tags_le s; omega
    have hsz := hB.size
    have hcv := hv.cell
    have hfv := hv.frozen
    obtain ⟨A0, c0, rfl⟩ : ∃ A c, v = .slice A pre.length c := by
      rcases hrow.2 with ⟨rfl, h⟩ | ⟨g, cap, cur, rfl, _⟩
      · exact ⟨none, 0, by rw [h]⟩
      · exact ⟨_, _, rfl⟩
    gi_wp2_with (first | (gi_at_builtin; refine wpListIn_append_own _ rfl (.tmp 12) (.tmp 14) 23 rfl w.heap.size 3 i0 (.int .i64 0) 1 8 Tryd.underlying23 hi hz0 hz1 hz2 rfl (by decide) (.slice A0 pre.length c0) pre.length (intCells pre) ?c1 (hrow.alloc _) ⟨W.heap.size, 0, none⟩ 1 1 [.int .i64 (x : Int)] ?c2 ?c3 ?c4 ?c8 ?c5 ?c6 ?c7 ?_; (case c1 => simp [Act.eval, Act.put]); (case c2 => simp [Act.eval, Act.put]); (case c3 => rfl); (case c4 => exact news_block (heap_alloc_new W _)); (case c8 => simp [Value.oneCell']); (case c5 => unfold maxLen; omega); (case c6 => omega); (case c7 => rw [World.size_alloc]; omega); intro v' w1 hown' hgrow _; obtain ⟨g', cap', rfl⟩ := ownsRow_succ hown'; obtain ⟨hv1, hv2, hr2, hk2, hb2⟩ := hv.appended (by decide) hrow hB.size (by omega) hown' hgrow; have hc1 := hv1.cell; have hf1 := hv1.frozen))
    have hb1 : Boxed w1 w.heap.size 23 (.slice none 0 0) := Boxed.kept (Boxed.alloc hb _) hgrow (hb.not_row (by decide) hrow)
    have hb3 : Boxed (w1.setCell ⟨w.heap.size + 1, 0, none⟩ (.slice (some ⟨g', 0, none⟩) (pre.length + 1) cap')) w.heap.size 23 (.slice none 0 0) := hb1.kept (grownBy_setCell' _ _ _) (by simp)
    have hsz1 := hgrow.size
    have hko := keepsLow_t (keepsLow_t (keepsLow_below (N := w.heap.size) hsz (below_new (Below.refl _ _) (.cells #[.int .i64 (x : Int)] 3))) (keepsLow_grown hgrow (by rw [World.size_alloc]; omega) (own_at hrow))) (keepsLow_set w1 (w.heap.size + 1) 0 (.slice (some ⟨g', 0, none⟩) (pre.length + 1) cap') (by omega))
    exact ⟨hk2.from _, hko, ⟨⟨_, hv2, by rw [List.length_append, List.length_singleton]; simpa [intCells] using hr2, trivial⟩, hb3⟩, hB.trans hb2⟩
  case done =>
    rintro D ys W hD rfl ⟨⟨⟨v, hv, hrow, _⟩, hb⟩, hB⟩ hK
    obtain ⟨A0, c0, rfl⟩ : ∃ A c, v = .slice A (Tag.tags s).length c := by
      rcases hrow.2 with ⟨rfl, h⟩ | ⟨g, cap, cur, rfl, _⟩
      · exact ⟨none, 0, by rw [h]⟩
      · exact ⟨_, _, rfl⟩
    have hcv := hv.cell
    have hc0 := hb.cell
    have hf0 := hb.frozen
    gi_wp2
    have hDw : w.heap.size + 3 ≤ D := by simp at hD; omega
    have hK2 : (W.setCell ⟨w.heap.size, 0, none⟩ (.slice A0 (Tag.tags s).length c0)).heap[D]? = some (.deferred (some [])) := (Below.heap_setCell W ⟨w.heap.size, 0, none⟩ _ D (by simp; omega)).trans hK
    have hown2 : (W.setCell ⟨w.heap.size, 0, none⟩ (.slice A0 (Tag.tags s).length c0)).ownsRow w.heap.size 3 1 (.slice A0 (Tag.tags s).length c0) (Tag.tags s).length (intCells (Tag.tags s)) := hrow.kept (grownBy_setCell' W w.heap.size _) (.inr (hb.not_row (by decide) hrow).symm)
    have hB2 : Below w.heap.size w (W.setCell ⟨w.heap.size, 0, none⟩ (.slice A0 (Tag.tags s).length c0)) := hB.setCell (p := ⟨w.heap.size, 0, none⟩) (Nat.le_refl _) _
    refine ⟨by simp, .inl ⟨_, _, rfl, run_takeDeferred hK2, ?_⟩⟩
    refine ⟨_, ?_, _, rfl, ownsRow_putObj hown2 _ hK2 rfl, hB2.trans (belowK_b (w := w) (Nat.le_refl _) _ D _ _ (by omega) hK2 rfl rfl)⟩
    have hc := ((hb.set (.slice A0 (Tag.tags s).length c0)).kept (grownBy_putObj' _ D (.deferred none)) (by simp; omega)).cell
    simp [results, Tryd.f11, asAddr, go_sem, hc]
  case stop =>
    rintro D c pre W _ _ h _
    exact h.elim
end Go.Proofs.YtaapejhoegeimaaDoor
