/- PartKeeps: the walk. No conditions. -/
import Derived.Test.YtaapejhoegeimaaKeeps
import Derived.Deep.DeepCutAuto
import Derived.Deep.CutBlock
namespace Go.Proofs.Ytaapejhoegeimaa
open Go.RowKit Go.Shelf
set_option linter.unusedSimpArgs false
set_option linter.unusedVariables false
attribute [local go_sem] cell_over frozen_over Oper.semAt_some

/-- What came in: a row of bytes, or nothing. -/
def Bytes (w : World) (ao : Option Addr) (len cap : Nat) (zs : List Int) : Prop :=
  len = 0 ∨ ∃ b off, ao = some ⟨b, off, none⟩ ∧ len ≤ zs.length ∧ ∀ i, i < zs.length → w.cell? ⟨b, off + i, none⟩ = some (.int .u8 (zs.getD i 0)) ∧ 0 ≤ zs.getD i 0 ∧ zs.getD i 0 ≤ 255
/-- A range over a function whose round begins with nothing. -/
theorem rangeFunc_skip {α : Type} {n : Nat} {P : Program} {g : Operand} {ps : Array Tmp} {body : Code} {Q : Exit → Act → World → Prop} {a : Act} {w : World}
    (h1 : 1 ≤ n) {gf : Nat} {lb : Array Value} (hg : a.eval g = .func (.func gf) #[] lb) (eg : ∀ args w, (callFunc gf args).run P w = .ok (.enter gf args) w)
    {encs : α → Array Value} {Kp : World → World → Prop} {S Sp : List α → Prop} {N : Nat} {w0 : World} (hseq : SeqStopsK Fence.wide (n - 1) P gf lb encs Kp S Sp N w0)
    (hKt : ∀ {A B C : World}, Kp A B → Kp B C → Kp A C) (hKb : ∀ (W : World) (l : Nat) (o o' : Obj), w.heap.size ≤ l → W.heap[l]? = some o → o.isCells = false → o.isWalk = false → Kp W (W.putObj l o')) (hb0 : Below w0.heap.size w0 w) (hps : ∀ x, (encs x).size = ps.size)
    (I : List α → World → Prop) (Ix : Code → List α → World → Prop) (hI : OwnFrom w.heap.size I) (hIx : ∀ c, OwnFrom w.heap.size (Ix c)) (h0 : I [] w)
    (hbody : ∀ (l : Nat) (pre : List α) (x : α) (W : World), I pre W → pre.length < N → body.wpIn (Fence.wide.inRound l) (n - 1 - 1) P (ownPostK Kp I Ix (pre ++ [x]) W) { tmps := (ps.zip (encs x)).foldl (fun t (p, v) => t.setIfInBounds p v) a.tmps, defers := [] } W)
    (hdone : ∀ (D : Nat) (xs : List α) (W : World), w.heap.size ≤ D → S xs → I xs W → W.heap[D]? = some (.deferred (some [])) → Q .normal { a with defers := { target := .collected D, args := #[] } :: a.defers } W)
    (hstop : ∀ (D : Nat) (c : Code) (pre : List α) (W : World), w.heap.size ≤ D → Sp pre → Ix c pre W → W.heap[D]? = some (.deferred (some [])) → c.wpIn Fence.wide n P Q { a with defers := { target := .collected D, args := #[] } :: a.defers } W) :
    (Code.rangeFunc g ps Code.skip body).wp P Q a w :=
  (wpIn_wide (n := n)).1 (wpIn_rangeFunc_ownF (F := Fence.wide) rfl h1 hg trivial eg hseq hKt hKb hb0 hps I Ix hI hIx h0 _ (fun l x W K hK => wpIn_skip hK) hbody hdone hstop)
theorem present_le (st : Nat → Option (List Value)) (h : PartWf st) (n : Nat) : (present st h n).length ≤ n := by
  unfold present
  refine Nat.le_trans (List.length_filterMap_le _ _) ?_
  simp
theorem cells_own {β : Type} (b : Nat) (c : β → Array Value) (t : TypeId) : Own (fun s W => W.heap[b]? = some (.cells (c s) t (0, 0))) := fun s A B row hs hg hr => by
  refine (hg.block b (Array.getElem?_eq_some_iff.1 hs).1 (fun e => ?_)).trans hs
  obtain ⟨o, ho, hc⟩ := hr b e.symm
  rw [hs] at ho; cases ho; cases hc
theorem pure_own {β : Type} (f : β → Prop) : Own (fun s (_ : World) => f s) := fun _ _ _ _ hs _ _ => hs
set_option maxRecDepth 100000 in
set_option maxHeartbeats 8000000 in
theorem keeps_ok (S I s : Int) (hs : 0 ≤ s ∧ s ≤ 255) (ao : Option Addr) (len cap : Nat) (zs : List Int) (w : World) (hZ : Bytes w ao len cap zs) :
    Calls Try.prog 4 #[.agg #[.int .u16 S, .int .u16 I], .slice ao len cap, .int .u8 s] w fun e w' => e = .returned (.bool true) ∧ Below w.heap.size w w' := by
  have HZ := Lib.hid hZ
  have HS := Lib.hid hs
  clear hZ hs
  refine (callsIn_wide (n := 9)).1 ?_
  refine callsIn_of_wp_marks Try.func4 rfl trivial ?_ rfl
  refine wpIn_wide.2 ?_
  simp only [Try.ntmps4, List.size_toArray, List.length_cons, List.length_nil, Nat.reduceAdd, Nat.reduceSub, Array.replicate_succ, Array.replicate_zero, List.push_toArray, List.append_toArray, List.nil_append, List.cons_append]
  by_cases hlen : 60 < len
  · go_wp2_with (go_at_call 10; refine (alive_ok _).mono ?_; rintro e w1 ⟨rfl, hb1⟩)
    refine ⟨_, results_tmp rfl _ _ _, rfl, below_here (below_new (below_new (Below.refl _ _) _) _) hb1⟩
  · go_wp2_with (go_at_call 11; refine (new_ok S I _).mono ?_; rintro e w1 ⟨p, rfl, hp, hP, hb⟩)
    have hK0 : KW w (w1.alloc (.cells (kHas (fun _ => 0)).toArray 58)) S I s p w1.heap.size (fun _ => 0) := by
      have hbl := heap_alloc2_old w (.cells #[.int .u16 S, .int .u16 I] 24) (.cells #[.int .u8 s] 5)
      have hbn := heap_alloc2_new w (.cells #[.int .u16 S, .int .u16 I] 24) (.cells #[.int .u8 s] 5)
      have hnew := below_new (Below.refl _ w1) (.cells (kHas (fun _ => 0)).toArray 58)
      exact ⟨below_new (below_here (below_new (below_new (Below.refl _ _) _) _) hb) _, hP.below hnew, heap_alloc_new _ _, block_below hnew (block_below hb hbl), block_below hnew (block_below hb hbn), by simpa using hp, hP.lt⟩
    have HK := Lib.hid hK0
    clear hK0 hP hb hp
    go_loopw [9] (fun i wr => ∃ (k : Nat) (h : Nat → Nat), i = .int .i64 k ∧ k ≤ len ∧ Hid (KW w wr S I s p w1.heap.size h)) (fun i _ => len - (intOf i).toNat)
    case atStart => exact ⟨0, fun _ => 0, rfl, by omega, HK⟩
    case round =>
      obtain ⟨k, h, rfl, hk, HK1⟩ := hrel
      clear HK
      by_cases hkl : k = len
      · subst hkl
        go_wp2_with (go_at_call 25; refine (all_ok (.pointer (some ⟨p, 0, none⟩)) rfl _).mono ?_; rintro e w2 ⟨rfl, rfl⟩)
        obtain ⟨hs0, hs1⟩ := HS.out
        have hB2 := below_new (below_new (Below.refl wr.heap.size wr) (.cells #[.int .i64 0] 3)) (.cells #[.pointer (some ⟨p, 0, none⟩)] 27)
        have hK2 := HK1.out.below hB2
        have hbx := heap_alloc2_old wr (.cells #[.int .i64 0] 3) (.cells #[.pointer (some ⟨p, 0, none⟩)] 27)
        have hwf := HK1.out.is.2
        obtain ⟨p', hpg, hseq⟩ := all_seq 8 (wr.heap.size + 1) (.pointer (some ⟨p, 0, none⟩)) (present (kSt S I h) hwf 12) _ (.inr ⟨p, S, I, _, hK2.is, rfl, rfl⟩) (heap_alloc2_new wr _ _)
        have hgp := hpg wr.heap.size _ _ _ hbx (by decide) (by omega)
        have hsp := hK2.b.size
        have hsw : w.heap.size + 2 ≤ wr.heap.size := by have h1 := HK1.out.p0; have h2 := HK1.out.is.lt; omega
        refine rangeFunc_skip (n := 9) (by omega) (gf := 50) (lb := #[.pointer (some ⟨wr.heap.size + 1, 0, none⟩)]) rfl (enters_of Try.func50 (by kernel_rfl) rfl)
          hseq keeps2_t keeps2_b (Below.refl _ _) (fun _ => rfl)
          (fun pre W => (W.heap[p]? = some (.cells (partCells S I (kSt S I h)).toArray 86 (0, 0)) ∧ W.heap[w.heap.size + 1]? = some (.cells #[.int .u8 s] 5 (0, 0)) ∧ W.heap[wr.heap.size]? = some (.cells #[.int .i64 (pre.length : Int)] 3 (0, 0)) ∧ (pre.length : Int) ≤ s % 12) ∧ Below w.heap.size w W)
          (fun c pre W => (c = Code.exit 4 ∧ W.heap[p]? = some (.cells (partCells S I (kSt S I h)).toArray 86 (0, 0)) ∧ W.heap[w.heap.size + 1]? = some (.cells #[.int .u8 s] 5 (0, 0)) ∧ W.heap[wr.heap.size]? = some (.cells #[.int .i64 (s % 12)] 3 (0, 0)) ∧ (pre.length : Int) = s % 12 + 1) ∧ Below w.heap.size w W)
          (OwnFrom.and (OwnFrom.and (Own.from (cells_own p (fun _ => _) _) _) (OwnFrom.and (Own.from (cells_own (w.heap.size + 1) (fun _ => _) _) _) (OwnFrom.and (Own.from (cells_own wr.heap.size (fun pre : List Obj17 => #[Value.int .i64 (pre.length : Int)]) _) _) (Own.from (pure_own _) _)))) (ownFrom_below (Nat.le_refl _) (by simp; omega)))
          (fun c => OwnFrom.and (OwnFrom.and (Own.from (pure_own _) _) (OwnFrom.and (Own.from (cells_own p (fun _ => _) _) _) (OwnFrom.and (Own.from (cells_own (w.heap.size + 1) (fun _ => _) _) _) (OwnFrom.and (Own.from (cells_own wr.heap.size (fun _ => _) _) _) (Own.from (pure_own _) _))))) (ownFrom_below (Nat.le_refl _) (by simp; omega)))
          ⟨⟨hK2.is.1, hK2.stp, hbx, by simp; omega⟩, hK2.b⟩ ?body ?done ?stop
        case body =>
          rintro l pre x W ⟨⟨hp1, hp2, hp3, hp4⟩, hp5⟩ hl
          have hc3 := cell_of_one hp3
          have hc2 := cell_of_one hp2
          have hf3 := free_of_one hp3
          simp only [List.zip_toArray, List.zip_cons_cons, List.zip_nil_right, List.foldl_toArray', List.foldl_cons, List.foldl_nil, List.setIfInBounds_toArray, List.set_cons_succ, List.set_cons_zero]
          have HA := Lib.hid hp1
          have HB := Lib.hid hp2
          have HC := Lib.hid hp3
          have HD := Lib.hid hp5
          clear hp1 hp2 hp3 hp5 hseq hpg hK2 hbx hB2
          have hB12 : w.heap.size + 1 ≠ wr.heap.size := by omega
          have hBp : p ≠ wr.heap.size := by have := HK1.out.is.lt; omega
          by_cases hge : s % 12 ≤ (pre.length : Int)
          · have hEq : (pre.length : Int) = s % 12 := by omega
            gi_wp2
            exact ⟨KeepsOthers.refl _, ⟨rfl, HA.out, HB.out, by rw [← hEq]; exact HC.out, by rw [List.length_append, List.length_singleton]; omega⟩, HD.out⟩
          · gi_wp2
            exact ⟨KeepsOthers.setCell _ _ _, keeps2_set W _ _ _ hgp (by omega), ⟨(Below.heap_setCell W ⟨wr.heap.size, 0, none⟩ _ p hBp).trans HA.out, (Below.heap_setCell W ⟨wr.heap.size, 0, none⟩ _ _ hB12).trans HB.out, by rw [List.length_append, List.length_singleton]; exact set_block (C := [Value.int .i64 (pre.length : Int)]) HC.out, by rw [List.length_append, List.length_singleton]; omega⟩, HD.out.setCell (p := ⟨wr.heap.size, 0, none⟩) (by show w.heap.size ≤ wr.heap.size; omega) _⟩
        case done =>
          rintro D ys W hD rfl ⟨⟨hp1, hp2, hp3, hp4⟩, hp5⟩ hK
          have hmin : (if ((present (kSt S I h) hwf 12).length : Int) < s % 12 then ((present (kSt S I h) hwf 12).length : Int) else s % 12) = ((present (kSt S I h) hwf 12).length : Int) := by split <;> omega
          have HP3 : PartIs W p S I (kSt S I h) := ⟨hp1, hwf⟩
          obtain ⟨xs, hxs⟩ : ∃ xs, xs = present (kSt S I h) hwf 12 := ⟨_, rfl⟩
          have HPA : Hid (PartAt W (.pointer (some ⟨p, 0, none⟩)) xs) := Lib.hid (.inr ⟨p, S, I, _, HP3, rfl, hxs⟩)
          have HL : Hid (xs.length ≤ 12) := Lib.hid (by rw [hxs]; exact present_le _ _ _)
          rw [← hxs] at hmin
          clear hp4
          have hcn := cell_of_one hp3
          rw [← hxs] at hcn
          have hcs := cell_of_one hp2
          have hz1 : wr.heap.size < W.heap.size := World.block_lt_of_cell? W _ hcn
          have hz2 : w.heap.size + 1 < W.heap.size := World.block_lt_of_cell? W _ hcs
          have HK := Lib.hid hK
          have H5 := Lib.hid hp5
          have hDw : w.heap.size ≤ D := by simp at hD; omega
          clear hK hp5 hp1 hp2 hp3 HP3 hxs hpg hseq hbx hK2 hB2
          go_wp2_with fail
          refine wp_region_over (by kernel_rfl) (by kernel_rfl) ?_
          repeat (go_big_quiet_step (first | (go_at_call 22; exact Calls.over_of (len_ok _ rfl xs HL.out _ (HPA.out.below (over_below _ _)))) | (go_at_call 10; exact Calls.over_of (alive_ok _))))
          refine wpQuiet_nil ?_
          intro W7 hW7
          have hb7 := below_of_over hW7
          clear hW7
          go_wp2_with fail
          have hK7 : W7.heap[D]? = some (.deferred (some [])) := block_below hb7 HK.out
          exact ⟨by simp, .inl ⟨_, _, rfl, run_takeDeferred hK7, _, results_tmp rfl _ _ _, rfl, (below_here H5.out hb7).trans (belowK_b (w := w) (Nat.le_refl _) W7 D _ _ hDw hK7 rfl rfl)⟩⟩
        case stop =>
          rintro D c pre W hD hpre ⟨⟨rfl, hp1, hp2, hp3, hp4⟩, hp5⟩ hK
          have hmin : ¬ ((present (kSt S I h) hwf 12).length : Int) < s % 12 := by have := hpre.length_le; omega
          refine wpIn_exit ?_
          clear hpre hp4
          have HP3 : PartIs W p S I (kSt S I h) := ⟨hp1, hwf⟩
          obtain ⟨xs, hxs⟩ : ∃ xs, xs = present (kSt S I h) hwf 12 := ⟨_, rfl⟩
          have HPA : Hid (PartAt W (.pointer (some ⟨p, 0, none⟩)) xs) := Lib.hid (.inr ⟨p, S, I, _, HP3, rfl, hxs⟩)
          have HL : Hid (xs.length ≤ 12) := Lib.hid (by rw [hxs]; exact present_le _ _ _)
          rw [← hxs] at hmin
          have hcn := cell_of_one hp3
          have hcs := cell_of_one hp2
          have hz1 : wr.heap.size < W.heap.size := World.block_lt_of_cell? W _ hcn
          have hz2 : w.heap.size + 1 < W.heap.size := World.block_lt_of_cell? W _ hcs
          have HK := Lib.hid hK
          have H5 := Lib.hid hp5
          have hDw : w.heap.size ≤ D := by simp at hD; omega
          clear hK hp5 hp1 hp2 hp3 HP3 hxs hpg hseq hbx hK2 hB2
          go_wp2_with fail
          refine wp_region_over (by kernel_rfl) (by kernel_rfl) ?_
          repeat (go_big_quiet_step (first | (go_at_call 22; exact Calls.over_of (len_ok _ rfl xs HL.out _ (HPA.out.below (over_below _ _)))) | (go_at_call 10; exact Calls.over_of (alive_ok _))))
          refine wpQuiet_nil ?_
          intro W7 hW7
          have hb7 := below_of_over hW7
          clear hW7
          go_wp2_with fail
          have hK7 : W7.heap[D]? = some (.deferred (some [])) := block_below hb7 HK.out
          exact ⟨by simp, .inl ⟨_, _, rfl, run_takeDeferred hK7, _, results_tmp rfl _ _ _, rfl, (below_here H5.out hb7).trans (belowK_b (w := w) (Nat.le_refl _) W7 D _ _ hDw hK7 rfl rfl)⟩⟩
      · have hlt : k < len := by omega
        obtain ⟨b, off, rfl, hzl, hzs⟩ : ∃ b off, ao = some ⟨b, off, none⟩ ∧ len ≤ zs.length ∧ ∀ i, i < zs.length → w.cell? ⟨b, off + i, none⟩ = some (.int .u8 (zs.getD i 0)) ∧ 0 ≤ zs.getD i 0 ∧ zs.getD i 0 ≤ 255 := by
          rcases HZ.out with h | h
          · omega
          · exact h
        obtain ⟨hc0, hz0, hz1⟩ := hzs k (by omega)
        have hc := (HK1.out.b.cell (p := ⟨b, off + k, none⟩) (World.block_lt_of_cell? w _ hc0)).trans hc0
        obtain ⟨z, hz⟩ : ∃ z : Nat, zs.getD k 0 = z := ⟨(zs.getD k 0).toNat, by omega⟩
        rw [hz] at hc hz0 hz1
        have hm : ((z : Int) % 12) = ((z % 12 : Nat) : Int) := by omega
        obtain ⟨q, hq⟩ : ∃ q, z % 12 = q := ⟨_, rfl⟩
        rw [hq] at hm
        have hq12 : q < 12 := by omega
        have HZS := Lib.hid hzs
        clear hzs hc0 hkl hz hq
        have hl0 := HK1.out.lab0
        have hl1 := HK1.out.lab1
        by_cases h0 : h q = 0
        · have H0 := Lib.hid h0
          clear h0
          go_wp2_with (first
            | (refine wpList_build rfl 39 _ rfl #[(0, .agg #[.int .u16 S, .int .u16 I, .int .i64 ((q : Int) / 4 + 1), .int .i64 ((q : Int) % 4)]), (2, .int .i64 ((k : Int) + 1))] ?b1 (build_k S I _ _ _ _) ?_; (case b1 => simp [Act.eval, Act.put]))
            | (refine wpList_store_new rfl 39 (.tmp 11) (.tmp 46) rfl _ (idOf S I ((q : Int) / 4 + 1) ((q : Int) % 4) (mRest ((k : Int) + 1))).toArray ?x1 ?x2 sizeObj rfl (all_oneCell_toArray (idOf_one _ _ _ _ _)) ?_; (case x1 => simp [Act.eval, Act.put]); (case x2 => simp [Act.eval, Act.put]); have HK2 := Lib.hid (HK1.out.below (below_new (Below.refl _ _) (.cells (idOf S I ((q : Int) / 4 + 1) ((q : Int) % 4) (mRest ((k : Int) + 1))).toArray 39))))
            | (refine wpList_load_mid rfl 39 (.tmp 11) rfl wr.heap.size 0 rfl (idOf S I ((q : Int) / 4 + 1) ((q : Int) % 4) (mRest ((k : Int) + 1))) _ (range_of_block (heap_alloc_new wr _) 0 _ (fun j hj => by rw [Nat.zero_add])) Try.underlying39 rfl sizeObj ?_)
            | (go_at_call 15; refine (put_ok p S I ((q : Int) / 4 + 1) ((q : Int) % 4) (mRest ((k : Int) + 1)) (kSt S I h) _ HK2.out.is (k_fine q hq12) rfl (mRest_one _) (by rw [k_lane q hq12]; exact kSt_none H0.out)).mono ?_; rintro e w3 ⟨rfl, hg3, hP3⟩; rw [k_lane q hq12] at hP3; have HG3 := Lib.hid hg3; have HP3 := Lib.hid ((kSt_set S I h q (k + 1) (by omega)) ▸ hP3 : PartIs w3 p S I (kSt S I (hset h q (k + 1)))); clear hg3 hP3; have hbl := (HK2.out.grown HG3.out HP3.out).2.1; have hat : w3.cell? ⟨w1.heap.size, q, none⟩ = some (.int .i64 0) := (by rw [cell_of_row w3 w1.heap.size q _ _ _ hbl, kHas_at h q hq12, H0.out]; rfl); have hfr : w3.frozen? ⟨w1.heap.size, q, none⟩ = false := (by have h := (there_of_block hbl 0 12 (by simp [kHas])) q hq12; simpa using h.2); clear hbl))
          have HKc : Hid (KW w (w3.setCell ⟨w1.heap.size, q, none⟩ (.int .i64 ((k : Int) + 1))) S I s p w1.heap.size (hset h q (k + 1))) := Lib.hid (HK2.out.both HG3.out hq12 HP3.out)
          clear hat hfr HG3 HP3 HK2 HK1 hl0 hl1 hc
          go_loopw [13] (fun i wr => ∃ n : Nat, i = .int .i64 n ∧ n ≤ 12 ∧ Hid (KW w wr S I s p w1.heap.size (hset h q (k + 1)))) (fun i _ => 12 - (intOf i).toNat)
          case atStart => exact ⟨0, rfl, by omega, HKc⟩
          case round =>
            rename World => wn
            obtain ⟨n, rfl, hn, HKn⟩ := hrel
            clear HKc
            by_cases hn12 : n = 12
            · subst hn12
              go_wp2_with fail
              go_roundw
              case rel => exact ⟨k + 1, hset h q (k + 1), by go_num, by omega, HKn⟩
              case measure => simp [intOf]; omega
            · have hnl : n < 12 := by omega
              have hni : (n : Int) < 12 := by omega
              have hn0 : (0 : Int) ≤ n := by omega
              clear hn12
              by_cases hh : (hset h q (k + 1)) n = 0
              · have HH0 := Lib.hid hh
                clear hh
                go_upto_region 25 with (first
                  | (go_at_call 19; refine (get_none p S I _ (n : Int) _ HKn.out.is hn0 hni (kSt_none HH0.out)).mono ?_; rintro e w5 ⟨rfl, hb5⟩; have HKg := Lib.hid (HKn.out.below hb5); clear hb5)
                  | (refine wpList_store_new rfl 39 (.tmp 14) (.tmp 88) rfl _ zobj.toArray ?x1 ?x2 sizeObj rfl (all_oneCell_toArray zobj_one) ?_; (case x1 => simp [Act.eval, Act.put]); (case x2 => simp [Act.eval, Act.put])))
                obtain ⟨w6, hw6⟩ : ∃ w6, w6 = w5.alloc (.cells zobj.toArray 39) := ⟨_, rfl⟩
                have HK6 : Hid (KW w w6 S I s p w1.heap.size (hset h q (k + 1))) := Lib.hid (by rw [hw6]; exact HKg.out.below (below_new (Below.refl _ _) _))
                have hx6 : w6.cell? ⟨w5.heap.size, 6, none⟩ = some (.int .i64 0) := by rw [hw6, cell_of_row _ _ 6 _ _ _ (heap_alloc_new _ _)]; rfl
                have hat6 : w6.cell? ⟨w1.heap.size, n, none⟩ = some (.int .i64 0) := by rw [HK6.out.at hnl, HH0.out]; rfl
                have hz6 : w5.heap.size < w6.heap.size := World.block_lt_of_cell? w6 _ hx6
                have hy6 : w1.heap.size < w6.heap.size := World.block_lt_of_cell? w6 _ hat6
                rw [← hw6]
                clear hw6 HKg HKn
                refine wp_region_over (by kernel_rfl) (by kernel_rfl) ?_
                repeat (go_big_quiet_step (fail))
                refine wpQuiet_nil ?_
                intro W7 hW7
                have HK7 := Lib.hid (HK6.out.below (below_of_over hW7))
                clear hW7 hx6 hat6 hz6 hy6
                go_wp2_with fail
                go_roundw
                case rel => first | exact ⟨n + 1, by go_num, by omega, HK7⟩ | ((repeat apply Exists.intro); exact ⟨⟨n + 1, by go_num, by omega, HK7⟩, rfl⟩)
                case measure => simp [intOf]; omega
              · have HH0 := Lib.hid hh
                have hp0 : (0 : Int) < ((hset h q (k + 1)) n : Int) := by omega
                obtain ⟨y, hy⟩ : ∃ y : Int, y = ((hset h q (k + 1)) n : Int) := ⟨_, rfl⟩
                have HY := Lib.hid hy
                rw [← hy] at hp0
                clear hh hy
                go_upto_region 25 with (first
                  | (go_at_call 19; refine (get_some p S I _ (n : Int) _ HKn.out.is hn0 hni (idOf S I ((n : Int) / 4 + 1) ((n : Int) % 4) (mRest y)) (by rw [HY.out]; exact kSt_some HH0.out)).mono ?_; rintro e w5 ⟨rfl, hb5⟩; have HKg := Lib.hid (HKn.out.below hb5); clear hb5)
                  | (refine wpList_store_new rfl 39 (.tmp 14) (.tmp 88) rfl _ (idOf S I ((n : Int) / 4 + 1) ((n : Int) % 4) (mRest y)).toArray ?x1 ?x2 sizeObj rfl (all_oneCell_toArray (idOf_one _ _ _ _ _)) ?_; (case x1 => simp [Act.eval, Act.put]); (case x2 => simp [Act.eval, Act.put])))
                obtain ⟨w6, hw6⟩ : ∃ w6, w6 = w5.alloc (.cells (idOf S I ((n : Int) / 4 + 1) ((n : Int) % 4) (mRest y)).toArray 39) := ⟨_, rfl⟩
                have HK6 : Hid (KW w w6 S I s p w1.heap.size (hset h q (k + 1))) := Lib.hid (by rw [hw6]; exact HKg.out.below (below_new (Below.refl _ _) _))
                have hx6 : w6.cell? ⟨w5.heap.size, 6, none⟩ = some (.int .i64 y) := by rw [hw6, cell_of_row _ _ 6 _ _ _ (heap_alloc_new _ _)]; rfl
                have hx2 : w6.cell? ⟨w5.heap.size, 2, none⟩ = some (.int .i64 ((n : Int) / 4 + 1)) := by rw [hw6, cell_of_row _ _ 2 _ _ _ (heap_alloc_new _ _)]; rfl
                have hx3 : w6.cell? ⟨w5.heap.size, 3, none⟩ = some (.int .i64 ((n : Int) % 4)) := by rw [hw6, cell_of_row _ _ 3 _ _ _ (heap_alloc_new _ _)]; rfl
                have hat6 : w6.cell? ⟨w1.heap.size, n, none⟩ = some (.int .i64 y) := by rw [HK6.out.at hnl, HY.out]
                have hz6 : w5.heap.size < w6.heap.size := World.block_lt_of_cell? w6 _ hx6
                have hy6 : w1.heap.size < w6.heap.size := World.block_lt_of_cell? w6 _ hat6
                rw [← hw6]
                clear hw6 HKg HKn
                refine wp_region_over (by kernel_rfl) (by kernel_rfl) ?_
                repeat (go_big_quiet_step (fail))
                refine wpQuiet_nil ?_
                intro W7 hW7
                have HK7 := Lib.hid (HK6.out.below (below_of_over hW7))
                clear hW7 hx6 hx2 hx3 hat6 hz6 hy6
                go_wp2_with fail
                go_roundw
                case rel => first | exact ⟨n + 1, by go_num, by omega, HK7⟩ | ((repeat apply Exists.intro); exact ⟨⟨n + 1, by go_num, by omega, HK7⟩, rfl⟩)
                case measure => simp [intOf]; omega
        · have H0 := Lib.hid h0
          have hnz : ((h q : Int) == 0) = false := by simp; omega
          have hnz' : ¬ (h q : Int) = 0 := by omega
          clear h0
          by_cases hpar : (k : Int) % 2 = 1
          · go_wp2_with (first
              | (refine wpList_build rfl 39 _ rfl #[(0, .agg #[.int .u16 S, .int .u16 I, .int .i64 ((q : Int) / 4 + 1), .int .i64 ((q : Int) % 4)]), (2, .int .i64 ((k : Int) + 1))] ?b1 (build_k S I _ _ _ _) ?_; (case b1 => simp [Act.eval, Act.put]))
              | (refine wpList_store_new rfl 39 (.tmp 11) (.tmp 46) rfl _ (idOf S I ((q : Int) / 4 + 1) ((q : Int) % 4) (mRest ((k : Int) + 1))).toArray ?x1 ?x2 sizeObj rfl (all_oneCell_toArray (idOf_one _ _ _ _ _)) ?_; (case x1 => simp [Act.eval, Act.put]); (case x2 => simp [Act.eval, Act.put]); have HK2 := Lib.hid (HK1.out.below (below_new (Below.refl _ _) (.cells (idOf S I ((q : Int) / 4 + 1) ((q : Int) % 4) (mRest ((k : Int) + 1))).toArray 39))))
              | (refine wpList_load_mid rfl 39 (.tmp 11) rfl wr.heap.size 0 rfl (idOf S I ((q : Int) / 4 + 1) ((q : Int) % 4) (mRest ((k : Int) + 1))) _ (range_of_block (heap_alloc_new wr _) 0 _ (fun j hj => by rw [Nat.zero_add])) Try.underlying39 rfl sizeObj ?_)
              | (go_at_call 15; refine (put_there p S I ((q : Int) / 4 + 1) ((q : Int) % 4) (mRest ((k : Int) + 1)) (kSt S I h) _ HK2.out.is (k_fine q hq12) (by rw [k_lane q hq12, kSt_some H0.out]; rfl)).mono ?_; rintro e w3 ⟨rfl, hb3⟩; have HK3 := Lib.hid (HK2.out.below hb3); clear hb3; have hat := HK3.out.at hq12)
              | (go_at_call 18; refine (drop_ok p S I (kSt S I h) (q : Int) _ HK3.out.is (by omega) (by omega) (by rw [Int.toNat_natCast, kSt_some H0.out]; rfl)).mono ?_; rintro e w4 ⟨rfl, hg4, hP4⟩; rw [Int.toNat_natCast, kSt_zero] at hP4; have HG4 := Lib.hid hg4; have HP4 := Lib.hid hP4; clear hg4 hP4; have hbl := (HK3.out.grown HG4.out HP4.out).2.1; have hat4 : w4.cell? ⟨w1.heap.size, q, none⟩ = some (.int .i64 (h q : Int)) := (by rw [cell_of_row w4 w1.heap.size q _ _ _ hbl, kHas_at h q hq12]); have hfr4 : w4.frozen? ⟨w1.heap.size, q, none⟩ = false := (by have h := (there_of_block hbl 0 12 (by simp [kHas])) q hq12; simpa using h.2); clear hbl))
            have HKc : Hid (KW w (w4.setCell ⟨w1.heap.size, q, none⟩ (.int .i64 0)) S I s p w1.heap.size (hset h q 0)) := Lib.hid (HK3.out.both HG4.out hq12 HP4.out)
            clear hat hat4 hfr4 HG4 HP4 HK3 HK2 HK1 hl0 hl1 hc hpar hnz hnz'
            go_loopw [13] (fun i wr => ∃ n : Nat, i = .int .i64 n ∧ n ≤ 12 ∧ Hid (KW w wr S I s p w1.heap.size (hset h q 0))) (fun i _ => 12 - (intOf i).toNat)
            case atStart => exact ⟨0, rfl, by omega, HKc⟩
            case round =>
              rename World => wn
              obtain ⟨n, rfl, hn, HKn⟩ := hrel
              clear HKc
              by_cases hn12 : n = 12
              · subst hn12
                go_wp2_with fail
                go_roundw
                case rel => exact ⟨k + 1, hset h q 0, by go_num, by omega, HKn⟩
                case measure => simp [intOf]; omega
              · have hnl : n < 12 := by omega
                have hni : (n : Int) < 12 := by omega
                have hn0 : (0 : Int) ≤ n := by omega
                clear hn12
                by_cases hh : (hset h q 0) n = 0
                · have HH0 := Lib.hid hh
                  clear hh
                  go_upto_region 25 with (first
                    | (go_at_call 19; refine (get_none p S I _ (n : Int) _ HKn.out.is hn0 hni (kSt_none HH0.out)).mono ?_; rintro e w5 ⟨rfl, hb5⟩; have HKg := Lib.hid (HKn.out.below hb5); clear hb5)
                    | (refine wpList_store_new rfl 39 (.tmp 14) (.tmp 88) rfl _ zobj.toArray ?x1 ?x2 sizeObj rfl (all_oneCell_toArray zobj_one) ?_; (case x1 => simp [Act.eval, Act.put]); (case x2 => simp [Act.eval, Act.put])))
                  obtain ⟨w6, hw6⟩ : ∃ w6, w6 = w5.alloc (.cells zobj.toArray 39) := ⟨_, rfl⟩
                  have HK6 : Hid (KW w w6 S I s p w1.heap.size (hset h q 0)) := Lib.hid (by rw [hw6]; exact HKg.out.below (below_new (Below.refl _ _) _))
                  have hx6 : w6.cell? ⟨w5.heap.size, 6, none⟩ = some (.int .i64 0) := by rw [hw6, cell_of_row _ _ 6 _ _ _ (heap_alloc_new _ _)]; rfl
                  have hat6 : w6.cell? ⟨w1.heap.size, n, none⟩ = some (.int .i64 0) := by rw [HK6.out.at hnl, HH0.out]; rfl
                  have hz6 : w5.heap.size < w6.heap.size := World.block_lt_of_cell? w6 _ hx6
                  have hy6 : w1.heap.size < w6.heap.size := World.block_lt_of_cell? w6 _ hat6
                  rw [← hw6]
                  clear hw6 HKg HKn
                  refine wp_region_over (by kernel_rfl) (by kernel_rfl) ?_
                  repeat (go_big_quiet_step (fail))
                  refine wpQuiet_nil ?_
                  intro W7 hW7
                  have HK7 := Lib.hid (HK6.out.below (below_of_over hW7))
                  clear hW7 hx6 hat6 hz6 hy6
                  go_wp2_with fail
                  go_roundw
                  case rel => first | exact ⟨n + 1, by go_num, by omega, HK7⟩ | ((repeat apply Exists.intro); exact ⟨⟨n + 1, by go_num, by omega, HK7⟩, rfl⟩)
                  case measure => simp [intOf]; omega
                · have HH0 := Lib.hid hh
                  have hp0 : (0 : Int) < ((hset h q 0) n : Int) := by omega
                  obtain ⟨y, hy⟩ : ∃ y : Int, y = ((hset h q 0) n : Int) := ⟨_, rfl⟩
                  have HY := Lib.hid hy
                  rw [← hy] at hp0
                  clear hh hy
                  go_upto_region 25 with (first
                    | (go_at_call 19; refine (get_some p S I _ (n : Int) _ HKn.out.is hn0 hni (idOf S I ((n : Int) / 4 + 1) ((n : Int) % 4) (mRest y)) (by rw [HY.out]; exact kSt_some HH0.out)).mono ?_; rintro e w5 ⟨rfl, hb5⟩; have HKg := Lib.hid (HKn.out.below hb5); clear hb5)
                    | (refine wpList_store_new rfl 39 (.tmp 14) (.tmp 88) rfl _ (idOf S I ((n : Int) / 4 + 1) ((n : Int) % 4) (mRest y)).toArray ?x1 ?x2 sizeObj rfl (all_oneCell_toArray (idOf_one _ _ _ _ _)) ?_; (case x1 => simp [Act.eval, Act.put]); (case x2 => simp [Act.eval, Act.put])))
                  obtain ⟨w6, hw6⟩ : ∃ w6, w6 = w5.alloc (.cells (idOf S I ((n : Int) / 4 + 1) ((n : Int) % 4) (mRest y)).toArray 39) := ⟨_, rfl⟩
                  have HK6 : Hid (KW w w6 S I s p w1.heap.size (hset h q 0)) := Lib.hid (by rw [hw6]; exact HKg.out.below (below_new (Below.refl _ _) _))
                  have hx6 : w6.cell? ⟨w5.heap.size, 6, none⟩ = some (.int .i64 y) := by rw [hw6, cell_of_row _ _ 6 _ _ _ (heap_alloc_new _ _)]; rfl
                  have hx2 : w6.cell? ⟨w5.heap.size, 2, none⟩ = some (.int .i64 ((n : Int) / 4 + 1)) := by rw [hw6, cell_of_row _ _ 2 _ _ _ (heap_alloc_new _ _)]; rfl
                  have hx3 : w6.cell? ⟨w5.heap.size, 3, none⟩ = some (.int .i64 ((n : Int) % 4)) := by rw [hw6, cell_of_row _ _ 3 _ _ _ (heap_alloc_new _ _)]; rfl
                  have hat6 : w6.cell? ⟨w1.heap.size, n, none⟩ = some (.int .i64 y) := by rw [HK6.out.at hnl, HY.out]
                  have hz6 : w5.heap.size < w6.heap.size := World.block_lt_of_cell? w6 _ hx6
                  have hy6 : w1.heap.size < w6.heap.size := World.block_lt_of_cell? w6 _ hat6
                  rw [← hw6]
                  clear hw6 HKg HKn
                  refine wp_region_over (by kernel_rfl) (by kernel_rfl) ?_
                  repeat (go_big_quiet_step (fail))
                  refine wpQuiet_nil ?_
                  intro W7 hW7
                  have HK7 := Lib.hid (HK6.out.below (below_of_over hW7))
                  clear hW7 hx6 hx2 hx3 hat6 hz6 hy6
                  go_wp2_with fail
                  go_roundw
                  case rel => first | exact ⟨n + 1, by go_num, by omega, HK7⟩ | ((repeat apply Exists.intro); exact ⟨⟨n + 1, by go_num, by omega, HK7⟩, rfl⟩)
                  case measure => simp [intOf]; omega
          · have hpb : ((k : Int) % 2 == 1) = false := by simp [hpar]
            go_wp2_with (first
              | (refine wpList_build rfl 39 _ rfl #[(0, .agg #[.int .u16 S, .int .u16 I, .int .i64 ((q : Int) / 4 + 1), .int .i64 ((q : Int) % 4)]), (2, .int .i64 ((k : Int) + 1))] ?b1 (build_k S I _ _ _ _) ?_; (case b1 => simp [Act.eval, Act.put]))
              | (refine wpList_store_new rfl 39 (.tmp 11) (.tmp 46) rfl _ (idOf S I ((q : Int) / 4 + 1) ((q : Int) % 4) (mRest ((k : Int) + 1))).toArray ?x1 ?x2 sizeObj rfl (all_oneCell_toArray (idOf_one _ _ _ _ _)) ?_; (case x1 => simp [Act.eval, Act.put]); (case x2 => simp [Act.eval, Act.put]); have HK2 := Lib.hid (HK1.out.below (below_new (Below.refl _ _) (.cells (idOf S I ((q : Int) / 4 + 1) ((q : Int) % 4) (mRest ((k : Int) + 1))).toArray 39))))
              | (refine wpList_load_mid rfl 39 (.tmp 11) rfl wr.heap.size 0 rfl (idOf S I ((q : Int) / 4 + 1) ((q : Int) % 4) (mRest ((k : Int) + 1))) _ (range_of_block (heap_alloc_new wr _) 0 _ (fun j hj => by rw [Nat.zero_add])) Try.underlying39 rfl sizeObj ?_)
              | (go_at_call 15; refine (put_there p S I ((q : Int) / 4 + 1) ((q : Int) % 4) (mRest ((k : Int) + 1)) (kSt S I h) _ HK2.out.is (k_fine q hq12) (by rw [k_lane q hq12, kSt_some H0.out]; rfl)).mono ?_; rintro e w3 ⟨rfl, hb3⟩; have HK3 := Lib.hid (HK2.out.below hb3); clear hb3; have hat := HK3.out.at hq12)
              | (go_at_call 18; refine (drop_ok p S I (kSt S I h) (q : Int) _ HK3.out.is (by omega) (by omega) (by rw [Int.toNat_natCast, kSt_some H0.out]; rfl)).mono ?_; rintro e w4 ⟨rfl, hg4, hP4⟩; rw [Int.toNat_natCast, kSt_zero] at hP4; have HG4 := Lib.hid hg4; have HP4 := Lib.hid hP4; clear hg4 hP4; have hbl := (HK3.out.grown HG4.out HP4.out).2.1; have hat4 : w4.cell? ⟨w1.heap.size, q, none⟩ = some (.int .i64 (h q : Int)) := (by rw [cell_of_row w4 w1.heap.size q _ _ _ hbl, kHas_at h q hq12]); have hfr4 : w4.frozen? ⟨w1.heap.size, q, none⟩ = false := (by have h := (there_of_block hbl 0 12 (by simp [kHas])) q hq12; simpa using h.2); clear hbl))
            have HKc := HK3
            clear hat HK3 HK2 HK1 hl0 hl1 hc hpar hpb hnz hnz'
            go_loopw [13] (fun i wr => ∃ n : Nat, i = .int .i64 n ∧ n ≤ 12 ∧ Hid (KW w wr S I s p w1.heap.size h)) (fun i _ => 12 - (intOf i).toNat)
            case atStart => exact ⟨0, rfl, by omega, HKc⟩
            case round =>
              rename World => wn
              obtain ⟨n, rfl, hn, HKn⟩ := hrel
              clear HKc
              by_cases hn12 : n = 12
              · subst hn12
                go_wp2_with fail
                go_roundw
                case rel => exact ⟨k + 1, h, by go_num, by omega, HKn⟩
                case measure => simp [intOf]; omega
              · have hnl : n < 12 := by omega
                have hni : (n : Int) < 12 := by omega
                have hn0 : (0 : Int) ≤ n := by omega
                clear hn12
                by_cases hh : h n = 0
                · have HH0 := Lib.hid hh
                  clear hh
                  go_upto_region 25 with (first
                    | (go_at_call 19; refine (get_none p S I _ (n : Int) _ HKn.out.is hn0 hni (kSt_none HH0.out)).mono ?_; rintro e w5 ⟨rfl, hb5⟩; have HKg := Lib.hid (HKn.out.below hb5); clear hb5)
                    | (refine wpList_store_new rfl 39 (.tmp 14) (.tmp 88) rfl _ zobj.toArray ?x1 ?x2 sizeObj rfl (all_oneCell_toArray zobj_one) ?_; (case x1 => simp [Act.eval, Act.put]); (case x2 => simp [Act.eval, Act.put])))
                  obtain ⟨w6, hw6⟩ : ∃ w6, w6 = w5.alloc (.cells zobj.toArray 39) := ⟨_, rfl⟩
                  have HK6 : Hid (KW w w6 S I s p w1.heap.size h) := Lib.hid (by rw [hw6]; exact HKg.out.below (below_new (Below.refl _ _) _))
                  have hx6 : w6.cell? ⟨w5.heap.size, 6, none⟩ = some (.int .i64 0) := by rw [hw6, cell_of_row _ _ 6 _ _ _ (heap_alloc_new _ _)]; rfl
                  have hat6 : w6.cell? ⟨w1.heap.size, n, none⟩ = some (.int .i64 0) := by rw [HK6.out.at hnl, HH0.out]; rfl
                  have hz6 : w5.heap.size < w6.heap.size := World.block_lt_of_cell? w6 _ hx6
                  have hy6 : w1.heap.size < w6.heap.size := World.block_lt_of_cell? w6 _ hat6
                  rw [← hw6]
                  clear hw6 HKg HKn
                  refine wp_region_over (by kernel_rfl) (by kernel_rfl) ?_
                  repeat (go_big_quiet_step (fail))
                  refine wpQuiet_nil ?_
                  intro W7 hW7
                  have HK7 := Lib.hid (HK6.out.below (below_of_over hW7))
                  clear hW7 hx6 hat6 hz6 hy6
                  go_wp2_with fail
                  go_roundw
                  case rel => first | exact ⟨n + 1, by go_num, by omega, HK7⟩ | ((repeat apply Exists.intro); exact ⟨⟨n + 1, by go_num, by omega, HK7⟩, rfl⟩)
                  case measure => simp [intOf]; omega
                · have HH0 := Lib.hid hh
                  have hp0 : (0 : Int) < (h n : Int) := by omega
                  obtain ⟨y, hy⟩ : ∃ y : Int, y = (h n : Int) := ⟨_, rfl⟩
                  have HY := Lib.hid hy
                  rw [← hy] at hp0
                  clear hh hy
                  go_upto_region 25 with (first
                    | (go_at_call 19; refine (get_some p S I _ (n : Int) _ HKn.out.is hn0 hni (idOf S I ((n : Int) / 4 + 1) ((n : Int) % 4) (mRest y)) (by rw [HY.out]; exact kSt_some HH0.out)).mono ?_; rintro e w5 ⟨rfl, hb5⟩; have HKg := Lib.hid (HKn.out.below hb5); clear hb5)
                    | (refine wpList_store_new rfl 39 (.tmp 14) (.tmp 88) rfl _ (idOf S I ((n : Int) / 4 + 1) ((n : Int) % 4) (mRest y)).toArray ?x1 ?x2 sizeObj rfl (all_oneCell_toArray (idOf_one _ _ _ _ _)) ?_; (case x1 => simp [Act.eval, Act.put]); (case x2 => simp [Act.eval, Act.put])))
                  obtain ⟨w6, hw6⟩ : ∃ w6, w6 = w5.alloc (.cells (idOf S I ((n : Int) / 4 + 1) ((n : Int) % 4) (mRest y)).toArray 39) := ⟨_, rfl⟩
                  have HK6 : Hid (KW w w6 S I s p w1.heap.size h) := Lib.hid (by rw [hw6]; exact HKg.out.below (below_new (Below.refl _ _) _))
                  have hx6 : w6.cell? ⟨w5.heap.size, 6, none⟩ = some (.int .i64 y) := by rw [hw6, cell_of_row _ _ 6 _ _ _ (heap_alloc_new _ _)]; rfl
                  have hx2 : w6.cell? ⟨w5.heap.size, 2, none⟩ = some (.int .i64 ((n : Int) / 4 + 1)) := by rw [hw6, cell_of_row _ _ 2 _ _ _ (heap_alloc_new _ _)]; rfl
                  have hx3 : w6.cell? ⟨w5.heap.size, 3, none⟩ = some (.int .i64 ((n : Int) % 4)) := by rw [hw6, cell_of_row _ _ 3 _ _ _ (heap_alloc_new _ _)]; rfl
                  have hat6 : w6.cell? ⟨w1.heap.size, n, none⟩ = some (.int .i64 y) := by rw [HK6.out.at hnl, HY.out]
                  have hz6 : w5.heap.size < w6.heap.size := World.block_lt_of_cell? w6 _ hx6
                  have hy6 : w1.heap.size < w6.heap.size := World.block_lt_of_cell? w6 _ hat6
                  rw [← hw6]
                  clear hw6 HKg HKn
                  refine wp_region_over (by kernel_rfl) (by kernel_rfl) ?_
                  repeat (go_big_quiet_step (fail))
                  refine wpQuiet_nil ?_
                  intro W7 hW7
                  have HK7 := Lib.hid (HK6.out.below (below_of_over hW7))
                  clear hW7 hx6 hx2 hx3 hat6 hz6 hy6
                  go_wp2_with fail
                  go_roundw
                  case rel => first | exact ⟨n + 1, by go_num, by omega, HK7⟩ | ((repeat apply Exists.intro); exact ⟨⟨n + 1, by go_num, by omega, HK7⟩, rfl⟩)
                  case measure => simp [intOf]; omega
end Go.Proofs.Ytaapejhoegeimaa
