/- The reference's labels (package forepeakref02): Join, Meet: what they return. No conditions. -/
import Derived.Test.YtdjndnoiankicaaDoorLrefb
namespace Go.Proofs.YtdjndnoiankicaaDoor
open Go.RowKit Go.Shelf
set_option linter.unusedSimpArgs false
set_option linter.unusedVariables false
attribute [local go_sem] cell_over frozen_over

theorem ror_b (a b : Nat) (ha : a < 65536) (hb : b < 65536) (w : World) : Calls Tryd.prog 48 #[.int .u16 (a : Int), .int .u16 (b : Int)] w fun e w' => e = .returned (.int .u16 ((a ||| b : Nat) : Int)) ∧ Below w.heap.size w w' :=
  (ror_ok a b ha hb w).mono fun _ _ ⟨h1, h2⟩ => ⟨h1, by rw [h2]; exact Below.refl _ _⟩
theorem rand_b (a b : Nat) (ha : a < 65536) (hb : b < 65536) (w : World) : Calls Tryd.prog 49 #[.int .u16 (a : Int), .int .u16 (b : Int)] w fun e w' => e = .returned (.int .u16 ((a &&& b : Nat) : Int)) ∧ Below w.heap.size w w' :=
  (rand_ok a b ha hb w).mono fun _ _ ⟨h1, h2⟩ => ⟨h1, by rw [h2]; exact Below.refl _ _⟩
theorem LabsAt.get {w : World} {A : Option Addr} {l : List Lab.L} (h : LabsAt w A l) {k : Nat} (hk : k < l.length) : ∃ b off, A = some ⟨b, off, none⟩ ∧ w.cell? ⟨b, off + k * 2, none⟩ = some (.int .u16 (l[k].1 : Int)) ∧ w.cell? ⟨b, off + k * 2 + 1, none⟩ = some (.int .u16 (l[k].2 : Int)) := by
  rcases h with h | ⟨b, off, h1, h2⟩
  · rw [h] at hk; simp at hk
  · exact ⟨b, off, h1, h2 k hk⟩
set_option maxRecDepth 100000 in
set_option maxHeartbeats 2000000 in
theorem rljoin_ok (A : Option Addr) (c : Nat) (l : List Lab.L) (hl : l.length ≤ 4611686018427387904) (hok : ∀ a ∈ l, Lab.ok a) (w : World) (hA : LabsAt w A l) :
    Calls Tryd.prog 23 #[.slice A l.length c] w fun e w' => e = .returned (labV (Lab.join l)) ∧ Below w.heap.size w w' := by
  have HA := Lib.hid hA
  have HOK := Lib.hid hok
  clear hA hok
  go_enter Tryd.func23, Tryd.ntmps23
  go_wp2_with (go_at_call 18; refine (rbottom_ok _).mono ?_; rintro e w1 ⟨rfl, hb1⟩)
  obtain ⟨B, hB⟩ : ∃ B, B = w1.heap.size := ⟨_, rfl⟩
  have hsz := hb1.size
  rw [World.size_alloc] at hsz
  obtain ⟨w2, hw2⟩ : ∃ w2, w2 = w1.alloc (.cells #[.int .u16 (Lab.bot.1 : Int), .int .u16 (Lab.bot.2 : Int)] 24) := ⟨_, rfl⟩
  have HB1 : Hid (Below w.heap.size w w2) := Lib.hid (by rw [hw2]; exact below_new (below_here (below_new (Below.refl _ _) _) hb1) _)
  have HR : Hid (w2.heap[w.heap.size]? = some (.cells #[.int .u16 0, .int .u16 0] 24 (0, 0))) := Lib.hid (by
    rw [hw2, Below.heap_alloc _ _ _ (by omega)]; exact block_below hb1 (heap_alloc_new _ _))
  have HK : Hid (w2.heap[B]? = some (.cells #[.int .u16 (Lab.bot.1 : Int), .int .u16 (Lab.bot.2 : Int)] 24 (0, 0))) := Lib.hid (by rw [hw2, hB]; exact heap_alloc_new _ _)
  have hBw : w.heap.size + 1 ≤ B := by omega
  rw [← hB, ← hw2]
  clear hw2 hB hb1 hsz
  go_loopw [4] (fun i wr => ∃ (k : Nat) (o : Lab.L), i = .int .i64 (k : Int) ∧ k ≤ l.length ∧ Lab.ok o ∧ Hid (o = (l.take k).foldl Lab.joinTo Lab.bot) ∧ Hid (wr.heap[B]? = some (.cells #[.int .u16 (o.1 : Int), .int .u16 (o.2 : Int)] 24 (0, 0))) ∧ Hid (wr.heap[w.heap.size]? = some (.cells #[.int .u16 0, .int .u16 0] 24 (0, 0))) ∧ Hid (Below w.heap.size w wr)) (fun i _ => l.length - (intOf i).toNat)
  case atStart => exact ⟨0, Lab.bot, rfl, by omega, Lab.bot_ok, Lib.hid rfl, HK, HR, HB1⟩
  case round =>
    obtain ⟨k, o, rfl, hk, ho, hf, hK1, hR1, hB1⟩ := hrel
    by_cases hkl : k = l.length
    · subst hkl
      obtain ⟨c0, c1, f0, f1⟩ := pair_cells hK1.out
      obtain ⟨r0, r1, q0, q1⟩ := pair_cells hR1.out
      have q1' : ∀ v, (wr.setCell ⟨w.heap.size, 0, none⟩ v).frozen? ⟨w.heap.size, 1, none⟩ = false := fun v => (pair_cells (pair_set0 hR1.out)).2.2.2
      have HJO : Hid (o = Lab.join l) := Lib.hid (by rw [hf.out, List.take_length]; rfl)
      go_wp2_with fail
      have hW := pair_set1 (v := .int .u16 (o.2 : Int)) (pair_set0 (v := .int .u16 (o.1 : Int)) hR1.out)
      obtain ⟨z0, z1, _, _⟩ := pair_cells hW
      refine bodyPost_ret (v := labV o) (by simp [results, Tryd.results23, go_sem, z0, z1]) rfl ⟨by rw [HJO.out], ?_⟩
      exact (hB1.out.setCell (p := ⟨w.heap.size, 0, none⟩) (Nat.le_refl _) _).setCell (p := ⟨w.heap.size, 1, none⟩) (Nat.le_refl _) _
    · have hkn : k < l.length := by omega
      have hki : (k : Int) < (l.length : Int) := by omega
      obtain ⟨c0, c1, f0, f1⟩ := pair_cells hK1.out
      have hlt : B < wr.heap.size := World.block_lt_of_cell? wr _ c0
      have hbne : w.heap.size ≠ B := by omega
      obtain ⟨b, off, rfl, e0, e1⟩ := (HA.out.below hB1.out).get hkn
      have hlb : b < wr.heap.size := World.block_lt_of_cell? wr _ e0
      have hok := HOK.out _ (List.getElem_mem hkn)
      have hnext : (l.take (k + 1)).foldl Lab.joinTo Lab.bot = Lab.joinTo o l[k] := by
        rw [List.take_succ_eq_append_getElem hkn, List.foldl_append, ← hf.out]; rfl
      have hn := Lab.joinTo_ok ho hok
      have HE2 : ∀ W, Below w.heap.size w W → W.cell? ⟨b, off + k * 2 + 1, none⟩ = some (.int .u16 (l[k].2 : Int)) := fun W hW => by
        obtain ⟨b', off', h1, h2, h3⟩ := (HA.out.below hW).get hkn
        cases h1; exact h3
      generalize l[k] = x at e0 e1 hok hnext hn HE2
      have HN := Lib.hid hnext
      have HQ2 := Lib.hid HE2
      have H1 := Lib.hid (fun w => ror_b o.1 x.1 ho.1 hok.1 w)
      have H2 := Lib.hid (fun w => rand_b o.2 x.2 ho.2 hok.2 w)
      rw [show (o.1 ||| x.1) = (Lab.joinTo o x).1 from rfl] at H1
      rw [show (o.2 &&& x.2) = (Lab.joinTo o x).2 from rfl] at H2
      generalize Lab.joinTo o x = o' at H1 H2 HN hn
      clear hkl hnext HE2
      go_wp2_with fail
      refine wp_region_over_tail 9 (by kernel_rfl) (by kernel_rfl) ?_
      simp only [List.take_succ_cons, List.take_zero, List.drop_succ_cons, List.drop_zero]
      repeat (go_big_quiet_step ((go_at_call 48; exact Calls.over_of (H1.out _))))
      refine wpQuiet_nil ?_
      intro W1 hW1
      have hb1 := below_of_over hW1
      have hk1 := block_below hb1 hK1.out
      have hr1 := block_below hb1 hR1.out
      have hbb1 := below_here hB1.out hb1
      clear hW1 hK1 hR1 hB1 c0 c1 f0 f1 e0 e1 hlt hlb
      obtain ⟨c0, c1, f0, f1⟩ := pair_cells hk1
      have HK1 := Lib.hid hk1
      have HR1 := Lib.hid hr1
      have HBB1 := Lib.hid hbb1
      have HS1 := Lib.hid hb1
      clear hk1 hr1 hbb1 hb1
      go_wp2_with fail
      obtain ⟨W2, hW2⟩ : ∃ W2, W2 = W1.setCell ⟨B, 0, none⟩ (.int .u16 (o'.1 : Int)) := ⟨_, rfl⟩
      have hk2 : W2.heap[B]? = some (.cells #[.int .u16 (o'.1 : Int), .int .u16 (o.2 : Int)] 24 (0, 0)) := by rw [hW2]; exact pair_set0 HK1.out
      have hr2 : W2.heap[w.heap.size]? = some (.cells #[.int .u16 0, .int .u16 0] 24 (0, 0)) := by rw [hW2, Below.heap_setCell _ ⟨B, 0, none⟩ _ _ hbne]; exact HR1.out
      have hbb2 : Below w.heap.size w W2 := by rw [hW2]; exact HBB1.out.setCell (p := ⟨B, 0, none⟩) (by show w.heap.size ≤ B; omega) _
      rw [← hW2]
      clear hW2 c0 c1 f0 f1 HK1 HR1 HBB1 HS1
      obtain ⟨c0, c1, f0, f1⟩ := pair_cells hk2
      have e1 := HQ2.out W2 hbb2
      have hlt : B < W2.heap.size := World.block_lt_of_cell? W2 _ c0
      have hlb : b < W2.heap.size := World.block_lt_of_cell? W2 _ e1
      have HK2 := Lib.hid hk2
      have HR2 := Lib.hid hr2
      have HBB2 := Lib.hid hbb2
      clear hk2 hr2 hbb2
      refine wp_region_over_tail 9 (by kernel_rfl) (by kernel_rfl) ?_
      simp only [List.take_succ_cons, List.take_zero, List.drop_succ_cons, List.drop_zero]
      repeat (go_big_quiet_step ((go_at_call 49; exact Calls.over_of (H2.out _))))
      refine wpQuiet_nil ?_
      intro W3 hW3
      have hb3 := below_of_over hW3
      have hk3 := block_below hb3 HK2.out
      have HR3 := Lib.hid (block_below hb3 HR2.out)
      have HBB3 := Lib.hid (below_here HBB2.out hb3)
      clear hW3 HK2 HR2 HBB2 c0 c1 f0 f1 e1 hlt hlb hb3
      obtain ⟨c0, c1, f0, f1⟩ := pair_cells hk3
      have HK3 := Lib.hid hk3
      clear hk3
      go_wp2_with fail
      go_roundw
      case rel =>
        refine ⟨k + 1, o', by go_num, by omega, hn, Lib.hid HN.out.symm, Lib.hid (pair_set1 HK3.out), Lib.hid ?_, Lib.hid ?_⟩
        · rw [Below.heap_setCell _ ⟨B, 1, none⟩ _ _ hbne]; exact HR3.out
        · exact HBB3.out.setCell (p := ⟨B, 1, none⟩) (by show w.heap.size ≤ B; omega) _
      case measure => simp [intOf]; omega
set_option maxRecDepth 100000 in
set_option maxHeartbeats 2000000 in
theorem rlmeet_ok (A : Option Addr) (c : Nat) (l : List Lab.L) (hl : l.length ≤ 4611686018427387904) (hok : ∀ a ∈ l, Lab.ok a) (w : World) (hA : LabsAt w A l) :
    Calls Tryd.prog 20 #[.slice A l.length c] w fun e w' => e = .returned (labV (Lab.meet l)) ∧ Below w.heap.size w w' := by
  have HA := Lib.hid hA
  have HOK := Lib.hid hok
  clear hA hok
  go_enter Tryd.func20, Tryd.ntmps20
  go_wp2_with fail
  obtain ⟨B, hB⟩ : ∃ B, B = w.heap.size + 1 := ⟨_, rfl⟩
  obtain ⟨w2, hw2⟩ : ∃ w2, w2 = (w.alloc (.cells #[.int .u16 0, .int .u16 0] 24)).alloc (.cells #[.int .u16 65535, .int .u16 0] 24) := ⟨_, rfl⟩
  have HB1 : Hid (Below w.heap.size w w2) := Lib.hid (by rw [hw2]; exact below_new (below_new (Below.refl _ _) _) _)
  have HR : Hid (w2.heap[w.heap.size]? = some (.cells #[.int .u16 0, .int .u16 0] 24 (0, 0))) := Lib.hid (by
    rw [hw2, Below.heap_alloc _ _ _ (by simp)]; exact heap_alloc_new _ _)
  have HK : Hid (w2.heap[B]? = some (.cells #[.int .u16 (Lab.top.1 : Int), .int .u16 (Lab.top.2 : Int)] 24 (0, 0))) := Lib.hid (by
    have := heap_alloc_new (w.alloc (.cells #[.int .u16 0, .int .u16 0] 24)) (.cells #[.int .u16 65535, .int .u16 0] 24)
    rw [World.size_alloc] at this
    rw [hw2, hB]; exact this)
  have hBw : w.heap.size + 1 ≤ B := by omega
  rw [← hB, ← hw2]
  clear hw2 hB
  go_loopw [4] (fun i wr => ∃ (k : Nat) (o : Lab.L), i = .int .i64 (k : Int) ∧ k ≤ l.length ∧ Lab.ok o ∧ Hid (o = (l.take k).foldl Lab.meetTo Lab.top) ∧ Hid (wr.heap[B]? = some (.cells #[.int .u16 (o.1 : Int), .int .u16 (o.2 : Int)] 24 (0, 0))) ∧ Hid (wr.heap[w.heap.size]? = some (.cells #[.int .u16 0, .int .u16 0] 24 (0, 0))) ∧ Hid (Below w.heap.size w wr)) (fun i _ => l.length - (intOf i).toNat)
  case atStart => exact ⟨0, Lab.top, rfl, by omega, Lab.top_ok, Lib.hid rfl, HK, HR, HB1⟩
  case round =>
    obtain ⟨k, o, rfl, hk, ho, hf, hK1, hR1, hB1⟩ := hrel
    by_cases hkl : k = l.length
    · subst hkl
      obtain ⟨c0, c1, f0, f1⟩ := pair_cells hK1.out
      obtain ⟨r0, r1, q0, q1⟩ := pair_cells hR1.out
      have q1' : ∀ v, (wr.setCell ⟨w.heap.size, 0, none⟩ v).frozen? ⟨w.heap.size, 1, none⟩ = false := fun v => (pair_cells (pair_set0 hR1.out)).2.2.2
      have HJO : Hid (o = Lab.meet l) := Lib.hid (by rw [hf.out, List.take_length]; rfl)
      go_wp2_with fail
      have hW := pair_set1 (v := .int .u16 (o.2 : Int)) (pair_set0 (v := .int .u16 (o.1 : Int)) hR1.out)
      obtain ⟨z0, z1, _, _⟩ := pair_cells hW
      refine bodyPost_ret (v := labV o) (by simp [results, Tryd.results20, go_sem, z0, z1]) rfl ⟨by rw [HJO.out], ?_⟩
      exact (hB1.out.setCell (p := ⟨w.heap.size, 0, none⟩) (Nat.le_refl _) _).setCell (p := ⟨w.heap.size, 1, none⟩) (Nat.le_refl _) _
    · have hkn : k < l.length := by omega
      have hki : (k : Int) < (l.length : Int) := by omega
      obtain ⟨c0, c1, f0, f1⟩ := pair_cells hK1.out
      have hlt : B < wr.heap.size := World.block_lt_of_cell? wr _ c0
      have hbne : w.heap.size ≠ B := by omega
      obtain ⟨b, off, rfl, e0, e1⟩ := (HA.out.below hB1.out).get hkn
      have hlb : b < wr.heap.size := World.block_lt_of_cell? wr _ e0
      have hok := HOK.out _ (List.getElem_mem hkn)
      have hnext : (l.take (k + 1)).foldl Lab.meetTo Lab.top = Lab.meetTo o l[k] := by
        rw [List.take_succ_eq_append_getElem hkn, List.foldl_append, ← hf.out]; rfl
      have hn := Lab.meetTo_ok ho hok
      have HE2 : ∀ W, Below w.heap.size w W → W.cell? ⟨b, off + k * 2 + 1, none⟩ = some (.int .u16 (l[k].2 : Int)) := fun W hW => by
        obtain ⟨b', off', h1, h2, h3⟩ := (HA.out.below hW).get hkn
        cases h1; exact h3
      generalize l[k] = x at e0 e1 hok hnext hn HE2
      have HN := Lib.hid hnext
      have HQ2 := Lib.hid HE2
      have H1 := Lib.hid (fun w => rand_b o.1 x.1 ho.1 hok.1 w)
      have H2 := Lib.hid (fun w => ror_b o.2 x.2 ho.2 hok.2 w)
      rw [show (o.1 &&& x.1) = (Lab.meetTo o x).1 from rfl] at H1
      rw [show (o.2 ||| x.2) = (Lab.meetTo o x).2 from rfl] at H2
      generalize Lab.meetTo o x = o' at H1 H2 HN hn
      clear hkl hnext HE2
      go_wp2_with fail
      refine wp_region_over_tail 9 (by kernel_rfl) (by kernel_rfl) ?_
      simp only [List.take_succ_cons, List.take_zero, List.drop_succ_cons, List.drop_zero]
      repeat (go_big_quiet_step ((go_at_call 49; exact Calls.over_of (H1.out _))))
      refine wpQuiet_nil ?_
      intro W1 hW1
      have hb1 := below_of_over hW1
      have hk1 := block_below hb1 hK1.out
      have hr1 := block_below hb1 hR1.out
      have hbb1 := below_here hB1.out hb1
      clear hW1 hK1 hR1 hB1 c0 c1 f0 f1 e0 e1 hlt hlb
      obtain ⟨c0, c1, f0, f1⟩ := pair_cells hk1
      have HK1 := Lib.hid hk1
      have HR1 := Lib.hid hr1
      have HBB1 := Lib.hid hbb1
      have HS1 := Lib.hid hb1
      clear hk1 hr1 hbb1 hb1
      go_wp2_with fail
      obtain ⟨W2, hW2⟩ : ∃ W2, W2 = W1.setCell ⟨B, 0, none⟩ (.int .u16 (o'.1 : Int)) := ⟨_, rfl⟩
      have hk2 : W2.heap[B]? = some (.cells #[.int .u16 (o'.1 : Int), .int .u16 (o.2 : Int)] 24 (0, 0)) := by rw [hW2]; exact pair_set0 HK1.out
      have hr2 : W2.heap[w.heap.size]? = some (.cells #[.int .u16 0, .int .u16 0] 24 (0, 0)) := by rw [hW2, Below.heap_setCell _ ⟨B, 0, none⟩ _ _ hbne]; exact HR1.out
      have hbb2 : Below w.heap.size w W2 := by rw [hW2]; exact HBB1.out.setCell (p := ⟨B, 0, none⟩) (by show w.heap.size ≤ B; omega) _
      rw [← hW2]
      clear hW2 c0 c1 f0 f1 HK1 HR1 HBB1 HS1
      obtain ⟨c0, c1, f0, f1⟩ := pair_cells hk2
      have e1 := HQ2.out W2 hbb2
      have hlt : B < W2.heap.size := World.block_lt_of_cell? W2 _ c0
      have hlb : b < W2.heap.size := World.block_lt_of_cell? W2 _ e1
      have HK2 := Lib.hid hk2
      have HR2 := Lib.hid hr2
      have HBB2 := Lib.hid hbb2
      clear hk2 hr2 hbb2
      refine wp_region_over_tail 9 (by kernel_rfl) (by kernel_rfl) ?_
      simp only [List.take_succ_cons, List.take_zero, List.drop_succ_cons, List.drop_zero]
      repeat (go_big_quiet_step ((go_at_call 48; exact Calls.over_of (H2.out _))))
      refine wpQuiet_nil ?_
      intro W3 hW3
      have hb3 := below_of_over hW3
      have hk3 := block_below hb3 HK2.out
      have HR3 := Lib.hid (block_below hb3 HR2.out)
      have HBB3 := Lib.hid (below_here HBB2.out hb3)
      clear hW3 HK2 HR2 HBB2 c0 c1 f0 f1 e1 hlt hlb hb3
      obtain ⟨c0, c1, f0, f1⟩ := pair_cells hk3
      have HK3 := Lib.hid hk3
      clear hk3
      go_wp2_with fail
      go_roundw
      case rel =>
        refine ⟨k + 1, o', by go_num, by omega, hn, Lib.hid HN.out.symm, Lib.hid (pair_set1 HK3.out), Lib.hid ?_, Lib.hid ?_⟩
        · rw [Below.heap_setCell _ ⟨B, 1, none⟩ _ _ hbne]; exact HR3.out
        · exact HBB3.out.setCell (p := ⟨B, 1, none⟩) (by show w.heap.size ≤ B; omega) _
      case measure => simp [intOf]; omega
end Go.Proofs.YtdjndnoiankicaaDoor
