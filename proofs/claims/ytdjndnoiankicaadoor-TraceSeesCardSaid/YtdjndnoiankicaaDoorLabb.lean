/- Package label: Join, Meet, Parse: what they return. No conditions. -/
import Derived.Test.YtdjndnoiankicaaDoorLab
namespace Go.Proofs.YtdjndnoiankicaaDoor
open Go.RowKit Go.Shelf
set_option linter.unusedSimpArgs false
set_option linter.unusedVariables false
attribute [local go_sem] cell_over frozen_over

/-- A row of labels that is read. -/
def LabsAt (w : World) (A : Option Addr) (l : List Lab.L) : Prop := l = [] ∨ ∃ b off, A = some ⟨b, off, none⟩ ∧ ∀ i (h : i < l.length), w.cell? ⟨b, off + i * 2, none⟩ = some (.int .u16 (l[i].1 : Int)) ∧ w.cell? ⟨b, off + i * 2 + 1, none⟩ = some (.int .u16 (l[i].2 : Int))
theorem LabsAt.below {w W : World} {A : Option Addr} {l : List Lab.L} (h : LabsAt w A l) (hb : Below w.heap.size w W) : LabsAt W A l := by
  rcases h with h | ⟨b, off, h1, h2⟩
  · exact .inl h
  · exact .inr ⟨b, off, h1, fun i hi => ⟨cell_on (h2 i hi).1 hb, cell_on (h2 i hi).2 hb⟩⟩
set_option maxRecDepth 100000 in
set_option maxHeartbeats 1000000 in
theorem ljoin_ok (A : Option Addr) (c : Nat) (l : List Lab.L) (hl : l.length ≤ 4611686018427387904) (hok : ∀ a ∈ l, Lab.ok a) (w : World) (hA : LabsAt w A l) :
    Calls Tryd.prog 22 #[.slice A l.length c] w fun e w' => e = .returned (labV (Lab.join l)) ∧ Below w.heap.size w w' := by
  have HA := Lib.hid hA
  have HOK := Lib.hid hok
  clear hA hok
  go_enter Tryd.func22, Tryd.ntmps22
  go_wp2_with (go_at_call 17; refine (bottom_ok _).mono ?_; rintro e w1 ⟨rfl, hb1⟩)
  obtain ⟨B, hB⟩ : ∃ B, B = w1.heap.size := ⟨_, rfl⟩
  have hblk : ((w1.alloc (.cells #[.int .u16 (Lab.bot.1 : Int), .int .u16 (Lab.bot.2 : Int)] 24)).heap[B]? = some (.cells #[.int .u16 (Lab.bot.1 : Int), .int .u16 (Lab.bot.2 : Int)] 24 (0, 0))) := by rw [hB]; exact heap_alloc_new _ _
  have hsz := hb1.size
  rw [World.size_alloc] at hsz
  have HB1 : Hid (Below w.heap.size w (w1.alloc (.cells #[.int .u16 (Lab.bot.1 : Int), .int .u16 (Lab.bot.2 : Int)] 24))) := Lib.hid (below_new (below_here (below_new (Below.refl _ _) _) hb1) _)
  have hrc : w1.heap[w.heap.size]? = some (.cells #[.int .u16 0, .int .u16 0] 24 (0, 0)) := block_below hb1 (heap_alloc_new _ _)
  have hrc2 : (w1.alloc (.cells #[.int .u16 (Lab.bot.1 : Int), .int .u16 (Lab.bot.2 : Int)] 24)).heap[w.heap.size]? = some (.cells #[.int .u16 0, .int .u16 0] 24 (0, 0)) := by
    rw [Below.heap_alloc _ _ _ (by omega)]; exact hrc
  have HR := Lib.hid hrc2
  have HK := Lib.hid hblk
  have HBB := Lib.hid hB
  have hBw : w.heap.size + 1 ≤ B := by omega
  rw [← hB]
  obtain ⟨w2, hw2⟩ : ∃ w2, w2 = w1.alloc (.cells #[.int .u16 (Lab.bot.1 : Int), .int .u16 (Lab.bot.2 : Int)] 24) := ⟨_, rfl⟩
  rw [← hw2] at HB1 HR HK ⊢
  clear hw2 hrc2 hrc hblk hB hb1 hsz
  go_loopw [5, 9] (fun p i wr => ∃ (k : Nat) (o : Lab.L), i = .int .i64 (k : Int) ∧ k ≤ l.length ∧ Lab.ok o ∧ Hid (o = (l.take k).foldl Lab.joinTo Lab.bot) ∧ Hid (wr.heap[B]? = some (.cells #[.int .u16 (o.1 : Int), .int .u16 (o.2 : Int)] 24 (0, 0))) ∧ Hid (wr.heap[w.heap.size]? = some (.cells #[.int .u16 0, .int .u16 0] 24 (0, 0))) ∧ Hid (Below w.heap.size w wr)) (fun _ i _ => l.length - (intOf i).toNat)
  case atStart => exact ⟨0, Lab.bot, rfl, by omega, Lab.bot_ok, Lib.hid rfl, HK, HR, HB1⟩
  case round =>
    obtain ⟨k, o, rfl, hk, ho, hf, hK1, hR1, hB1⟩ := hrel
    obtain ⟨c0, c1, f0, f1⟩ := pair_cells hK1.out
    obtain ⟨r0, r1, q0, q1⟩ := pair_cells hR1.out
    have hlt : B < wr.heap.size := World.block_lt_of_cell? wr _ c0
    have f1' : ∀ v, (wr.setCell ⟨B, 0, none⟩ v).frozen? ⟨B, 1, none⟩ = false := fun v => (pair_cells (pair_set0 hK1.out)).2.2.2
    have f1'' : ∀ v o, ((wr.setCell ⟨B, 0, none⟩ v).alloc o).frozen? ⟨B, 1, none⟩ = false := fun v o => (pair_cells (by rw [Below.heap_alloc _ _ _ (by simpa using hlt)]; exact pair_set0 hK1.out)).2.2.2
    have q1' : ∀ v, (wr.setCell ⟨w.heap.size, 0, none⟩ v).frozen? ⟨w.heap.size, 1, none⟩ = false := fun v => (pair_cells (pair_set0 hR1.out)).2.2.2
    by_cases hkl : k = l.length
    · subst hkl
      have hne : B ≠ w.heap.size := by omega
      have HJO : Hid (o = Lab.join l) := Lib.hid (by rw [hf.out, List.take_length]; rfl)
      go_wp2_with fail
      have hW := pair_set1 (v := .int .u16 (o.2 : Int)) (pair_set0 (v := .int .u16 (o.1 : Int)) hR1.out)
      obtain ⟨z0, z1, _, _⟩ := pair_cells hW
      refine bodyPost_ret (v := labV o) (by simp [results, Tryd.results22, go_sem, z0, z1]) rfl ⟨by rw [HJO.out], ?_⟩
      exact (hB1.out.setCell (p := ⟨w.heap.size, 0, none⟩) (Nat.le_refl _) _).setCell (p := ⟨w.heap.size, 1, none⟩) (Nat.le_refl _) _
    · have hkn : k < l.length := by omega
      have hki : (k : Int) < (l.length : Int) := by omega
      obtain ⟨b, off, rfl, hcs⟩ : ∃ b off, A = some ⟨b, off, none⟩ ∧ wr.cell? ⟨b, off + k * 2, none⟩ = some (.int .u16 (l[k].1 : Int)) ∧ wr.cell? ⟨b, off + k * 2 + 1, none⟩ = some (.int .u16 (l[k].2 : Int)) := by
        rcases (HA.out.below hB1.out) with h | ⟨b, off, h1, h2⟩
        · rw [h] at hkn; simp at hkn
        · exact ⟨b, off, h1, h2 k hkn⟩
      obtain ⟨e0, e1⟩ := hcs
      have hok := HOK.out _ (List.getElem_mem hkn)
      have hnext : (l.take (k + 1)).foldl Lab.joinTo Lab.bot = Lab.joinTo o l[k] := by
        rw [List.take_succ_eq_append_getElem hkn, List.foldl_append, ← hf.out]; rfl
      have hn := Lab.joinTo_ok ho hok
      generalize l[k] = x at e0 e1 hok hnext hn
      have HN := Lib.hid hnext
      have hv1 : bits .or .u16 (o.1 : Int) (x.1 : Int) = ((Lab.joinTo o x).1 : Int) := u16_or o.1 x.1 ho.1 hok.1
      have hv2 : bits .and .u16 (o.2 : Int) (x.2 : Int) = ((Lab.joinTo o x).2 : Int) := u16_and o.2 x.2 ho.2 hok.2
      generalize Lab.joinTo o x = o' at hv1 hv2 HN hn
      clear hkl hnext
      go_wp2_with fail
      go_roundw
      case rel =>
        have hne : w.heap.size ≠ B := by omega
        refine ⟨k + 1, o', by go_num, by omega, hn, Lib.hid HN.out.symm, Lib.hid ?_, Lib.hid ?_, Lib.hid ?_⟩
        · rw [Below.heap_alloc _ _ _ (by simpa using hlt)]
          exact pair_set1 (pair_set0 hK1.out)
        · rw [Below.heap_alloc _ _ _ (by simp; omega), Below.heap_setCell _ ⟨B, 1, none⟩ _ _ hne, Below.heap_setCell _ ⟨B, 0, none⟩ _ _ hne]
          exact hR1.out
        · exact below_new ((hB1.out.setCell (p := ⟨B, 0, none⟩) (by show w.heap.size ≤ B; omega) _).setCell (p := ⟨B, 1, none⟩) (by show w.heap.size ≤ B; omega) _) _
      case measure => simp [intOf]; omega
set_option maxRecDepth 100000 in
set_option maxHeartbeats 1000000 in
theorem lmeet_ok (A : Option Addr) (c : Nat) (l : List Lab.L) (hl : l.length ≤ 4611686018427387904) (hok : ∀ a ∈ l, Lab.ok a) (w : World) (hA : LabsAt w A l) :
    Calls Tryd.prog 24 #[.slice A l.length c] w fun e w' => e = .returned (labV (Lab.meet l)) ∧ Below w.heap.size w w' := by
  have HA := Lib.hid hA
  have HOK := Lib.hid hok
  clear hA hok
  go_enter Tryd.func24, Tryd.ntmps24
  go_wp2_with (go_at_call 19; refine (top_ok _).mono ?_; rintro e w1 ⟨rfl, hb1⟩)
  obtain ⟨B, hB⟩ : ∃ B, B = w1.heap.size := ⟨_, rfl⟩
  have hblk : ((w1.alloc (.cells #[.int .u16 (Lab.top.1 : Int), .int .u16 (Lab.top.2 : Int)] 24)).heap[B]? = some (.cells #[.int .u16 (Lab.top.1 : Int), .int .u16 (Lab.top.2 : Int)] 24 (0, 0))) := by rw [hB]; exact heap_alloc_new _ _
  have hsz := hb1.size
  rw [World.size_alloc] at hsz
  have HB1 : Hid (Below w.heap.size w (w1.alloc (.cells #[.int .u16 (Lab.top.1 : Int), .int .u16 (Lab.top.2 : Int)] 24))) := Lib.hid (below_new (below_here (below_new (Below.refl _ _) _) hb1) _)
  have hrc : w1.heap[w.heap.size]? = some (.cells #[.int .u16 0, .int .u16 0] 24 (0, 0)) := block_below hb1 (heap_alloc_new _ _)
  have hrc2 : (w1.alloc (.cells #[.int .u16 (Lab.top.1 : Int), .int .u16 (Lab.top.2 : Int)] 24)).heap[w.heap.size]? = some (.cells #[.int .u16 0, .int .u16 0] 24 (0, 0)) := by
    rw [Below.heap_alloc _ _ _ (by omega)]; exact hrc
  have HR := Lib.hid hrc2
  have HK := Lib.hid hblk
  have HBB := Lib.hid hB
  have hBw : w.heap.size + 1 ≤ B := by omega
  rw [← hB]
  obtain ⟨w2, hw2⟩ : ∃ w2, w2 = w1.alloc (.cells #[.int .u16 (Lab.top.1 : Int), .int .u16 (Lab.top.2 : Int)] 24) := ⟨_, rfl⟩
  rw [← hw2] at HB1 HR HK ⊢
  clear hw2 hrc2 hrc hblk hB hb1 hsz
  go_loopw [5, 9] (fun p i wr => ∃ (k : Nat) (o : Lab.L), i = .int .i64 (k : Int) ∧ k ≤ l.length ∧ Lab.ok o ∧ Hid (o = (l.take k).foldl Lab.meetTo Lab.top) ∧ Hid (wr.heap[B]? = some (.cells #[.int .u16 (o.1 : Int), .int .u16 (o.2 : Int)] 24 (0, 0))) ∧ Hid (wr.heap[w.heap.size]? = some (.cells #[.int .u16 0, .int .u16 0] 24 (0, 0))) ∧ Hid (Below w.heap.size w wr)) (fun _ i _ => l.length - (intOf i).toNat)
  case atStart => exact ⟨0, Lab.top, rfl, by omega, Lab.top_ok, Lib.hid rfl, HK, HR, HB1⟩
  case round =>
    obtain ⟨k, o, rfl, hk, ho, hf, hK1, hR1, hB1⟩ := hrel
    obtain ⟨c0, c1, f0, f1⟩ := pair_cells hK1.out
    obtain ⟨r0, r1, q0, q1⟩ := pair_cells hR1.out
    have hlt : B < wr.heap.size := World.block_lt_of_cell? wr _ c0
    have f1' : ∀ v, (wr.setCell ⟨B, 0, none⟩ v).frozen? ⟨B, 1, none⟩ = false := fun v => (pair_cells (pair_set0 hK1.out)).2.2.2
    have f1'' : ∀ v o, ((wr.setCell ⟨B, 0, none⟩ v).alloc o).frozen? ⟨B, 1, none⟩ = false := fun v o => (pair_cells (by rw [Below.heap_alloc _ _ _ (by simpa using hlt)]; exact pair_set0 hK1.out)).2.2.2
    have q1' : ∀ v, (wr.setCell ⟨w.heap.size, 0, none⟩ v).frozen? ⟨w.heap.size, 1, none⟩ = false := fun v => (pair_cells (pair_set0 hR1.out)).2.2.2
    by_cases hkl : k = l.length
    · subst hkl
      have hne : B ≠ w.heap.size := by omega
      have HJO : Hid (o = Lab.meet l) := Lib.hid (by rw [hf.out, List.take_length]; rfl)
      go_wp2_with fail
      have hW := pair_set1 (v := .int .u16 (o.2 : Int)) (pair_set0 (v := .int .u16 (o.1 : Int)) hR1.out)
      obtain ⟨z0, z1, _, _⟩ := pair_cells hW
      refine bodyPost_ret (v := labV o) (by simp [results, Tryd.results24, go_sem, z0, z1]) rfl ⟨by rw [HJO.out], ?_⟩
      exact (hB1.out.setCell (p := ⟨w.heap.size, 0, none⟩) (Nat.le_refl _) _).setCell (p := ⟨w.heap.size, 1, none⟩) (Nat.le_refl _) _
    · have hkn : k < l.length := by omega
      have hki : (k : Int) < (l.length : Int) := by omega
      obtain ⟨b, off, rfl, hcs⟩ : ∃ b off, A = some ⟨b, off, none⟩ ∧ wr.cell? ⟨b, off + k * 2, none⟩ = some (.int .u16 (l[k].1 : Int)) ∧ wr.cell? ⟨b, off + k * 2 + 1, none⟩ = some (.int .u16 (l[k].2 : Int)) := by
        rcases (HA.out.below hB1.out) with h | ⟨b, off, h1, h2⟩
        · rw [h] at hkn; simp at hkn
        · exact ⟨b, off, h1, h2 k hkn⟩
      obtain ⟨e0, e1⟩ := hcs
      have hok := HOK.out _ (List.getElem_mem hkn)
      have hnext : (l.take (k + 1)).foldl Lab.meetTo Lab.top = Lab.meetTo o l[k] := by
        rw [List.take_succ_eq_append_getElem hkn, List.foldl_append, ← hf.out]; rfl
      have hn := Lab.meetTo_ok ho hok
      generalize l[k] = x at e0 e1 hok hnext hn
      have HN := Lib.hid hnext
      have hv1 : bits .and .u16 (o.1 : Int) (x.1 : Int) = ((Lab.meetTo o x).1 : Int) := u16_and o.1 x.1 ho.1 hok.1
      have hv2 : bits .or .u16 (o.2 : Int) (x.2 : Int) = ((Lab.meetTo o x).2 : Int) := u16_or o.2 x.2 ho.2 hok.2
      generalize Lab.meetTo o x = o' at hv1 hv2 HN hn
      clear hkl hnext
      go_wp2_with fail
      go_roundw
      case rel =>
        have hne : w.heap.size ≠ B := by omega
        refine ⟨k + 1, o', by go_num, by omega, hn, Lib.hid HN.out.symm, Lib.hid ?_, Lib.hid ?_, Lib.hid ?_⟩
        · rw [Below.heap_alloc _ _ _ (by simpa using hlt)]
          exact pair_set1 (pair_set0 hK1.out)
        · rw [Below.heap_alloc _ _ _ (by simp; omega), Below.heap_setCell _ ⟨B, 1, none⟩ _ _ hne, Below.heap_setCell _ ⟨B, 0, none⟩ _ _ hne]
          exact hR1.out
        · exact below_new ((hB1.out.setCell (p := ⟨B, 0, none⟩) (by show w.heap.size ≤ B; omega) _).setCell (p := ⟨B, 1, none⟩) (by show w.heap.size ≤ B; omega) _) _
      case measure => simp [intOf]; omega
end Go.Proofs.YtdjndnoiankicaaDoor
