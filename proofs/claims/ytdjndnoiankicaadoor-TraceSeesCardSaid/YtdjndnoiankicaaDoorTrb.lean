/- Package trace: Parse: what it returns. Package trace: Parse at five words. Package trace: Parse: what it returns; Crosses. No conditions. -/
import Derived.Test.YtdjndnoiankicaaDoorTra
import Derived.Test.YtdjndnoiankicaaDoorIparse
import Derived.Lib.AtoiAllCases
import Derived.Test.YtdjndnoiankicaaDoorFree
import Derived.Test.YtdjndnoiankicaaDoorLorder
namespace Go.Proofs.YtdjndnoiankicaaDoor
open Go.RowKit Go.Shelf
set_option linter.unusedSimpArgs false
set_option linter.unusedVariables false
attribute [local go_sem] cell_over frozen_over

namespace Tr
def sp : ByteArray := ⟨#[32]⟩
def words (s : ByteArray) : List ByteArray := Lib.splitB sp 0 (Lib.countB s sp) s
def cand5 (a b c d e : ByteArray) : Option E :=
  if a.size ≤ 6 ∧ d.size ≤ 6 ∧ e.size ≤ 510 then
    match Lib.atoiAll a.data.toList, Lib.atoiAll d.data.toList with
    | .ok x, .ok y => if (Idn.parse b.data.toList).2 = 0 ∧ (Lab.parse c.data.toList).2 = 0 ∧ 0 ≤ x ∧ 0 ≤ y then some (x, (Idn.parse b.data.toList).1, (Lab.parse c.data.toList).1, y, ⟨(unhex e.data.toList).toArray⟩) else none
    | _, _ => none
  else none
def cand (s : ByteArray) : Option E := match words s with
  | [a, b, c, d, e] => cand5 a b c d e
  | _ => none
def fin (s : ByteArray) : Option E → E × Int
  | some x => if line x = s.data.toList then (x, 0) else (zero, 3)
  | none => (zero, 3)
def parse (s : ByteArray) : E × Int := fin s (cand s)
theorem words_len (s : ByteArray) : (words s).length = Lib.countB s sp + 1 := Lib.splitB_all sp (by decide) 0 _ s rfl
theorem words_size (s : ByteArray) : ∀ p ∈ words s, p.size ≤ s.size := fun p hp => Tag.splitB_size sp _ s p hp
end Tr
theorem words_ok (s : ByteArray) (hs : s.size ≤ 1000000) (w : World) (hL : LaidAt w) : Calls Tryd.prog 73 #[.string s, .string ⟨#[32]⟩] w fun e w' => ∃ b, e = .returned (.slice (some ⟨b, 0, none⟩) (Tr.words s).length (Tr.words s).length) ∧ w'.heap[b]? = some (.cells ((Tr.words s).map Value.string).toArray 9 (0, 0)) ∧ Below w.heap.size w w' := by
  obtain ⟨m, hm⟩ := hL.max
  exact (Tryd.strings_Split s Tr.sp m w (by omega) hm (by decide)).mono fun e w' ⟨h1, h2⟩ => ⟨w.heap.size, by rw [h1, Tr.words_len], by rw [h2]; exact heap_alloc_new _ _, by rw [h2]; exact below_fresh _ _⟩
theorem set_nine (W : World) (b : Nat) (t : TypeId) (x0 x1 x2 x3 x4 x5 x6 x7 x8 y0 y1 y2 y3 y4 y5 y6 y7 y8 : Value) (h : W.heap[b]? = some (.cells #[x0, x1, x2, x3, x4, x5, x6, x7, x8] t (0, 0))) : (((((((((W.setCell ⟨b, 0, none⟩ y0).setCell ⟨b, 1, none⟩ y1).setCell ⟨b, 2, none⟩ y2).setCell ⟨b, 3, none⟩ y3).setCell ⟨b, 4, none⟩ y4).setCell ⟨b, 5, none⟩ y5).setCell ⟨b, 6, none⟩ y6).setCell ⟨b, 7, none⟩ y7).setCell ⟨b, 8, none⟩ y8).heap[b]? = some (.cells #[y0, y1, y2, y3, y4, y5, y6, y7, y8] t (0, 0)) :=
  heap_setCells_same b t [y0, y1, y2, y3, y4, y5, y6, y7, y8] 0 W [x0, x1, x2, x3, x4, x5, x6, x7, x8] h (by simp)
theorem keep_nine {W : World} {k b : Nat} {o : Obj} (h : k ≠ b) (y0 y1 y2 y3 y4 y5 y6 y7 y8 : Value) (hk : W.heap[k]? = some o) : (((((((((W.setCell ⟨b, 0, none⟩ y0).setCell ⟨b, 1, none⟩ y1).setCell ⟨b, 2, none⟩ y2).setCell ⟨b, 3, none⟩ y3).setCell ⟨b, 4, none⟩ y4).setCell ⟨b, 5, none⟩ y5).setCell ⟨b, 6, none⟩ y6).setCell ⟨b, 7, none⟩ y7).setCell ⟨b, 8, none⟩ y8).heap[k]? = some o := (heap_setCells_other b [y0, y1, y2, y3, y4, y5, y6, y7, y8] 0 W k h).trans hk
theorem below_nine {B : Nat} {w W : World} (h : Below B w W) {b : Nat} (hb : B ≤ b) (y0 y1 y2 y3 y4 y5 y6 y7 y8 : Value) : Below B w (((((((((W.setCell ⟨b, 0, none⟩ y0).setCell ⟨b, 1, none⟩ y1).setCell ⟨b, 2, none⟩ y2).setCell ⟨b, 3, none⟩ y3).setCell ⟨b, 4, none⟩ y4).setCell ⟨b, 5, none⟩ y5).setCell ⟨b, 6, none⟩ y6).setCell ⟨b, 7, none⟩ y7).setCell ⟨b, 8, none⟩ y8) := below_setCells h hb 0 [y0, y1, y2, y3, y4, y5, y6, y7, y8]
theorem nine_cells {W : World} {b : Nat} {t : TypeId} {x0 x1 x2 x3 x4 x5 x6 x7 x8 : Value} (h : W.heap[b]? = some (.cells #[x0, x1, x2, x3, x4, x5, x6, x7, x8] t (0, 0))) : (W.cell? ⟨b, 0, none⟩ = some x0 ∧ W.cell? ⟨b, 1, none⟩ = some x1 ∧ W.cell? ⟨b, 2, none⟩ = some x2 ∧ W.cell? ⟨b, 3, none⟩ = some x3 ∧ W.cell? ⟨b, 4, none⟩ = some x4 ∧ W.cell? ⟨b, 5, none⟩ = some x5 ∧ W.cell? ⟨b, 6, none⟩ = some x6 ∧ W.cell? ⟨b, 7, none⟩ = some x7 ∧ W.cell? ⟨b, 8, none⟩ = some x8) ∧ (W.frozen? ⟨b, 0, none⟩ = false ∧ W.frozen? ⟨b, 1, none⟩ = false ∧ W.frozen? ⟨b, 2, none⟩ = false ∧ W.frozen? ⟨b, 3, none⟩ = false ∧ W.frozen? ⟨b, 4, none⟩ = false ∧ W.frozen? ⟨b, 5, none⟩ = false ∧ W.frozen? ⟨b, 6, none⟩ = false ∧ W.frozen? ⟨b, 7, none⟩ = false ∧ W.frozen? ⟨b, 8, none⟩ = false) ∧ b < W.heap.size :=
  ⟨⟨cell_of_row W b 0 _ t (0, 0) h, cell_of_row W b 1 _ t (0, 0) h, cell_of_row W b 2 _ t (0, 0) h, cell_of_row W b 3 _ t (0, 0) h, cell_of_row W b 4 _ t (0, 0) h, cell_of_row W b 5 _ t (0, 0) h, cell_of_row W b 6 _ t (0, 0) h, cell_of_row W b 7 _ t (0, 0) h, cell_of_row W b 8 _ t (0, 0) h⟩, ⟨by simp [World.frozen?, h], by simp [World.frozen?, h], by simp [World.frozen?, h], by simp [World.frozen?, h], by simp [World.frozen?, h], by simp [World.frozen?, h], by simp [World.frozen?, h], by simp [World.frozen?, h], by simp [World.frozen?, h]⟩, (Array.getElem?_eq_some_iff.1 h).1⟩
theorem five_cells {W : World} {b : Nat} {t : TypeId} {x0 x1 x2 x3 x4 : Value} (h : W.heap[b]? = some (.cells #[x0, x1, x2, x3, x4] t (0, 0))) : W.cell? ⟨b, 0, none⟩ = some x0 ∧ W.cell? ⟨b, 1, none⟩ = some x1 ∧ W.cell? ⟨b, 2, none⟩ = some x2 ∧ W.cell? ⟨b, 3, none⟩ = some x3 ∧ W.cell? ⟨b, 4, none⟩ = some x4 ∧ b < W.heap.size :=
  ⟨cell_of_row W b 0 _ t (0, 0) h, cell_of_row W b 1 _ t (0, 0) h, cell_of_row W b 2 _ t (0, 0) h, cell_of_row W b 3 _ t (0, 0) h, cell_of_row W b 4 _ t (0, 0) h, (Array.getElem?_eq_some_iff.1 h).1⟩
theorem info_ent : (Tryd.prog.info? 79).map (·.size) = some 9 := by kernel_rfl
theorem ent_ret2 {fn : Func} {a : Act} {W : World} {R : Ending → World → Prop} {p u : Tmp} (h : fn.results = #[.cell p 79, .tmp u]) (b : Nat) (hp : a.tmps.getD p undef = .pointer (some ⟨b, 0, none⟩)) (x0 x1 x2 x3 x4 x5 x6 x7 x8 : Value)
    (hb : W.heap[b]? = some (.cells #[x0, x1, x2, x3, x4, x5, x6, x7, x8] 79 (0, 0))) (hdf : a.defers = []) (hR : R (.returned (.tuple #[.agg #[x0, x1, x2, x3, x4, x5, x6, x7, x8], a.tmps.getD u undef])) W) : bodyPost Tryd.prog fn R .ret a W :=
  ret_cell_tmp h b 0 hp [x0, x1, x2, x3, x4, x5, x6, x7, x8] _ (range_of_block hb 0 _ fun j _ => by rw [Nat.zero_add]) Tryd.underlying79 rfl info_ent hdf hR
/-- What the function knows before it looks at the words. -/
structure Ptr (r P : Nat) (a b c d e : ByteArray) (W : World) : Prop where
  res : W.heap[r]? = some (.cells #[.int .i64 0, .int .u16 0, .int .u16 0, .int .i64 0, .int .i64 0, .int .u16 0, .int .u16 0, .int .i64 0, .string ⟨#[]⟩] 79 (0, 0))
  row : W.heap[P]? = some (.cells #[.string a, .string b, .string c, .string d, .string e] 9 (0, 0))
theorem Ptr.below {r P : Nat} {a b c d e : ByteArray} {W W' : World} (h : Ptr r P a b c d e W) (hb : Below W.heap.size W W') : Ptr r P a b c d e W' := ⟨block_below hb h.res, block_below hb h.row⟩
set_option maxRecDepth 100000 in
set_option maxHeartbeats 4000000 in
theorem trparse_no (s : ByteArray) (hs : s.size ≤ 1000) (hn : (Tr.words s).length ≠ 5) (w : World) (hL : LaidAt w) :
    Calls Tryd.prog 55 #[.string s] w fun e w' => e = .returned (.tuple #[trV Tr.zero, .int .i64 3]) ∧ Below w.heap.size w w' := by
  have hb0 := below_fresh w (.cells #[.int .i64 0, .int .u16 0, .int .u16 0, .int .i64 0, .int .i64 0, .int .u16 0, .int .u16 0, .int .i64 0, .string ⟨#[]⟩] 79)
  have HR := Lib.hid (heap_alloc_new w (.cells #[.int .i64 0, .int .u16 0, .int .u16 0, .int .i64 0, .int .i64 0, .int .u16 0, .int .u16 0, .int .i64 0, .string ⟨#[]⟩] 79))
  have HB0 := Lib.hid hb0
  have HS := Lib.hid (words_ok s (by omega) _ (hL.below hb0))
  generalize (Tr.words s).length = n at hn HS
  have hn' : ¬ (n : Int) = 5 := by omega
  clear hb0 hL hn
  go_enter Tryd.func55, Tryd.ntmps55
  go_wp2_with (go_at_call 73; refine HS.out.mono ?_; rintro e w1 ⟨P, rfl, hP, hb1⟩; have hr1 := block_below hb1 HR.out; have HR1 := Lib.hid hr1; have HB1 := Lib.hid hb1; obtain ⟨⟨x0, x1, x2, x3, x4, x5, x6, x7, x8⟩, ⟨z0, z1, z2, z3, z4, z5, z6, z7, z8⟩, hlt⟩ := nine_cells hr1; clear hr1 hP hb1)
  refine ent_ret2 Tryd.results55 w.heap.size rfl _ _ _ _ _ _ _ _ _ (set_nine _ _ _ _ _ _ _ _ _ _ _ _ _ _ _ _ _ _ _ _ _ HR1.out) rfl ⟨rfl, below_nine (below_here HB0.out HB1.out) (Nat.le_refl _) _ _ _ _ _ _ _ _ _⟩
/-- What Atoi tells of a text. -/
def AtoiP (p : ByteArray) (v : Int) (ev : Value) : Prop := (Lib.atoiAll p.data.toList = .ok v ∧ ev = .nilIface ∧ v ≤ 9223372036854775807) ∨ ((∀ u, Lib.atoiAll p.data.toList ≠ .ok u) ∧ ∃ t N, ev = .iface t (.pointer (some ⟨N, 0, none⟩)))
theorem atoi_any (p : ByteArray) (hp : p.size ≤ 1000) (w : World) (hL : LaidAt w) : Calls Tryd.prog 74 #[.string p] w fun e w' => ∃ v ev, e = .returned (.tuple #[.int .i64 v, ev]) ∧ AtoiP p v ev ∧ Below w.heap.size w w' := by
  by_cases h : ∃ v, Lib.atoiAll p.data.toList = .ok v
  · obtain ⟨v, hv⟩ := h
    exact (atoi_ok p hp v hv w).mono fun e w' ⟨h1, h2⟩ => ⟨v, _, h1, .inl ⟨hv, rfl, (Lib.atoiAll_bounds hv).2⟩, h2⟩
  · have h' : ∀ u, Lib.atoiAll p.data.toList ≠ .ok u := fun u hu => h ⟨u, hu⟩
    exact (atoi_bad p hp h' w hL).mono fun e w' ⟨v, t, N, h1, h2⟩ => ⟨v, _, h1, .inr ⟨h', t, N, rfl⟩, h2⟩
theorem idn_parse_e (l : List UInt8) : (Idn.parse l).2 = 0 ∨ (Idn.parse l).2 = 3 := by unfold Idn.parse; split <;> (try split) <;> (try split) <;> simp
theorem idn_parse_lab (l : List UInt8) : Lab.ok (Idn.parse l).1.1 := by
  unfold Idn.parse
  split
  · exact ⟨by decide, by decide⟩
  · split
    · exact ⟨by decide, by decide⟩
    · split
      · exact lab_parse_lab _
      · exact ⟨by decide, by decide⟩
/-- The seven ways at the test behind the calls. -/
theorem tr_ways {a b c d e : ByteArray} (ha : a.size ≤ 6) (hd : d.size ≤ 6) (he : e.size ≤ 510) {v1 v2 : Int} {ev1 ev2 : Value} (h1 : AtoiP a v1 ev1) (h2 : AtoiP d v2 ev2) :
    (Tr.cand5 a b c d e = none ∧ ((∃ t N, ev1 = .iface t (.pointer (some ⟨N, 0, none⟩))) ∨ (ev1 = .nilIface ∧ ∃ t N, ev2 = .iface t (.pointer (some ⟨N, 0, none⟩))) ∨ (ev1 = .nilIface ∧ ev2 = .nilIface ∧ (Idn.parse b.data.toList).2 = 3) ∨ (ev1 = .nilIface ∧ ev2 = .nilIface ∧ (Idn.parse b.data.toList).2 = 0 ∧ (Lab.parse c.data.toList).2 = 3) ∨ (ev1 = .nilIface ∧ ev2 = .nilIface ∧ (Idn.parse b.data.toList).2 = 0 ∧ (Lab.parse c.data.toList).2 = 0 ∧ v1 < 0) ∨ (ev1 = .nilIface ∧ ev2 = .nilIface ∧ (Idn.parse b.data.toList).2 = 0 ∧ (Lab.parse c.data.toList).2 = 0 ∧ 0 ≤ v1 ∧ v2 < 0))) ∨
    (Tr.cand5 a b c d e = some (v1, (Idn.parse b.data.toList).1, (Lab.parse c.data.toList).1, v2, ⟨(Tr.unhex e.data.toList).toArray⟩) ∧ ev1 = .nilIface ∧ ev2 = .nilIface ∧ (Idn.parse b.data.toList).2 = 0 ∧ (Lab.parse c.data.toList).2 = 0 ∧ 0 ≤ v1 ∧ 0 ≤ v2 ∧ v1 ≤ 9223372036854775807 ∧ v2 ≤ 9223372036854775807) := by
  unfold Tr.cand5
  rw [if_pos ⟨ha, hd, he⟩]
  rcases h1 with ⟨h1, rfl, b1⟩ | ⟨h1, t, N, rfl⟩
  · rcases h2 with ⟨h2, rfl, b2⟩ | ⟨h2, t, N, rfl⟩
    · rw [h1, h2]
      dsimp only
      rcases idn_parse_e b.data.toList with e1 | e1
      · rcases lab_parse_e c.data.toList with e2 | e2
        · by_cases hv1 : 0 ≤ v1
          · by_cases hv2 : 0 ≤ v2
            · rw [if_pos ⟨e1, e2, hv1, hv2⟩]; exact .inr ⟨rfl, rfl, rfl, e1, e2, hv1, hv2, b1, b2⟩
            · rw [if_neg (fun h => hv2 h.2.2.2)]; exact .inl ⟨rfl, .inr (.inr (.inr (.inr (.inr ⟨rfl, rfl, e1, e2, hv1, by omega⟩))))⟩
          · rw [if_neg (fun h => hv1 h.2.2.1)]; exact .inl ⟨rfl, .inr (.inr (.inr (.inr (.inl ⟨rfl, rfl, e1, e2, by omega⟩))))⟩
        · rw [if_neg (fun h => by rw [e2] at h; exact absurd h.2.1 (by decide))]; exact .inl ⟨rfl, .inr (.inr (.inr (.inl ⟨rfl, rfl, e1, e2⟩)))⟩
      · rw [if_neg (fun h => by rw [e1] at h; exact absurd h.1 (by decide))]; exact .inl ⟨rfl, .inr (.inr (.inl ⟨rfl, rfl, e1⟩))⟩
    · refine .inl ⟨?_, .inr (.inl ⟨rfl, t, N, rfl⟩)⟩
      rw [h1]
      cases e3 : Lib.atoiAll d.data.toList with
      | ok u => exact absurd e3 (h2 u)
      | range => rfl
      | _ => rfl
  · refine .inl ⟨?_, .inl ⟨t, N, rfl⟩⟩
    cases e3 : Lib.atoiAll a.data.toList with
    | ok u => exact absurd e3 (h1 u)
    | range => rfl
    | _ => rfl
end Go.Proofs.YtdjndnoiankicaaDoor
namespace Go.Proofs.YtdjndnoiankicaaDoor
open Go.RowKit Go.Shelf
set_option linter.unusedSimpArgs false
set_option linter.unusedVariables false
attribute [local go_sem] cell_over frozen_over

set_option maxRecDepth 100000 in
set_option maxHeartbeats 4000000 in
theorem trparse_sz (s : ByteArray) (hs : s.size ≤ 1000) (a b c d e : ByteArray) (hw : Tr.words s = [a, b, c, d, e]) (hz : ¬ (a.size ≤ 6 ∧ d.size ≤ 6 ∧ e.size ≤ 510)) (w : World) (hL : LaidAt w) :
    Calls Tryd.prog 55 #[.string s] w fun e w' => e = .returned (.tuple #[trV Tr.zero, .int .i64 3]) ∧ Below w.heap.size w w' := by
  have hb0 := below_fresh w (.cells #[.int .i64 0, .int .u16 0, .int .u16 0, .int .i64 0, .int .i64 0, .int .u16 0, .int .u16 0, .int .i64 0, .string ⟨#[]⟩] 79)
  have HR := Lib.hid (heap_alloc_new w (.cells #[.int .i64 0, .int .u16 0, .int .u16 0, .int .i64 0, .int .i64 0, .int .u16 0, .int .u16 0, .int .i64 0, .string ⟨#[]⟩] 79))
  have HB0 := Lib.hid hb0
  have HS := Lib.hid (words_ok s (by omega) _ (hL.below hb0))
  rw [hw] at HS
  simp only [List.map_cons, List.map_nil, List.length_cons, List.length_nil, Nat.reduceAdd] at HS
  have HLw := Lib.hid hL
  clear hb0 hL
  have hway : 6 < a.size ∨ (a.size ≤ 6 ∧ 6 < d.size) ∨ (a.size ≤ 6 ∧ d.size ≤ 6 ∧ 510 < e.size) := by omega
  clear hz hw
  rcases hway with h1 | ⟨h1, h2⟩ | ⟨h1, h2, h3⟩
  · have g1 : (6 : Int) < a.size := by omega
    clear h1
    go_enter Tryd.func55, Tryd.ntmps55
    go_wp2_with fail
    refine HS.out.mono ?_
    rintro r w1 ⟨P, rfl, hP, hb1⟩
    have HP1 := Lib.hid (show Ptr w.heap.size P a b c d e w1 from ⟨block_below hb1 HR.out, hP⟩)
    have HB1 := Lib.hid (below_here HB0.out hb1)
    clear hP hb1
    obtain ⟨⟨x0, x1, x2, x3, x4, x5, x6, x7, x8⟩, ⟨z0, z1, z2, z3, z4, z5, z6, z7, z8⟩, hlt⟩ := nine_cells HP1.out.res
    obtain ⟨p0, p1, p2, p3, p4, hpl⟩ := five_cells HP1.out.row
    go_wp2_with fail
    refine ent_ret2 Tryd.results55 w.heap.size rfl _ _ _ _ _ _ _ _ _ (set_nine _ _ _ _ _ _ _ _ _ _ _ _ _ _ _ _ _ _ _ _ _ HP1.out.res) rfl ⟨rfl, below_nine HB1.out (Nat.le_refl _) _ _ _ _ _ _ _ _ _⟩
  · have g1 : ¬ (6 : Int) < a.size := by omega
    have g2 : (6 : Int) < d.size := by omega
    clear h1 h2
    go_enter Tryd.func55, Tryd.ntmps55
    go_wp2_with fail
    refine HS.out.mono ?_
    rintro r w1 ⟨P, rfl, hP, hb1⟩
    have HP1 := Lib.hid (show Ptr w.heap.size P a b c d e w1 from ⟨block_below hb1 HR.out, hP⟩)
    have HB1 := Lib.hid (below_here HB0.out hb1)
    clear hP hb1
    obtain ⟨⟨x0, x1, x2, x3, x4, x5, x6, x7, x8⟩, ⟨z0, z1, z2, z3, z4, z5, z6, z7, z8⟩, hlt⟩ := nine_cells HP1.out.res
    obtain ⟨p0, p1, p2, p3, p4, hpl⟩ := five_cells HP1.out.row
    go_wp2_with fail
    refine ent_ret2 Tryd.results55 w.heap.size rfl _ _ _ _ _ _ _ _ _ (set_nine _ _ _ _ _ _ _ _ _ _ _ _ _ _ _ _ _ _ _ _ _ HP1.out.res) rfl ⟨rfl, below_nine HB1.out (Nat.le_refl _) _ _ _ _ _ _ _ _ _⟩
  · have g1 : ¬ (6 : Int) < a.size := by omega
    have g2 : ¬ (6 : Int) < d.size := by omega
    have g3 : (510 : Int) < e.size := by omega
    clear h1 h2 h3
    go_enter Tryd.func55, Tryd.ntmps55
    go_wp2_with fail
    refine HS.out.mono ?_
    rintro r w1 ⟨P, rfl, hP, hb1⟩
    have HP1 := Lib.hid (show Ptr w.heap.size P a b c d e w1 from ⟨block_below hb1 HR.out, hP⟩)
    have HB1 := Lib.hid (below_here HB0.out hb1)
    clear hP hb1
    obtain ⟨⟨x0, x1, x2, x3, x4, x5, x6, x7, x8⟩, ⟨z0, z1, z2, z3, z4, z5, z6, z7, z8⟩, hlt⟩ := nine_cells HP1.out.res
    obtain ⟨p0, p1, p2, p3, p4, hpl⟩ := five_cells HP1.out.row
    go_wp2_with fail
    refine ent_ret2 Tryd.results55 w.heap.size rfl _ _ _ _ _ _ _ _ _ (set_nine _ _ _ _ _ _ _ _ _ _ _ _ _ _ _ _ _ _ _ _ _ HP1.out.res) rfl ⟨rfl, below_nine HB1.out (Nat.le_refl _) _ _ _ _ _ _ _ _ _⟩
set_option maxRecDepth 100000 in
set_option maxHeartbeats 8000000 in
theorem trparse_five (s : ByteArray) (hs : s.size ≤ 1000) (a b c d e : ByteArray) (hw : Tr.words s = [a, b, c, d, e]) (ha : a.size ≤ 6) (hd : d.size ≤ 6) (he : e.size ≤ 510) (w : World) (hL : LaidAt w) :
    Calls Tryd.prog 55 #[.string s] w fun r w' => r = .returned (.tuple #[trV (Tr.fin s (Tr.cand5 a b c d e)).1, .int .i64 (Tr.fin s (Tr.cand5 a b c d e)).2]) ∧ Below w.heap.size w w' := by
  have hb0 := below_fresh w (.cells #[.int .i64 0, .int .u16 0, .int .u16 0, .int .i64 0, .int .i64 0, .int .u16 0, .int .u16 0, .int .i64 0, .string ⟨#[]⟩] 79)
  have HR := Lib.hid (heap_alloc_new w (.cells #[.int .i64 0, .int .u16 0, .int .u16 0, .int .i64 0, .int .i64 0, .int .u16 0, .int .u16 0, .int .i64 0, .string ⟨#[]⟩] 79))
  have HB0 := Lib.hid hb0
  have HS := Lib.hid (words_ok s (by omega) _ (hL.below hb0))
  rw [hw] at HS
  simp only [List.map_cons, List.map_nil, List.length_cons, List.length_nil, Nat.reduceAdd] at HS
  have HLw := Lib.hid hL
  clear hb0 hL
  have hbs : b.size ≤ s.size := Tr.words_size s b (by rw [hw]; simp)
  have hcs : c.size ≤ s.size := Tr.words_size s c (by rw [hw]; simp)
  have A1 := Lib.hid (fun w h => atoi_any a (by omega) w h)
  have A2 := Lib.hid (fun w h => atoi_any d (by omega) w h)
  have P1 := Lib.hid (fun w h => iparse_ok b (by omega) w h)
  have P2 := Lib.hid (fun w h => lparse_ok c (by omega) w h)
  have HWY := Lib.hid (fun (v1 v2 : Int) (ev1 ev2 : Value) h1 h2 => tr_ways (b := b) (c := c) ha hd he (v1 := v1) (v2 := v2) (ev1 := ev1) (ev2 := ev2) h1 h2)
  have g1 : ¬ (6 : Int) < a.size := by omega
  have g2 : ¬ (6 : Int) < d.size := by omega
  have g3 : ¬ (510 : Int) < e.size := by omega
  have HOI := Lib.hid (idn_parse_lab b.data.toList)
  have HOL := Lib.hid (lab_parse_lab c.data.toList)
  have HES := Lib.hid he
  generalize Tr.cand5 a b c d e = cd at HWY ⊢
  obtain ⟨pi, hpi⟩ : ∃ pi, pi = Idn.parse b.data.toList := ⟨_, rfl⟩
  obtain ⟨pl, hpl0⟩ : ∃ pl, pl = Lab.parse c.data.toList := ⟨_, rfl⟩
  rw [← hpi] at P1 HWY HOI
  rw [← hpl0] at P2 HWY HOL
  clear hpi hpl0 hw hbs hcs ha hd he
  obtain ⟨⟨⟨i1, i2⟩, i3, i4⟩, ie⟩ := pi
  obtain ⟨⟨l1, l2⟩, le⟩ := pl
  simp only at P1 P2 HWY HOI HOL
  go_enter Tryd.func55, Tryd.ntmps55
  go_wp2_with fail
  refine HS.out.mono ?_
  rintro r w1 ⟨P, rfl, hP, hb1⟩
  have HP1 := Lib.hid (show Ptr w.heap.size P a b c d e w1 from ⟨block_below hb1 HR.out, hP⟩)
  have HB1 := Lib.hid (below_here HB0.out hb1)
  clear hP hb1
  obtain ⟨⟨x0, x1, x2, x3, x4, x5, x6, x7, x8⟩, ⟨z0, z1, z2, z3, z4, z5, z6, z7, z8⟩, hlt⟩ := nine_cells HP1.out.res
  obtain ⟨p0, p1, p2, p3, p4, hpl⟩ := five_cells HP1.out.row
  go_wp2_with fail
  clear x0 x1 x2 x3 x4 x5 x6 x7 x8 z0 z1 z2 z3 z4 z5 z6 z7 z8 hlt p0 p1 p2 p3 p4 hpl
  refine (A1.out _ (HLw.out.below HB1.out)).mono ?_
  rintro r w2 ⟨v1, ev1, rfl, ha1, hb⟩
  have HP2 := Lib.hid (HP1.out.below hb)
  have HB2 := Lib.hid (below_here HB1.out hb)
  have HA1 := Lib.hid ha1
  clear hb ha1
  obtain ⟨⟨x0, x1, x2, x3, x4, x5, x6, x7, x8⟩, ⟨z0, z1, z2, z3, z4, z5, z6, z7, z8⟩, hlt⟩ := nine_cells HP2.out.res
  obtain ⟨p0, p1, p2, p3, p4, hpl⟩ := five_cells HP2.out.row
  go_wp2_with fail
  clear x0 x1 x2 x3 x4 x5 x6 x7 x8 z0 z1 z2 z3 z4 z5 z6 z7 z8 hlt p0 p1 p2 p3 p4 hpl
  refine (A2.out _ (HLw.out.below HB2.out)).mono ?_
  rintro r w3 ⟨v2, ev2, rfl, ha2, hb⟩
  have HP3 := Lib.hid (HP2.out.below hb)
  have HB3 := Lib.hid (below_here HB2.out hb)
  have HA2 := Lib.hid ha2
  clear hb ha2
  obtain ⟨⟨x0, x1, x2, x3, x4, x5, x6, x7, x8⟩, ⟨z0, z1, z2, z3, z4, z5, z6, z7, z8⟩, hlt⟩ := nine_cells HP3.out.res
  obtain ⟨p0, p1, p2, p3, p4, hpl⟩ := five_cells HP3.out.row
  go_wp2_with fail
  clear x0 x1 x2 x3 x4 x5 x6 x7 x8 z0 z1 z2 z3 z4 z5 z6 z7 z8 hlt p0 p1 p2 p3 p4 hpl
  refine (P1.out _ (HLw.out.below HB3.out)).mono ?_
  rintro r w4 ⟨rfl, hb⟩
  have hbx := below_fresh w4 (.cells #[.int .u16 (i1 : Int), .int .u16 (i2 : Int), .int .i64 i3, .int .i64 i4] 57)
  have HP4 := Lib.hid (HP3.out.below hb)
  have HP4' := Lib.hid (HP4.out.below hbx)
  have HB4 := Lib.hid (below_here (below_here HB3.out hb) hbx)
  have HI4 := Lib.hid (heap_alloc_new w4 (.cells #[.int .u16 (i1 : Int), .int .u16 (i2 : Int), .int .i64 i3, .int .i64 i4] 57))
  clear hb hbx
  obtain ⟨⟨x0, x1, x2, x3, x4, x5, x6, x7, x8⟩, ⟨z0, z1, z2, z3, z4, z5, z6, z7, z8⟩, hlt⟩ := nine_cells HP4.out.res
  obtain ⟨p0, p1, p2, p3, p4, hpl⟩ := five_cells HP4.out.row
  go_wp2_with fail
  clear x0 x1 x2 x3 x4 x5 x6 x7 x8 z0 z1 z2 z3 z4 z5 z6 z7 z8 hlt p0 p1 p2 p3 p4 hpl
  refine (P2.out _ (HLw.out.below HB4.out)).mono ?_
  rintro r w5 ⟨rfl, hb⟩
  have hbx := below_fresh w5 (.cells #[.int .u16 (l1 : Int), .int .u16 (l2 : Int)] 24)
  have HP5 := Lib.hid ((HP4'.out.below hb).below hbx)
  have HB5 := Lib.hid (below_here (below_here HB4.out hb) hbx)
  have HI5 := Lib.hid (block_below hbx (block_below hb HI4.out))
  have HL5 := Lib.hid (heap_alloc_new w5 (.cells #[.int .u16 (l1 : Int), .int .u16 (l2 : Int)] 24))
  clear hb hbx
  go_upto_region 8 with (fail)
  generalize w5.alloc (.cells #[.int .u16 (l1 : Int), .int .u16 (l2 : Int)] 24) = w6 at HP5 HB5 HI5 HL5 ⊢
  generalize w5.heap.size = n5 at HL5 ⊢
  generalize w4.heap.size = n4 at HI5 ⊢
  obtain ⟨⟨x0, x1, x2, x3, x4, x5, x6, x7, x8⟩, ⟨z0, z1, z2, z3, z4, z5, z6, z7, z8⟩, hlt⟩ := nine_cells HP5.out.res
  obtain ⟨p0, p1, p2, p3, p4, hpl⟩ := five_cells HP5.out.row
  have hways := HWY.out _ _ _ _ HA1.out HA2.out
  clear HWY HA1 HA2 HP1 HP2 HP3 HP4 HP4' HB1 HB2 HB3 HB4 HI4 A1 A2 P1 P2
  rcases hways with ⟨hc0, hways⟩ | ⟨hc0, rfl, rfl, rfl, rfl, k1, k2, b1, b2⟩
  · subst hc0
    clear HI5 HL5 HOI HOL HES
    rcases hways with ⟨t, N, rfl⟩ | ⟨rfl, t, N, rfl⟩ | ⟨rfl, rfl, rfl⟩ | ⟨rfl, rfl, rfl, rfl⟩ | ⟨rfl, rfl, rfl, rfl, k1⟩ | ⟨rfl, rfl, rfl, rfl, k1, k2⟩
    all_goals
      go_wp2_with fail
      refine ent_ret2 Tryd.results55 w.heap.size rfl _ _ _ _ _ _ _ _ _ (set_nine _ _ _ _ _ _ _ _ _ _ _ _ _ _ _ _ _ _ _ _ _ HP5.out.res) rfl ⟨rfl, below_nine HB5.out (Nat.le_refl _) _ _ _ _ _ _ _ _ _⟩
  · subst hc0
    obtain ⟨⟨q0, q1, q2, q3⟩, q4, q5, q6, q7, q8⟩ := quad_cells HI5.out
    obtain ⟨m0, m1, m2, m3⟩ := pair_cells HL5.out
    have hlm : n5 < w6.heap.size := World.block_lt_of_cell? w6 _ m0
    have U1 := Lib.hid (fun w => unhex_ok e (by have := HES.out; omega) w)
    have hul : (⟨(Tr.unhex e.data.toList).toArray⟩ : ByteArray).size ≤ 1000 := by
      have h : (Tr.unhex e.data.toList).length ≤ e.data.toList.length := by
        unfold Tr.unhex; split
        · simp
        · exact Tr.unhexl_len _
      have h2 : e.data.toList.length = e.size := by rw [Array.length_toList]; rfl
      have h3 : (⟨(Tr.unhex e.data.toList).toArray⟩ : ByteArray).size = (Tr.unhex e.data.toList).length := by simp [ByteArray.size]
      have := HES.out
      omega
    obtain ⟨da, hda⟩ : ∃ da : ByteArray, da = ⟨(Tr.unhex e.data.toList).toArray⟩ := ⟨_, rfl⟩
    rw [← hda] at U1 hul
    have HDA := Lib.hid hda
    clear hda
    have HOK : Hid (Tr.ok (v1, ((i1, i2), i3, i4), (l1, l2), v2, da)) := Lib.hid ⟨⟨by show (-9223372036854775808 : Int) ≤ v1; omega, b1⟩, HOI.out, HOL.out, by show (-9223372036854775808 : Int) ≤ v2; omega, b2⟩
    go_upto_region 10 with (fail)
    refine wp_region_freeA 11 [some 92, some 93, some 94, some 95, some 96, some 97, some 98, some 99, some 100, some 101, some 13] (fun W => ∃ X, W = over w6 X) [Fact.is (.int .i64 v1), Fact.is (.agg #[.int .u16 (i1 : Int), .int .u16 (i2 : Int), .int .i64 i3, .int .i64 i4]), Fact.is (.agg #[.int .u16 (l1 : Int), .int .u16 (l2 : Int)]), Fact.is (.int .i64 v2), Fact.is (.slice (some ⟨P, 0, none⟩) 5 5), Fact.is (.pointer (some ⟨P, 4, none⟩)), Fact.is (.string e), Fact.is (.string da), Fact.is (.agg #[.int .i64 v2, .string da]), Fact.is (.agg #[.int .i64 v1, .int .u16 (i1 : Int), .int .u16 (i2 : Int), .int .i64 i3, .int .i64 i4, .int .u16 (l1 : Int), .int .u16 (l2 : Int), .int .i64 v2, .string da]), Fact.blk w6.heap.size (.cells #[.int .i64 0, .int .u16 0, .int .u16 0, .int .i64 0, .int .i64 0, .int .u16 0, .int .u16 0, .int .i64 0, .string ⟨#[]⟩] 79)] [10] (by kernel_rfl) (by kernel_rfl) ?same (over_of (Below.refl _ _).drew) ?steps ?fin
    case same => kernel_rfl
    case steps =>
      simp only [List.take_succ_cons, List.take_zero, stepsI]
      refine ⟨⟨fun v u => by kernel_rfl, ?s0⟩, ⟨fun v u => by kernel_rfl, ?s1⟩, ⟨fun v u => by kernel_rfl, ?s2⟩, ⟨fun v u => by kernel_rfl, ?s3⟩, ⟨fun v u => by kernel_rfl, ?s4⟩, ⟨fun v u => by kernel_rfl, ?s5⟩, ⟨fun v u => by kernel_rfl, ?s6⟩, ⟨fun v u => by kernel_rfl, ?s7⟩, ⟨fun v u => by kernel_rfl, ?s8⟩, ⟨fun v u => by kernel_rfl, ?s9⟩, ⟨fun v u => by kernel_rfl, ?s10⟩, trivial⟩
      case s0 =>
        intro v W hW hp
        obtain ⟨X, rfl⟩ := hW
        clear hp
        simp only [mkA, setAll, List.setIfInBounds_toArray, List.set_cons_succ, List.set_cons_zero]
        refine .inl ⟨rfl, ?_⟩
        go_simp
        first | exact ⟨⟨X, rfl⟩, Below.refl _ _, rfl⟩ | exact ⟨⟨X, rfl⟩, Below.refl _ _, rfl, fun h => by cases h⟩
      case s1 =>
        intro v W hW hp
        obtain ⟨X, rfl⟩ := hW
        clear hp
        simp only [mkA, setAll, List.setIfInBounds_toArray, List.set_cons_succ, List.set_cons_zero]
        refine .inl ⟨rfl, ?_⟩
        go_simp
        first | exact ⟨⟨X, rfl⟩, Below.refl _ _, rfl⟩ | exact ⟨⟨X, rfl⟩, Below.refl _ _, rfl, fun h => by cases h⟩
      case s2 =>
        intro v W hW hp
        obtain ⟨X, rfl⟩ := hW
        clear hp
        simp only [mkA, setAll, List.setIfInBounds_toArray, List.set_cons_succ, List.set_cons_zero]
        refine .inl ⟨rfl, ?_⟩
        go_simp
        first | exact ⟨⟨X, rfl⟩, Below.refl _ _, rfl⟩ | exact ⟨⟨X, rfl⟩, Below.refl _ _, rfl, fun h => by cases h⟩
      case s3 =>
        intro v W hW hp
        obtain ⟨X, rfl⟩ := hW
        clear hp
        simp only [mkA, setAll, List.setIfInBounds_toArray, List.set_cons_succ, List.set_cons_zero]
        refine .inl ⟨rfl, ?_⟩
        go_simp
        first | exact ⟨⟨X, rfl⟩, Below.refl _ _, rfl⟩ | exact ⟨⟨X, rfl⟩, Below.refl _ _, rfl, fun h => by cases h⟩
      case s4 =>
        intro v W hW hp
        obtain ⟨X, rfl⟩ := hW
        clear hp
        simp only [mkA, setAll, List.setIfInBounds_toArray, List.set_cons_succ, List.set_cons_zero]
        refine .inl ⟨rfl, ?_⟩
        go_simp
        first | exact ⟨⟨X, rfl⟩, Below.refl _ _, rfl⟩ | exact ⟨⟨X, rfl⟩, Below.refl _ _, rfl, fun h => by cases h⟩
      case s5 =>
        intro v W hW hp
        obtain ⟨X, rfl⟩ := hW
        have g4 : v 4 = .slice (some ⟨P, 0, none⟩) 5 5 := hp ⟨4, .data⟩ (by simp) rfl
        clear hp
        simp only [mkA, setAll, List.setIfInBounds_toArray, List.set_cons_succ, List.set_cons_zero]
        refine .inl ⟨rfl, ?_⟩
        go_simp
        first | exact ⟨⟨X, rfl⟩, Below.refl _ _, rfl⟩ | exact ⟨⟨X, rfl⟩, Below.refl _ _, rfl, fun h => by cases h⟩
      case s6 =>
        intro v W hW hp
        obtain ⟨X, rfl⟩ := hW
        have g5 : v 5 = .pointer (some ⟨P, 4, none⟩) := hp ⟨5, .data⟩ (by simp) rfl
        clear hp
        simp only [mkA, setAll, List.setIfInBounds_toArray, List.set_cons_succ, List.set_cons_zero]
        refine .inl ⟨rfl, ?_⟩
        go_simp
        first | exact ⟨⟨X, rfl⟩, Below.refl _ _, rfl⟩ | exact ⟨⟨X, rfl⟩, Below.refl _ _, rfl, fun h => by cases h⟩
      case s7 =>
        intro v W hW hp
        obtain ⟨X, rfl⟩ := hW
        have g6 : v 6 = .string e := hp ⟨6, .data⟩ (by simp) rfl
        clear hp
        simp only [mkA, setAll, List.setIfInBounds_toArray, List.set_cons_succ, List.set_cons_zero]
        refine .inl ⟨rfl, ?_⟩
        go_simp
        refine (U1.out _).mono ?_
        rintro r W2 ⟨rfl, hb2⟩
        first | exact ⟨_, rfl, over_of (below_here (over_below _ _) hb2), hb2, rfl⟩ | exact ⟨_, rfl, over_of (below_here (over_below _ _) hb2), hb2, rfl, fun h => by cases h⟩
      case s8 =>
        intro v W hW hp
        obtain ⟨X, rfl⟩ := hW
        have g3 : v 3 = .int .i64 v2 := hp ⟨3, .data⟩ (by simp) rfl
        have g7 : v 7 = .string da := hp ⟨7, .data⟩ (by simp) rfl
        clear hp
        simp only [mkA, setAll, List.setIfInBounds_toArray, List.set_cons_succ, List.set_cons_zero]
        refine .inl ⟨rfl, ?_⟩
        go_simp
        first | exact ⟨⟨X, rfl⟩, Below.refl _ _, rfl⟩ | exact ⟨⟨X, rfl⟩, Below.refl _ _, rfl, fun h => by cases h⟩
      case s9 =>
        intro v W hW hp
        obtain ⟨X, rfl⟩ := hW
        have g0 : v 0 = .int .i64 v1 := hp ⟨0, .data⟩ (by simp) rfl
        have g1 : v 1 = .agg #[.int .u16 (i1 : Int), .int .u16 (i2 : Int), .int .i64 i3, .int .i64 i4] := hp ⟨1, .data⟩ (by simp) rfl
        have g2 : v 2 = .agg #[.int .u16 (l1 : Int), .int .u16 (l2 : Int)] := hp ⟨2, .data⟩ (by simp) rfl
        have g8 : v 8 = .agg #[.int .i64 v2, .string da] := hp ⟨8, .data⟩ (by simp) rfl
        clear hp
        simp only [mkA, setAll, List.setIfInBounds_toArray, List.set_cons_succ, List.set_cons_zero]
        refine .inl ⟨rfl, ?_⟩
        go_simp
        first | exact ⟨⟨X, rfl⟩, Below.refl _ _, rfl⟩ | exact ⟨⟨X, rfl⟩, Below.refl _ _, rfl, fun h => by cases h⟩
      case s10 =>
        intro v W hW hp
        obtain ⟨X, rfl⟩ := hW
        clear hp
        simp only [mkA, setAll, List.setIfInBounds_toArray, List.set_cons_succ, List.set_cons_zero]
        refine .inl ⟨rfl, ?_⟩
        go_simp
        exact ⟨over_of (below_new (over_below _ _) _), below_fresh _ _, ⟨_, rfl, heap_alloc_new _ _, (over_below w6 X).size⟩, _, rfl, Nat.le_refl _, by simp⟩
    case fin =>
      intro v W hW hR hD
      have hbW := below_of_over hW
      have g9 : v 9 = _ := hR 9 (by omega)
      obtain ⟨p, g10, hp, hNp⟩ := hR 10 (by omega)
      simp only [List.drop_succ_cons, List.drop_zero, mkA, setAll, List.setIfInBounds_toArray, List.set_cons_succ, List.set_cons_zero, g9, g10]
      generalize v 0 = u0
      generalize v 1 = u1
      generalize v 2 = u2
      generalize v 3 = u3
      generalize v 4 = u4
      generalize v 5 = u5
      generalize v 6 = u6
      generalize v 7 = u7
      generalize v 8 = u8
      clear hR hD hW g9 g10 q0 q1 q2 q3 q4 q5 q6 q7 q8 m0 m1 m2 m3 hlm x0 x1 x2 x3 x4 x5 x6 x7 x8 z0 z1 z2 z3 z4 z5 z6 z7 z8 hlt p0 p1 p2 p3 p4 hpl
      obtain ⟨⟨x0, x1, x2, x3, x4, x5, x6, x7, x8⟩, ⟨z0, z1, z2, z3, z4, z5, z6, z7, z8⟩, hlt⟩ := nine_cells hp
      go_upto_region 11 with (fail)
      have hb7 : Below w6.heap.size w6 (((((((((W.setCell ⟨p, 0, none⟩ (.int .i64 v1)).setCell ⟨p, 1, none⟩ (.int .u16 (i1 : Int))).setCell ⟨p, 2, none⟩ (.int .u16 (i2 : Int))).setCell ⟨p, 3, none⟩ (.int .i64 i3)).setCell ⟨p, 4, none⟩ (.int .i64 i4)).setCell ⟨p, 5, none⟩ (.int .u16 (l1 : Int))).setCell ⟨p, 6, none⟩ (.int .u16 (l2 : Int))).setCell ⟨p, 7, none⟩ (.int .i64 v2)).setCell ⟨p, 8, none⟩ (.string da)) := below_nine hbW hNp _ _ _ _ _ _ _ _ _
      have hp7 := set_nine W p _ _ _ _ _ _ _ _ _ _ (.int .i64 v1) (.int .u16 (i1 : Int)) (.int .u16 (i2 : Int)) (.int .i64 i3) (.int .i64 i4) (.int .u16 (l1 : Int)) (.int .u16 (l2 : Int)) (.int .i64 v2) (.string da) hp
      generalize (((((((((W.setCell ⟨p, 0, none⟩ (.int .i64 v1)).setCell ⟨p, 1, none⟩ (.int .u16 (i1 : Int))).setCell ⟨p, 2, none⟩ (.int .u16 (i2 : Int))).setCell ⟨p, 3, none⟩ (.int .i64 i3)).setCell ⟨p, 4, none⟩ (.int .i64 i4)).setCell ⟨p, 5, none⟩ (.int .u16 (l1 : Int))).setCell ⟨p, 6, none⟩ (.int .u16 (l2 : Int))).setCell ⟨p, 7, none⟩ (.int .i64 v2)).setCell ⟨p, 8, none⟩ (.string da)) = w7 at hb7 hp7 ⊢
      have HB7 := Lib.hid (below_here HB5.out hb7)
      have HR7 := Lib.hid (HP5.out.below hb7).res
      have HL7 := Lib.hid (HLw.out.below (below_here HB5.out hb7))
      have HQ7 := Lib.hid hp7
      clear hbW hNp hp x0 x1 x2 x3 x4 x5 x6 x7 x8 z0 z1 z2 z3 z4 z5 z6 z7 z8 hlt hb7
      obtain ⟨⟨x0, x1, x2, x3, x4, x5, x6, x7, x8⟩, ⟨z0, z1, z2, z3, z4, z5, z6, z7, z8⟩, hlt⟩ := nine_cells hp7
      clear hp7
      have HTL := Lib.hid (fun w hT hW => trline_ok (v1, ((i1, i2), i3, i4), (l1, l2), v2, da) HOK.out (by show da.size ≤ 1000000; omega) w hT hW)
      have HBI := Lib.hid (bytes_of_list (s := s) (l := Tr.line (v1, ((i1, i2), i3, i4), (l1, l2), v2, da)))
      have HFIN : Hid (Tr.fin s (some (v1, ((i1, i2), i3, i4), (l1, l2), v2, ⟨(Tr.unhex e.data.toList).toArray⟩)) = if Tr.line (v1, ((i1, i2), i3, i4), (l1, l2), v2, da) = s.data.toList then ((v1, ((i1, i2), i3, i4), (l1, l2), v2, da), 0) else (Tr.zero, 3)) := Lib.hid (by rw [← HDA.out]; rfl)
      generalize Tr.line (v1, ((i1, i2), i3, i4), (l1, l2), v2, da) = tx at HTL HBI HFIN
      by_cases htx : tx = s.data.toList
      · have hts := HBI.out.2 htx
        rw [if_pos htx] at HFIN
        rw [hts] at HTL
        clear hts htx HBI
        go_wp2_with fail
        refine (HTL.out _ HL7.out.tab HL7.out.pow).mono ?_
        rintro r w8 ⟨rfl, hb8⟩
        have HB8 := Lib.hid (below_here HB7.out hb8)
        have HR8 := Lib.hid (block_below hb8 HR7.out)
        have HQ8 := Lib.hid (block_below hb8 HQ7.out)
        clear hb8 x0 x1 x2 x3 x4 x5 x6 x7 x8 z0 z1 z2 z3 z4 z5 z6 z7 z8 hlt
        obtain ⟨⟨x0, x1, x2, x3, x4, x5, x6, x7, x8⟩, ⟨z0, z1, z2, z3, z4, z5, z6, z7, z8⟩, hlt⟩ := nine_cells HQ8.out
        obtain ⟨⟨c0, c1, c2, c3, c4, c5, c6, c7, c8⟩, ⟨f0, f1, f2, f3, f4, f5, f6, f7, f8⟩, hlt2⟩ := nine_cells HR8.out
        go_wp2_with fail
        refine ent_ret2 Tryd.results55 w.heap.size rfl _ _ _ _ _ _ _ _ _ (set_nine _ _ _ _ _ _ _ _ _ _ _ _ _ _ _ _ _ _ _ _ _ HR8.out) rfl ⟨(congrArg (fun r : Tr.E × Int => Ending.returned (.tuple #[trV r.1, .int .i64 r.2])) HFIN.out).symm, below_nine HB8.out (Nat.le_refl _) _ _ _ _ _ _ _ _ _⟩
      · have hts := mt HBI.out.1 htx
        rw [if_neg htx] at HFIN
        generalize (⟨tx.toArray⟩ : ByteArray) = tb at HTL hts
        have hcmp : (tb.toList == s.toList) = false := (Lib.bytes_beq_false_iff _ _).2 hts
        clear htx HBI hts
        go_wp2_with fail
        refine (HTL.out _ HL7.out.tab HL7.out.pow).mono ?_
        rintro r w8 ⟨rfl, hb8⟩
        have HB8 := Lib.hid (below_here HB7.out hb8)
        have HR8 := Lib.hid (block_below hb8 HR7.out)
        have HQ8 := Lib.hid (block_below hb8 HQ7.out)
        clear hb8 x0 x1 x2 x3 x4 x5 x6 x7 x8 z0 z1 z2 z3 z4 z5 z6 z7 z8 hlt
        obtain ⟨⟨x0, x1, x2, x3, x4, x5, x6, x7, x8⟩, ⟨z0, z1, z2, z3, z4, z5, z6, z7, z8⟩, hlt⟩ := nine_cells HQ8.out
        obtain ⟨⟨c0, c1, c2, c3, c4, c5, c6, c7, c8⟩, ⟨f0, f1, f2, f3, f4, f5, f6, f7, f8⟩, hlt2⟩ := nine_cells HR8.out
        go_wp2_with fail
        refine ent_ret2 Tryd.results55 w.heap.size rfl _ _ _ _ _ _ _ _ _ (set_nine _ _ _ _ _ _ _ _ _ _ _ _ _ _ _ _ _ _ _ _ _ HR8.out) rfl ⟨(congrArg (fun r : Tr.E × Int => Ending.returned (.tuple #[trV r.1, .int .i64 r.2])) HFIN.out).symm, below_nine HB8.out (Nat.le_refl _) _ _ _ _ _ _ _ _ _⟩
end Go.Proofs.YtdjndnoiankicaaDoor
namespace Go.Proofs.YtdjndnoiankicaaDoor
open Go.RowKit Go.Shelf
set_option linter.unusedSimpArgs false
set_option linter.unusedVariables false
attribute [local go_sem] cell_over frozen_over

theorem trparse_ok (s : ByteArray) (hs : s.size ≤ 1000) (w : World) (hL : LaidAt w) :
    Calls Tryd.prog 55 #[.string s] w fun r w' => r = .returned (.tuple #[trV (Tr.parse s).1, .int .i64 (Tr.parse s).2]) ∧ Below w.heap.size w w' := by
  by_cases hn : (Tr.words s).length = 5
  · obtain ⟨a, b, c, d, e, hw⟩ : ∃ a b c d e, Tr.words s = [a, b, c, d, e] := by
      match h : Tr.words s, hn with
      | [a, b, c, d, e], _ => exact ⟨a, b, c, d, e, rfl⟩
    have hp : Tr.parse s = Tr.fin s (Tr.cand5 a b c d e) := by unfold Tr.parse Tr.cand; rw [hw]
    rw [hp]
    by_cases hz : a.size ≤ 6 ∧ d.size ≤ 6 ∧ e.size ≤ 510
    · exact trparse_five s hs a b c d e hw hz.1 hz.2.1 hz.2.2 w hL
    · have hc : Tr.cand5 a b c d e = none := by unfold Tr.cand5; rw [if_neg hz]
      rw [hc]
      exact trparse_sz s hs a b c d e hw hz w hL
  · have hc : Tr.cand s = none := by
      unfold Tr.cand
      split
      · rename_i h; rw [h] at hn; exact absurd rfl hn
      · rfl
    have hp : Tr.parse s = (Tr.zero, 3) := by unfold Tr.parse; rw [hc]; rfl
    rw [hp]
    exact trparse_no s hs hn w hL
namespace Tr
/-- An event: kind, from, to, epoch, role, by, used. -/
structure Ev where
  kind : Int
  src : Lab.L
  dst : Lab.L
  epoch : Int
  role : Int
  under : Lab.L
  used : Nat
def Ev.ok (e : Ev) : Prop := Lab.ok e.src ∧ Lab.ok e.dst ∧ Lab.ok e.under ∧ e.used < 65536
def crosses (e : Ev) (l : Lab.L) : Bool := decide (e.used ≠ 0) && !Lab.flows e.src l && Lab.flows e.dst l
end Tr
abbrev evV (e : Tr.Ev) : Value := .agg #[.int .i64 e.kind, .int .u16 (e.src.1 : Int), .int .u16 (e.src.2 : Int), .int .u16 (e.dst.1 : Int), .int .u16 (e.dst.2 : Int), .int .i64 e.epoch, .int .i64 e.role, .int .u16 (e.under.1 : Int), .int .u16 (e.under.2 : Int), .int .u16 (e.used : Int)]
set_option maxRecDepth 100000 in
set_option maxHeartbeats 1000000 in
theorem crosses_ok (e : Tr.Ev) (he : e.ok) (l : Lab.L) (hl : Lab.ok l) (w : World) : Calls Tryd.prog 32 #[evV e, labV l] w fun r w' => r = .returned (.bool (Tr.crosses e l)) ∧ Below w.heap.size w w' := by
  obtain ⟨h1, h2, h3, h4⟩ := he
  have F1 := Lib.hid (fun w => flows_ok e.src l h1 hl w)
  have F2 := Lib.hid (fun w => flows_ok e.dst l h2 hl w)
  have HC : Hid (Tr.crosses e l = (decide (e.used ≠ 0) && !Lab.flows e.src l && Lab.flows e.dst l)) := Lib.hid rfl
  obtain ⟨kd, ⟨s1, s2⟩, ⟨d1, d2⟩, ep, rl, ⟨u1, u2⟩, us⟩ := e
  simp only at F1 F2 HC
  generalize Lab.flows (s1, s2) l = x at F1 HC
  generalize Lab.flows (d1, d2) l = y at F2 HC
  have HB0 := Lib.hid (below_new (below_fresh w (.cells #[.int .i64 kd, .int .u16 (s1 : Int), .int .u16 (s2 : Int), .int .u16 (d1 : Int), .int .u16 (d2 : Int), .int .i64 ep, .int .i64 rl, .int .u16 (u1 : Int), .int .u16 (u2 : Int), .int .u16 (us : Int)] 48)) (.cells #[.int .u16 (l.1 : Int), .int .u16 (l.2 : Int)] 24))
  clear h1 h2 h3 h4 hl
  by_cases hu : us = 0
  · subst hu
    go_enter Tryd.func32, Tryd.ntmps32
    go_wp2_with fail
    go_ret
    exact ⟨by rw [HC.out]; rfl, HB0.out⟩
  · have hu' : ¬ (us : Int) = 0 := by omega
    have hu2 : ((us : Int) != 0) = true := by simpa using hu
    have hd : decide (us ≠ 0) = true := by simpa using hu
    rw [hd] at HC
    clear hd
    cases x with
    | true =>
      go_enter Tryd.func32, Tryd.ntmps32
      go_wp2_with fail
      refine (F1.out _).mono ?_
      rintro r w1 ⟨rfl, hb1⟩
      obtain ⟨hc, hf⟩ := bcell hb1
      go_wp2_with fail
      go_ret
      exact ⟨by rw [HC.out]; rfl, below_here HB0.out hb1⟩
    | false =>
      go_enter Tryd.func32, Tryd.ntmps32
      go_wp2_with fail
      refine (F1.out _).mono ?_
      rintro r w1 ⟨rfl, hb1⟩
      obtain ⟨hc, hf⟩ := bcell hb1
      go_wp2_with fail
      refine (F2.out _).mono ?_
      rintro r w2 ⟨rfl, hb2⟩
      go_wp2_with fail
      go_ret
      exact ⟨by rw [HC.out]; rfl, below_here (below_here HB0.out hb1) hb2⟩
end Go.Proofs.YtdjndnoiankicaaDoor
