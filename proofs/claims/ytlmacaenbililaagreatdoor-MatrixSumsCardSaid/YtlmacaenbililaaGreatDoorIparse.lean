/- Package ident: Parse: what it returns. No conditions. -/
import Derived.Test.YtlmacaenbililaaGreatDoorIdent
import Derived.Test.YtlmacaenbililaaGreatDoorFree
import Derived.Deep.CutRange
namespace Go.Proofs.YtlmacaenbililaaGreatDoor
open Go.RowKit Go.Shelf
set_option linter.unusedSimpArgs false
set_option linter.unusedVariables false
attribute [local go_sem] cell_over frozen_over

theorem mid_bytes (s : ByteArray) (h : 3 ≤ s.size) : (s.extract 1 (s.size - 2)).data.toList = Idn.mid s.data.toList := by
  have hl : s.data.toList.length = s.size := by rw [Array.length_toList]; rfl
  unfold Idn.mid
  rw [hl, ByteArray.data_extract, Array.toList_extract]
  simp [List.extract, List.drop_take]
theorem lab_parse_e (l : List UInt8) : (Lab.parse l).2 = 0 ∨ (Lab.parse l).2 = 3 := by unfold Lab.parse; split <;> simp
theorem lab_parse_lab (l : List UInt8) : Lab.ok (Lab.parse l).1 := by
  unfold Lab.parse
  split
  · rename_i a ha; exact Lab.rparse_ok' ha
  · exact ⟨by simp, by simp⟩
theorem byte_at (s : ByteArray) (i : Nat) (h : i < s.size) : s[i] = s.data.toList.getD i 0 := by
  have h' : i < s.data.toList.length := by rw [Array.length_toList]; exact h
  rw [List.getD_eq_getElem?_getD, List.getElem?_eq_getElem h', Option.getD_some]; simp; rfl
theorem index_string (s : ByteArray) (i : Int) (n : Nat) (h0 : i = n) (h : n < s.size) (W : World) : (Instr.index 9 (.string s) (.int .i64 i)).run Tryz.prog W = .ok (.int .u8 ((s.data.toList.getD n 0).toNat : Int)) W := by
  subst h0
  rw [run_index_string W 9 s .i64 (n : Int) Tryz.underlying9, dif_pos ⟨by omega, by omega⟩]
  rw [byte_at s ((n : Int)).toNat (by omega)]
  rfl
theorem bytes_of_list {s : ByteArray} {l : List UInt8} : (⟨l.toArray⟩ : ByteArray) = s ↔ l = s.data.toList := by
  constructor
  · rintro rfl; simp
  · rintro rfl; simp
theorem set_quad (W : World) (b : Nat) (t : TypeId) (x0 x1 x2 x3 y0 y1 y2 y3 : Value) (h : W.heap[b]? = some (.cells #[x0, x1, x2, x3] t (0, 0))) : (W.setCells b 0 [y0, y1, y2, y3]).heap[b]? = some (.cells #[y0, y1, y2, y3] t (0, 0)) :=
  heap_setCells_same b t [y0, y1, y2, y3] 0 W [x0, x1, x2, x3] h (by simp)
theorem set_quad' (W : World) (b : Nat) (t : TypeId) (x0 x1 x2 x3 y0 y1 y2 y3 : Value) (h : W.heap[b]? = some (.cells #[x0, x1, x2, x3] t (0, 0))) : ((((W.setCell ⟨b, 0, none⟩ y0).setCell ⟨b, 1, none⟩ y1).setCell ⟨b, 2, none⟩ y2).setCell ⟨b, 3, none⟩ y3).heap[b]? = some (.cells #[y0, y1, y2, y3] t (0, 0)) := set_quad W b t x0 x1 x2 x3 y0 y1 y2 y3 h
theorem below_quad {B : Nat} {w a : World} (h : Below B w a) {g : Nat} (hg : B ≤ g) (y0 y1 y2 y3 : Value) : Below B w ((((a.setCell ⟨g, 0, none⟩ y0).setCell ⟨g, 1, none⟩ y1).setCell ⟨g, 2, none⟩ y2).setCell ⟨g, 3, none⟩ y3) := below_setCells h hg 0 [y0, y1, y2, y3]
theorem quad_cells {W : World} {b : Nat} {t : TypeId} {x0 x1 x2 x3 : Value} (h : W.heap[b]? = some (.cells #[x0, x1, x2, x3] t (0, 0))) : (W.cell? ⟨b, 0, none⟩ = some x0 ∧ W.cell? ⟨b, 1, none⟩ = some x1 ∧ W.cell? ⟨b, 2, none⟩ = some x2 ∧ W.cell? ⟨b, 3, none⟩ = some x3) ∧ W.frozen? ⟨b, 0, none⟩ = false ∧ W.frozen? ⟨b, 1, none⟩ = false ∧ W.frozen? ⟨b, 2, none⟩ = false ∧ W.frozen? ⟨b, 3, none⟩ = false ∧ b < W.heap.size :=
  ⟨⟨cell_of_row W b 0 _ t (0, 0) h, cell_of_row W b 1 _ t (0, 0) h, cell_of_row W b 2 _ t (0, 0) h, cell_of_row W b 3 _ t (0, 0) h⟩, by simp [World.frozen?, h], by simp [World.frozen?, h], by simp [World.frozen?, h], by simp [World.frozen?, h], (Array.getElem?_eq_some_iff.1 h).1⟩
theorem below_fresh (w : World) (o : Obj) : Below w.heap.size w (w.alloc o) := below_new (Below.refl _ _) o
def Fact.blk (N : Nat) (o : Obj) : Fact := ⟨fun v w => ∃ b, v = .pointer (some ⟨b, 0, none⟩) ∧ w.heap[b]? = some o ∧ N ≤ b, fun _ _ _ ⟨b, h1, h2, h3⟩ hb => ⟨b, h1, block_below hb h2, h3⟩⟩
set_option maxRecDepth 100000 in
set_option maxHeartbeats 4000000 in
theorem iparse_ok (s : ByteArray) (hs : s.size ≤ 1000) (w : World) (hL : LaidAt w) :
    Calls Tryz.prog 86 #[.string s] w fun e w' => e = .returned (.tuple #[idV (Idn.parse s.data.toList).1, .int .i64 (Idn.parse s.data.toList).2]) ∧ Below w.heap.size w w' := by
  have hl : s.data.toList.length = s.size := by rw [Array.length_toList]; rfl
  have HB0 := Lib.hid (below_new (Below.refl w.heap.size w) (.cells #[.int .u16 0, .int .u16 0, .int .i64 0, .int .i64 0] 64))
  have HR := Lib.hid (heap_alloc_new w (.cells #[.int .u16 0, .int .u16 0, .int .i64 0, .int .i64 0] 64))
  by_cases h3 : s.size < 3
  · rw [show Idn.parse s.data.toList = (Idn.zero, 3) by unfold Idn.parse; rw [hl, if_pos h3]]
    clear hL hs hl
    have h3' : (s.size : Int) - 2 < 1 := by omega
    go_enter Tryz.func86, Tryz.ntmps86
    go_wp2_with fail
    refine id_ret2 Tryz.results86 w.heap.size rfl Idn.zero (heap_alloc_new w _) rfl ⟨rfl, HB0.out⟩
  · have hm := mid_bytes s (by omega)
    have HP := Lib.hid (fun w h => lparse_ok (s.extract 1 (s.size - 2)) (by simp [ByteArray.size_extract]; omega) w h)
    rw [hm] at HP
    have HPE : Hid (Idn.parse s.data.toList = if (Lab.parse (Idn.mid s.data.toList)).2 ≠ 0 then (Idn.zero, 3) else if Idn.text (Idn.pre s.data.toList) = s.data.toList then (Idn.pre s.data.toList, 0) else (Idn.zero, 3)) := Lib.hid (by unfold Idn.parse; rw [hl, if_neg h3])
    have HPR : Hid (Idn.pre s.data.toList = ((Lab.parse (Idn.mid s.data.toList)).1, Lib.indexByte Idn.letters (s.data.toList.getD 0 0), ((s.data.toList.getD (s.size - 1) 0).toNat : Int) - 48)) := Lib.hid (by unfold Idn.pre; rw [hl])
    have h3' : ¬ (s.size : Int) - 2 < 1 := by omega
    have HL := Lib.hid (hL.below HB0.out)
    have HLw := Lib.hid hL
    have hsl : ∀ W, (Instr.slice 9 (.string s) (some (.int .i64 1)) (some (.int .i64 ((s.size : Int) - 2))) none).run Tryz.prog W = .ok (.string (s.extract 1 (s.size - 2))) W := fun W => by
      rw [run_slice_string W 9 s .i64 .i64 1 ((s.size : Int) - 2) Tryz.underlying9 (by omega) (by omega) (by omega)]
      rw [show ((s.size : Int) - 2).toNat = s.size - 2 by omega]; rfl
    have hx0 := index_string s 0 0 rfl (by omega)
    have hx1 := index_string s ((s.size : Int) - 2 + 1) (s.size - 1) (by omega) (by omega)
    have he := lab_parse_e (Idn.mid s.data.toList)
    have HOK := Lib.hid (lab_parse_lab (Idn.mid s.data.toList))
    have HX : Hid (∀ w : World, Calls Tryz.prog 159 #[.string ⟨#[32, 112, 109, 102]⟩, .int .u8 ((s.data.toList.getD 0 0).toNat : Int)] w fun e w' => e = .returned (.int .i64 (Lib.indexByte Idn.letters (s.data.toList.getD 0 0))) ∧ Below w.heap.size w w') := Lib.hid fun w => (Tryz.strings_IndexByte ⟨#[32, 112, 109, 102]⟩ ((s.data.toList.getD 0 0).toNat : Int) w).mono fun e w' ⟨h1, h2⟩ => ⟨by rw [h1]; show Ending.returned (.int .i64 (Lib.indexByte Idn.letters ((((s.data.toList.getD 0 0).toNat : Int).toNat).toUInt8))) = _; simp, by rw [h2]; exact Below.refl _ _⟩
    have hc0 : (s.data.toList.getD (s.size - 1) 0).toNat < 256 := UInt8.toNat_lt _
    generalize Lab.parse (Idn.mid s.data.toList) = q at HP HPE HPR he HOK
    obtain ⟨a, e⟩ := q
    simp only at HP HPE HPR he HOK
    clear hL hm hl h3
    generalize Lib.indexByte Idn.letters (s.data.toList.getD 0 0) = kk at HX HPR
    generalize (s.data.toList.getD 0 0) = b0 at hx0 HX
    generalize (s.data.toList.getD (s.size - 1) 0) = b1 at hx1 HPR hc0
    generalize Idn.pre s.data.toList = pr at HPE HPR
    generalize Idn.parse s.data.toList = res at HPE
    obtain rfl := HPR.out
    have hwr : IntKind.i64.wrap ((b1.toNat : Int) - 48) = (b1.toNat : Int) - 48 := IntWalk.i64_in _ (by omega)
    rcases he with rfl | rfl
    · simp only [ne_eq, not_true_eq_false, if_false] at HPE
      have HTX := Lib.hid (fun w hT hW => itext_ok (a, kk, (b1.toNat : Int) - 48) HOK.out w hT hW)
      have HBI := Lib.hid (bytes_of_list (s := s) (l := Idn.text (a, kk, (b1.toNat : Int) - 48)))
      generalize Idn.text (a, kk, (b1.toNat : Int) - 48) = tx at HPE HTX HBI
      have hw1 : IntKind.i64.wrap ((s.size : Int) - 2 + 1) = (s.size : Int) - 2 + 1 := IntWalk.i64_in _ (by omega)
      have hw2 : IntKind.i64.wrap (b1.toNat : Int) = (b1.toNat : Int) := IntWalk.i64_in _ (by omega)
      go_enter Tryz.func86, Tryz.ntmps86
      go_upto_region 7 with (go_at_call 77; refine (HP.out _ HL.out).mono ?_; rintro e w1 ⟨rfl, hb1⟩; obtain ⟨hc, hf⟩ := bcell hb1; have hz1 : w.heap.size < w1.heap.size := by (have := hb1.size; simp at this; omega))
      have hb9 := below_here HB0.out (below_new hb1 (.cells #[.int .u16 (a.1 : Int), .int .u16 (a.2 : Int)] 25))
      have hr9 := block_below (below_new hb1 (.cells #[.int .u16 (a.1 : Int), .int .u16 (a.2 : Int)] 25)) HR.out
      have hl9 := heap_alloc_new w1 (.cells #[.int .u16 (a.1 : Int), .int .u16 (a.2 : Int)] 25)
      clear hc hf hb1
      generalize hw9 : w1.alloc (.cells #[.int .u16 (a.1 : Int), .int .u16 (a.2 : Int)] 25) = w9 at hb9 hr9 hl9 ⊢
      clear hw9
      generalize w1.heap.size = n1 at hl9 hz1 ⊢
      obtain ⟨c1, c2, f1, f2⟩ := pair_cells hl9
      have hn1 : n1 < w9.heap.size := (Array.getElem?_eq_some_iff.1 hl9).1
      have HB9 := Lib.hid hb9
      have HR9 := Lib.hid hr9
      clear hb9 hr9 hl9
      refine wp_region_freeA 12 [some 24, some 25, some 26, some 27, some 28, some 29, some 30, some 31, some 32, some 33, some 34, some 7] (fun W => ∃ X, W = over w9 X) [Fact.is (labV a), Fact.is (.string s), Fact.is (.int .u8 (b0.toNat : Int)), Fact.is (.int .i64 kk), Fact.is (.string s), Fact.is (.int .i64 ((s.size : Int) - 2)), Fact.is (.int .i64 ((s.size : Int) - 2 + 1)), Fact.is (.int .u8 (b1.toNat : Int)), Fact.is (.int .i64 (b1.toNat : Int)), Fact.is (.int .i64 ((b1.toNat : Int) - 48)), Fact.is (idV (a, kk, (b1.toNat : Int) - 48)), Fact.blk w9.heap.size (.cells #[.int .u16 0, .int .u16 0, .int .i64 0, .int .i64 0] 64)] [11] (by kernel_rfl) (by kernel_rfl) ?same (over_of (Below.refl _ _).drew) ?steps ?fin
      case same => kernel_rfl
      case steps =>
        simp only [List.take_succ_cons, List.take_zero, stepsI]
        refine ⟨⟨fun v u => by kernel_rfl, ?s0⟩, ⟨fun v u => by kernel_rfl, ?s1⟩, ⟨fun v u => by kernel_rfl, ?s2⟩, ⟨fun v u => by kernel_rfl, ?s3⟩, ⟨fun v u => by kernel_rfl, ?s4⟩, ⟨fun v u => by kernel_rfl, ?s5⟩, ⟨fun v u => by kernel_rfl, ?s6⟩, ⟨fun v u => by kernel_rfl, ?s7⟩, ⟨fun v u => by kernel_rfl, ?s8⟩, ⟨fun v u => by kernel_rfl, ?s9⟩, ⟨fun v u => by kernel_rfl, ?s10⟩, ⟨fun v u => by kernel_rfl, ?s11⟩, trivial⟩
        case s0 =>
          intro v W hW hp
          obtain ⟨X, rfl⟩ := hW
          clear hp
          simp only [mkA, setAll, List.setIfInBounds_toArray, List.set_cons_succ, List.set_cons_zero]
          refine .inl ⟨rfl, ?_⟩
          go_simp
          first | exact ⟨⟨X, rfl⟩, Below.refl _ _, rfl⟩ | exact ⟨⟨X, rfl⟩, Below.refl _ _, rfl, fun h => by cases h⟩
        case s1 =>
          intro v W hW hp
          obtain ⟨X, rfl⟩ := hW
          clear hp
          simp only [mkA, setAll, List.setIfInBounds_toArray, List.set_cons_succ, List.set_cons_zero]
          refine .inl ⟨rfl, ?_⟩
          go_simp
          first | exact ⟨⟨X, rfl⟩, Below.refl _ _, rfl⟩ | exact ⟨⟨X, rfl⟩, Below.refl _ _, rfl, fun h => by cases h⟩
        case s2 =>
          intro v W hW hp
          obtain ⟨X, rfl⟩ := hW
          have g1 : v 1 = .string s := hp ⟨1, .data⟩ (by simp) rfl
          clear hp
          simp only [mkA, setAll, List.setIfInBounds_toArray, List.set_cons_succ, List.set_cons_zero]
          refine .inl ⟨rfl, ?_⟩
          go_simp
          first | exact ⟨⟨X, rfl⟩, Below.refl _ _, rfl⟩ | exact ⟨⟨X, rfl⟩, Below.refl _ _, rfl, fun h => by cases h⟩
        case s3 =>
          intro v W hW hp
          obtain ⟨X, rfl⟩ := hW
          have g2 : v 2 = .int .u8 (b0.toNat : Int) := hp ⟨2, .data⟩ (by simp) rfl
          clear hp
          simp only [mkA, setAll, List.setIfInBounds_toArray, List.set_cons_succ, List.set_cons_zero]
          refine .inl ⟨rfl, ?_⟩
          go_simp
          refine (HX.out _).mono ?_
          rintro e W2 ⟨rfl, hb2⟩
          first | exact ⟨_, rfl, over_of (below_here (over_below _ _) hb2), hb2, rfl⟩ | exact ⟨_, rfl, over_of (below_here (over_below _ _) hb2), hb2, rfl, fun h => by cases h⟩
        case s4 =>
          intro v W hW hp
          obtain ⟨X, rfl⟩ := hW
          clear hp
          simp only [mkA, setAll, List.setIfInBounds_toArray, List.set_cons_succ, List.set_cons_zero]
          refine .inl ⟨rfl, ?_⟩
          go_simp
          first | exact ⟨⟨X, rfl⟩, Below.refl _ _, rfl⟩ | exact ⟨⟨X, rfl⟩, Below.refl _ _, rfl, fun h => by cases h⟩
        case s5 =>
          intro v W hW hp
          obtain ⟨X, rfl⟩ := hW
          clear hp
          simp only [mkA, setAll, List.setIfInBounds_toArray, List.set_cons_succ, List.set_cons_zero]
          refine .inl ⟨rfl, ?_⟩
          go_simp
          first | exact ⟨⟨X, rfl⟩, Below.refl _ _, rfl⟩ | exact ⟨⟨X, rfl⟩, Below.refl _ _, rfl, fun h => by cases h⟩
        case s6 =>
          intro v W hW hp
          obtain ⟨X, rfl⟩ := hW
          have g5 : v 5 = .int .i64 ((s.size : Int) - 2) := hp ⟨5, .data⟩ (by simp) rfl
          clear hp
          simp only [mkA, setAll, List.setIfInBounds_toArray, List.set_cons_succ, List.set_cons_zero]
          refine .inl ⟨rfl, ?_⟩
          go_simp
          first | exact ⟨⟨X, rfl⟩, Below.refl _ _, rfl⟩ | exact ⟨⟨X, rfl⟩, Below.refl _ _, rfl, fun h => by cases h⟩
        case s7 =>
          intro v W hW hp
          obtain ⟨X, rfl⟩ := hW
          have g4 : v 4 = .string s := hp ⟨4, .data⟩ (by simp) rfl
          have g6 : v 6 = .int .i64 ((s.size : Int) - 2 + 1) := hp ⟨6, .data⟩ (by simp) rfl
          clear hp
          simp only [mkA, setAll, List.setIfInBounds_toArray, List.set_cons_succ, List.set_cons_zero]
          refine .inl ⟨rfl, ?_⟩
          go_simp
          first | exact ⟨⟨X, rfl⟩, Below.refl _ _, rfl⟩ | exact ⟨⟨X, rfl⟩, Below.refl _ _, rfl, fun h => by cases h⟩
        case s8 =>
          intro v W hW hp
          obtain ⟨X, rfl⟩ := hW
          have g7 : v 7 = .int .u8 (b1.toNat : Int) := hp ⟨7, .data⟩ (by simp) rfl
          clear hp
          simp only [mkA, setAll, List.setIfInBounds_toArray, List.set_cons_succ, List.set_cons_zero]
          refine .inl ⟨rfl, ?_⟩
          go_simp
          first | exact ⟨⟨X, rfl⟩, Below.refl _ _, rfl⟩ | exact ⟨⟨X, rfl⟩, Below.refl _ _, rfl, fun h => by cases h⟩
        case s9 =>
          intro v W hW hp
          obtain ⟨X, rfl⟩ := hW
          have g8 : v 8 = .int .i64 (b1.toNat : Int) := hp ⟨8, .data⟩ (by simp) rfl
          clear hp
          simp only [mkA, setAll, List.setIfInBounds_toArray, List.set_cons_succ, List.set_cons_zero]
          refine .inl ⟨rfl, ?_⟩
          go_simp
          first | exact ⟨⟨X, rfl⟩, Below.refl _ _, rfl⟩ | exact ⟨⟨X, rfl⟩, Below.refl _ _, rfl, fun h => by cases h⟩
        case s10 =>
          intro v W hW hp
          obtain ⟨X, rfl⟩ := hW
          have g0 : v 0 = labV a := hp ⟨0, .data⟩ (by simp) rfl
          have g3 : v 3 = .int .i64 kk := hp ⟨3, .data⟩ (by simp) rfl
          have g9 : v 9 = .int .i64 ((b1.toNat : Int) - 48) := hp ⟨9, .data⟩ (by simp) rfl
          clear hp
          simp only [mkA, setAll, List.setIfInBounds_toArray, List.set_cons_succ, List.set_cons_zero]
          refine .inl ⟨rfl, ?_⟩
          go_simp
          first | exact ⟨⟨X, rfl⟩, Below.refl _ _, rfl⟩ | exact ⟨⟨X, rfl⟩, Below.refl _ _, rfl, fun h => by cases h⟩
        case s11 =>
          intro v W hW hp
          obtain ⟨X, rfl⟩ := hW
          clear hp
          simp only [mkA, setAll, List.setIfInBounds_toArray, List.set_cons_succ, List.set_cons_zero]
          refine .inl ⟨rfl, ?_⟩
          go_simp
          exact ⟨over_of (below_new (over_below _ _) _), below_fresh _ _, ⟨_, rfl, heap_alloc_new _ _, (over_below w9 X).size⟩, _, rfl, Nat.le_refl _, by simp⟩
      case fin =>
        intro v W hW hR hD
        have hbW := below_of_over hW
        have g10 : v 10 = _ := hR 10 (by omega)
        obtain ⟨p, g11, hp, hNp⟩ := hR 11 (by omega)
        simp only [List.drop_succ_cons, List.drop_zero, mkA, setAll, List.setIfInBounds_toArray, List.set_cons_succ, List.set_cons_zero, g10, g11]
        generalize v 0 = u0
        generalize v 1 = u1
        generalize v 2 = u2
        generalize v 3 = u3
        generalize v 4 = u4
        generalize v 5 = u5
        generalize v 6 = u6
        generalize v 7 = u7
        generalize v 8 = u8
        generalize v 9 = u9
        clear hR hD hW g10 g11
        obtain ⟨⟨x0, x1, x2, x3⟩, y0, y1, y2, y3, hpl⟩ := quad_cells hp
        go_upto_region 8 with (fail)
        obtain ⟨W4, hW4⟩ : ∃ W4, W4 = ((((W.setCell ⟨p, 0, none⟩ (.int .u16 (a.1 : Int))).setCell ⟨p, 1, none⟩ (.int .u16 (a.2 : Int))).setCell ⟨p, 2, none⟩ (.int .i64 kk)).setCell ⟨p, 3, none⟩ (.int .i64 ((b1.toNat : Int) - 48))) := ⟨_, rfl⟩
        have hb4 : Below w9.heap.size w9 W4 := by rw [hW4]; exact below_quad hbW hNp _ _ _ _
        have hp4 : W4.heap[p]? = some (.cells #[.int .u16 (a.1 : Int), .int .u16 (a.2 : Int), .int .i64 kk, .int .i64 ((b1.toNat : Int) - 48)] 64 (0, 0)) := by rw [hW4]; exact set_quad' W p _ _ _ _ _ _ _ _ _ hp
        have hr4 := block_below hb4 HR9.out
        rw [← hW4]
        have HB4 := Lib.hid (below_here HB9.out hb4)
        have HLW := Lib.hid (HLw.out.below HB4.out)
        clear hW4 hb4 hbW hp x0 x1 x2 x3 y0 y1 y2 y3 hpl c1 c2 f1 f2 hn1
        obtain ⟨⟨x0, x1, x2, x3⟩, y0, y1, y2, y3, hpl⟩ := quad_cells hp4
        obtain ⟨⟨c0, c1, c2, c3⟩, f0, f1, f2, f3, hrl⟩ := quad_cells hr4
        have HPW := Lib.hid hp4
        have HRW := Lib.hid hr4
        clear hp4 hr4
        by_cases htx : tx = s.data.toList
        · have hts := HBI.out.2 htx
          rw [if_pos htx] at HPE
          rw [hts] at HTX
          clear hts htx HBI
          go_wp2_with (go_at_call 37; refine (HTX.out _ HLW.out.tab HLW.out.pow).mono ?_; rintro e w5 ⟨rfl, hb5⟩; have hp5 := block_below hb5 HPW.out; have hr5 := block_below hb5 HRW.out; clear x0 x1 x2 x3 y0 y1 y2 y3 hpl c0 c1 c2 c3 f0 f1 f2 f3 hrl; obtain ⟨⟨x0, x1, x2, x3⟩, y0, y1, y2, y3, hpl⟩ := quad_cells hp5; obtain ⟨⟨c0, c1, c2, c3⟩, f0, f1, f2, f3, hrl⟩ := quad_cells hr5)
          have hb6 := below_here HB4.out hb5
          rw [HPE.out]
          refine id_ret2 Tryz.results86 w.heap.size rfl (a, kk, (b1.toNat : Int) - 48) (set_quad' _ _ _ _ _ _ _ _ _ _ _ hr5) rfl ⟨rfl, below_quad hb6 (Nat.le_refl _) _ _ _ _⟩
        · have hts := mt HBI.out.1 htx
          rw [if_neg htx] at HPE
          generalize (⟨tx.toArray⟩ : ByteArray) = tb at HTX hts
          have hcmp : (tb.toList == s.toList) = false := (Lib.bytes_beq_false_iff _ _).2 hts
          clear htx HBI
          go_wp2_with (go_at_call 37; refine (HTX.out _ HLW.out.tab HLW.out.pow).mono ?_; rintro e w5 ⟨rfl, hb5⟩; have hp5 := block_below hb5 HPW.out; have hr5 := block_below hb5 HRW.out; clear x0 x1 x2 x3 y0 y1 y2 y3 hpl c0 c1 c2 c3 f0 f1 f2 f3 hrl; obtain ⟨⟨x0, x1, x2, x3⟩, y0, y1, y2, y3, hpl⟩ := quad_cells hp5; obtain ⟨⟨c0, c1, c2, c3⟩, f0, f1, f2, f3, hrl⟩ := quad_cells hr5)
          have hb6 := below_here HB4.out hb5
          rw [HPE.out]
          refine id_ret2 Tryz.results86 w.heap.size rfl Idn.zero (set_quad' _ _ _ _ _ _ _ _ _ _ _ hr5) rfl ⟨rfl, below_quad hb6 (Nat.le_refl _) _ _ _ _⟩
    · have hres : res = (Idn.zero, 3) := by rw [HPE.out, if_pos (by decide)]
      have HRES := Lib.hid hres
      clear hres
      go_enter Tryz.func86, Tryz.ntmps86
      go_wp2_with (go_at_call 77; refine (HP.out _ HL.out).mono ?_; rintro e w1 ⟨rfl, hb1⟩; have hr1 := block_below hb1 HR.out; obtain ⟨⟨c0, c1, c2, c3⟩, f0, f1, f2, f3, hrl⟩ := quad_cells hr1; have hz1 : w.heap.size < w1.heap.size := by (have := hb1.size; simp at this; omega))
      rw [HRES.out]
      have hb2 := below_here HB0.out hb1
      refine id_ret2 Tryz.results86 w.heap.size rfl Idn.zero (block_below (below_fresh _ _) (set_quad' _ _ _ _ _ _ _ _ _ _ _ hr1)) rfl ⟨rfl, below_new (below_quad hb2 (Nat.le_refl _) _ _ _ _) _⟩
end Go.Proofs.YtlmacaenbililaaGreatDoor
