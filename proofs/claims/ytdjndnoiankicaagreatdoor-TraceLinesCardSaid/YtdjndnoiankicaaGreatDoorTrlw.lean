/- TraceLines: the walk. No conditions. -/
import Derived.Test.YtdjndnoiankicaaGreatDoorJc
import Derived.Test.YtdjndnoiankicaaGreatDoorJa
import Derived.Test.YtdjndnoiankicaaGreatDoorTral
namespace Go.Proofs.YtdjndnoiankicaaGreatDoor
open Go.RowKit Go.Shelf
set_option linter.unusedSimpArgs false
set_option linter.unusedVariables false
attribute [local go_sem] cell_over frozen_over

/-- An entry's nine cells in a block. -/
def EnIn (n : Nat) (t : TypeId) (e : Tr.E) (W : World) : Prop := W.heap[n]? = some (.cells #[.int .i64 e.1, .int .u16 (e.2.1.1.1 : Int), .int .u16 (e.2.1.1.2 : Int), .int .i64 e.2.1.2.1, .int .i64 e.2.1.2.2, .int .u16 (e.2.2.1.1 : Int), .int .u16 (e.2.2.1.2 : Int), .int .i64 e.2.2.2.1, .string e.2.2.2.2] t (0, 0))
theorem EnIn.below {n : Nat} {t : TypeId} {e : Tr.E} {W W' : World} (h : EnIn n t e W) (hb : Below W.heap.size W W') : EnIn n t e W' := block_below hb h
theorem line_size (e : Tr.E) (he : Tr.ok e) (hs : e.2.2.2.2.size ≤ 300) : (⟨(Tr.line e).toArray⟩ : ByteArray).size ≤ 1000 := by
  obtain ⟨⟨a0, a1⟩, _, _, b0, b1⟩ := he
  show (Tr.line e).toArray.size ≤ 1000
  rw [List.size_toArray]
  have hj := join5_len (Lib.itoa e.1) (Idn.text e.2.1) (Lab.text e.2.2.1) (Lib.itoa e.2.2.2.1) (Tr.hex e.2.2.2.2.data.toList)
  have l1 := Lib.itoa_length_le e.1 a0 a1
  have l2 := Lib.itoa_length_le e.2.2.2.1 b0 b1
  have l3 := idtext_len e.2.1
  have l4 := Lab.text_len e.2.2.1
  have l5 : (Tr.hex e.2.2.2.2.data.toList).length ≤ 601 := by
    unfold Tr.hex
    split
    · simp
    · rw [Tr.hexl_len, Array.length_toList]; have : e.2.2.2.2.data.size ≤ 300 := hs; omega
  show (Lib.join [Lib.itoa e.1, Idn.text e.2.1, Lab.text e.2.2.1, Lib.itoa e.2.2.2.1, Tr.hex e.2.2.2.2.data.toList] [32]).length ≤ 1000
  omega
theorem rres_is (s : ByteArray) : rres (Tr.rparse s.data.toList) = .tuple #[trV (Tr.parse s).1, .bool (decide ((Tr.parse s).2 = 0))] := by
  rw [Tr.rparse_is]
  rcases Tr.parse_e s with h | h
  · rw [if_pos h, decide_eq_true h]; rfl
  · rw [h]; rfl
set_option maxRecDepth 100000 in
set_option maxHeartbeats 4000000 in
theorem trlines_big (e : Tr.E) (s : ByteArray) (h : 1000 < s.size ∨ (s.size ≤ 1000 ∧ 300 < e.2.2.2.2.size)) (w : World) (hL : LaidAt w) :
    Calls Tryz.prog 3 #[trV e, .string s] w fun r w' => r = .returned (.bool true) ∧ Below w.heap.size w w' := by
  have HBW := Lib.hid (below_fresh w (.cells #[.int .i64 e.1, .int .u16 (e.2.1.1.1 : Int), .int .u16 (e.2.1.1.2 : Int), .int .i64 e.2.1.2.1, .int .i64 e.2.1.2.2, .int .u16 (e.2.2.1.1 : Int), .int .u16 (e.2.2.1.2 : Int), .int .i64 e.2.2.2.1, .string e.2.2.2.2] 31))
  have HL := Lib.hid (tralive_ok _ (hL.below HBW.out))
  clear hL
  obtain ⟨at', ⟨⟨x1, x2⟩, x3, x4⟩, ⟨y1, y2⟩, er, da⟩ := e
  simp only at h HBW HL
  rcases h with h1 | ⟨h1, h2⟩
  · have g1 : (1000 : Int) < (s.size : Int) := by omega
    clear h1
    go_enter Tryz.func3, Tryz.ntmps3
    go_wp2_with fail
    refine HL.out.mono ?_
    rintro r w1 ⟨rfl, hb1⟩
    go_wp2_with fail
    go_ret
    exact ⟨rfl, below_here HBW.out hb1⟩
  · have g1 : ¬ (1000 : Int) < (s.size : Int) := by omega
    have g2 : (300 : Int) < (da.size : Int) := by omega
    clear h1 h2
    go_enter Tryz.func3, Tryz.ntmps3
    go_wp2_with fail
    refine HL.out.mono ?_
    rintro r w1 ⟨rfl, hb1⟩
    go_wp2_with fail
    go_ret
    exact ⟨rfl, below_here HBW.out hb1⟩
set_option maxRecDepth 100000 in
set_option maxHeartbeats 16000000 in
theorem trlines_few (e : Tr.E) (he : Tr.ok e) (s : ByteArray) (hs : s.size ≤ 1000) (hd : e.2.2.2.2.size ≤ 300) (w : World) (hL : LaidAt w) :
    Calls Tryz.prog 3 #[trV e, .string s] w fun r w' => r = .returned (.bool true) ∧ Below w.heap.size w w' := by
  have g1 : ¬ (1000 : Int) < (s.size : Int) := by omega
  have g2 : ¬ (300 : Int) < (e.2.2.2.2.size : Int) := by omega
  have HB := Lib.hid (below_fresh w (.cells #[.int .i64 e.1, .int .u16 (e.2.1.1.1 : Int), .int .u16 (e.2.1.1.2 : Int), .int .i64 e.2.1.2.1, .int .i64 e.2.1.2.2, .int .u16 (e.2.2.1.1 : Int), .int .u16 (e.2.2.1.2 : Int), .int .i64 e.2.2.2.1, .string e.2.2.2.2] 31))
  have HE := Lib.hid (show EnIn w.heap.size 31 e (w.alloc (.cells #[.int .i64 e.1, .int .u16 (e.2.1.1.1 : Int), .int .u16 (e.2.1.1.2 : Int), .int .i64 e.2.1.2.1, .int .i64 e.2.1.2.2, .int .u16 (e.2.2.1.1 : Int), .int .u16 (e.2.2.1.2 : Int), .int .i64 e.2.2.2.1, .string e.2.2.2.2] 31)) from heap_alloc_new w _)
  have HLw := Lib.hid hL
  have HP := Lib.hid (fun w h => trparse_ok s hs w h)
  have HQ := Lib.hid (fun w => rtrparse_ok s hs w)
  rw [rres_is] at HQ
  have hp := Tr.parse_e s
  have HF := Lib.hid (fun w => rfine_ok e.2.1 w)
  have HT := Lib.hid (fun w hT hW => trline_ok e he (by omega) w hT hW)
  have HR := Lib.hid (fun (h0 : 0 ≤ e.1) (h1 : 0 ≤ e.2.2.2.1) w => rtrline_ok e he h0 h1 (by omega) w)
  have HZ := Lib.hid (fun w h => trparse_ok ⟨(Tr.line e).toArray⟩ (line_size e he hd) w h)
  have HRD := Lib.hid (fun (h1 : 0 ≤ e.1) (h2 : Idn.fine e.2.1 = true) (h4 : 0 ≤ e.2.2.2.1) => Tr.reads (s := ⟨(Tr.line e).toArray⟩) h1 ⟨h2, he.2.1⟩ he.2.2.1 h4 (by simp))
  generalize Tr.parse s = q at HP HQ hp
  generalize Tr.parse ⟨(Tr.line e).toArray⟩ = zz at HZ HRD
  generalize (⟨(Tr.line e).toArray⟩ : ByteArray) = TL at HT HR HZ
  obtain ⟨x, c⟩ := q
  have hways : c = 0 ∨ (x = Tr.zero ∧ c = 3) := by
    rcases hp with h | h
    · exact .inl h
    · exact .inr (by simpa using h)
  have hw2 : Idn.fine e.2.1 = false ∨ (Idn.fine e.2.1 = true ∧ e.1 < 0) ∨ (Idn.fine e.2.1 = true ∧ ¬ e.1 < 0 ∧ e.2.2.2.1 < 0) ∨ (Idn.fine e.2.1 = true ∧ ¬ e.1 < 0 ∧ ¬ e.2.2.2.1 < 0) := by
    cases Idn.fine e.2.1 <;> simp <;> omega
  generalize Idn.fine e.2.1 = fi at HF HRD hw2
  clear hL hp hs hd he
  obtain ⟨at', ⟨⟨x1, x2⟩, x3, x4⟩, ⟨y1, y2⟩, er, da⟩ := e
  simp only at HB HE HF HT HR HRD g2 hw2 HP HQ
  rcases hways with rfl | ⟨rfl, rfl⟩
  · rw [show decide ((0 : Int) = 0) = true from rfl] at HQ
    obtain ⟨⟨k0, k1, k2, k3, k4, k5, k6, k7, k8⟩, ⟨kf0, kf1, kf2, kf3, kf4, kf5, kf6, kf7, kf8⟩, kl⟩ := nine_cells HE.out
    simp only at k0 k1 k2 k3 k4 k5 k6 k7 k8
    go_enter Tryz.func3, Tryz.ntmps3
    go_wp2_with fail
    refine (HP.out _ (HLw.out.below HB.out)).mono ?_
    rintro r w1 ⟨rfl, hb⟩
    replace HE := Lib.hid ((HE.out.below hb).below (below_fresh w1 (.cells #[.int .i64 x.1, .int .u16 (x.2.1.1.1 : Int), .int .u16 (x.2.1.1.2 : Int), .int .i64 x.2.1.2.1, .int .i64 x.2.1.2.2, .int .u16 (x.2.2.1.1 : Int), .int .u16 (x.2.2.1.2 : Int), .int .i64 x.2.2.2.1, .string x.2.2.2.2] 33)))
    replace HB := Lib.hid (below_new (below_here HB.out hb) (.cells #[.int .i64 x.1, .int .u16 (x.2.1.1.1 : Int), .int .u16 (x.2.1.1.2 : Int), .int .i64 x.2.1.2.1, .int .i64 x.2.1.2.2, .int .u16 (x.2.2.1.1 : Int), .int .u16 (x.2.2.1.2 : Int), .int .i64 x.2.2.2.1, .string x.2.2.2.2] 33))
    have HX := Lib.hid (show EnIn w1.heap.size 33 x (w1.alloc (.cells #[.int .i64 x.1, .int .u16 (x.2.1.1.1 : Int), .int .u16 (x.2.1.1.2 : Int), .int .i64 x.2.1.2.1, .int .i64 x.2.1.2.2, .int .u16 (x.2.2.1.1 : Int), .int .u16 (x.2.2.1.2 : Int), .int .i64 x.2.2.2.1, .string x.2.2.2.2] 33)) from heap_alloc_new w1 _)
    clear k0 k1 k2 k3 k4 k5 k6 k7 k8 kf0 kf1 kf2 kf3 kf4 kf5 kf6 kf7 kf8 kl
    clear hb
    go_wp2_with fail
    refine (HQ.out _).mono ?_
    rintro r w2 ⟨rfl, hb⟩
    replace HE := Lib.hid ((HE.out.below hb).below (below_fresh w2 (.cells #[.int .i64 x.1, .int .u16 (x.2.1.1.1 : Int), .int .u16 (x.2.1.1.2 : Int), .int .i64 x.2.1.2.1, .int .i64 x.2.1.2.2, .int .u16 (x.2.2.1.1 : Int), .int .u16 (x.2.2.1.2 : Int), .int .i64 x.2.2.2.1, .string x.2.2.2.2] 31)))
    replace HX := Lib.hid ((HX.out.below hb).below (below_fresh w2 (.cells #[.int .i64 x.1, .int .u16 (x.2.1.1.1 : Int), .int .u16 (x.2.1.1.2 : Int), .int .i64 x.2.1.2.1, .int .i64 x.2.1.2.2, .int .u16 (x.2.2.1.1 : Int), .int .u16 (x.2.2.1.2 : Int), .int .i64 x.2.2.2.1, .string x.2.2.2.2] 31)))
    replace HB := Lib.hid (below_new (below_here HB.out hb) (.cells #[.int .i64 x.1, .int .u16 (x.2.1.1.1 : Int), .int .u16 (x.2.1.1.2 : Int), .int .i64 x.2.1.2.1, .int .i64 x.2.1.2.2, .int .u16 (x.2.2.1.1 : Int), .int .u16 (x.2.2.1.2 : Int), .int .i64 x.2.2.2.1, .string x.2.2.2.2] 31))
    clear hb
    obtain ⟨⟨k0, k1, k2, k3, k4, k5, k6, k7, k8⟩, ⟨kf0, kf1, kf2, kf3, kf4, kf5, kf6, kf7, kf8⟩, kl⟩ := nine_cells HE.out
    obtain ⟨⟨j0, j1, j2, j3, j4, j5, j6, j7, j8⟩, ⟨jf0, jf1, jf2, jf3, jf4, jf5, jf6, jf7, jf8⟩, jl⟩ := nine_cells HX.out
    simp only at k0 k1 k2 k3 k4 k5 k6 k7 k8
    go_wp2_with fail
    refine (HF.out _).mono ?_
    rintro r w3 ⟨rfl, hb⟩
    replace HE := Lib.hid (HE.out.below hb)
    replace HB := Lib.hid (below_here HB.out hb)
    clear k0 k1 k2 k3 k4 k5 k6 k7 k8 kf0 kf1 kf2 kf3 kf4 kf5 kf6 kf7 kf8 kl
    clear j0 j1 j2 j3 j4 j5 j6 j7 j8 jf0 jf1 jf2 jf3 jf4 jf5 jf6 jf7 jf8 jl
    clear hb HX
    obtain ⟨⟨k0, k1, k2, k3, k4, k5, k6, k7, k8⟩, ⟨kf0, kf1, kf2, kf3, kf4, kf5, kf6, kf7, kf8⟩, kl⟩ := nine_cells HE.out
    simp only at k0 k1 k2 k3 k4 k5 k6 k7 k8
    rcases hw2 with rfl | ⟨rfl, h1⟩ | ⟨rfl, h1, h2⟩ | ⟨rfl, h1, h2⟩
    case inr.inr.inr =>
      have hz := HRD.out (by omega) rfl (by omega)
      have HR2 := Lib.hid (HR.out (by omega) (by omega))
      have hfit : (at' < 1000000 ∧ er < 1000000 ∧ da.size < 256) ∨ ¬ at' < 1000000 ∨ (at' < 1000000 ∧ ¬ er < 1000000) ∨ (at' < 1000000 ∧ er < 1000000 ∧ ¬ da.size < 256) := by omega
      clear HR HRD
      rcases hfit with ⟨f1, f2, f3⟩ | f1 | ⟨f1, f2⟩ | ⟨f1, f2, f3⟩
      · rw [if_pos ⟨f1, f2, f3⟩] at hz
        have f4 : (da.size : Int) < 256 := by omega
        clear f3
        subst hz
        simp only at HZ
        go_wp2_with fail
        refine (HT.out _ (HLw.out.below HB.out).tab (HLw.out.below HB.out).pow).mono ?_
        rintro r w4 ⟨rfl, hb⟩
        replace HE := Lib.hid (HE.out.below hb)
        replace HB := Lib.hid (below_here HB.out hb)
        clear k0 k1 k2 k3 k4 k5 k6 k7 k8 kf0 kf1 kf2 kf3 kf4 kf5 kf6 kf7 kf8 kl
        clear hb
        go_wp2_with fail
        refine (HZ.out _ (HLw.out.below HB.out)).mono ?_
        rintro r w5 ⟨rfl, hb⟩
        replace HE := Lib.hid ((HE.out.below hb).below (below_fresh w5 (.cells #[.int .i64 at', .int .u16 (x1 : Int), .int .u16 (x2 : Int), .int .i64 x3, .int .i64 x4, .int .u16 (y1 : Int), .int .u16 (y2 : Int), .int .i64 er, .string da] 33)))
        replace HB := Lib.hid (below_new (below_here HB.out hb) (.cells #[.int .i64 at', .int .u16 (x1 : Int), .int .u16 (x2 : Int), .int .i64 x3, .int .i64 x4, .int .u16 (y1 : Int), .int .u16 (y2 : Int), .int .i64 er, .string da] 33))
        have HV := Lib.hid (show EnIn w5.heap.size 33 (at', ((x1, x2), x3, x4), (y1, y2), er, da) (w5.alloc (.cells #[.int .i64 at', .int .u16 (x1 : Int), .int .u16 (x2 : Int), .int .i64 x3, .int .i64 x4, .int .u16 (y1 : Int), .int .u16 (y2 : Int), .int .i64 er, .string da] 33)) from heap_alloc_new w5 _)
        clear hb
        obtain ⟨⟨k0, k1, k2, k3, k4, k5, k6, k7, k8⟩, ⟨kf0, kf1, kf2, kf3, kf4, kf5, kf6, kf7, kf8⟩, kl⟩ := nine_cells HE.out
        simp only at k0 k1 k2 k3 k4 k5 k6 k7 k8
        go_wp2_with fail
        refine (HR2.out _).mono ?_
        rintro r w6 ⟨rfl, hb⟩
        replace HE := Lib.hid (HE.out.below hb)
        replace HV := Lib.hid (HV.out.below hb)
        replace HB := Lib.hid (below_here HB.out hb)
        clear k0 k1 k2 k3 k4 k5 k6 k7 k8 kf0 kf1 kf2 kf3 kf4 kf5 kf6 kf7 kf8 kl
        clear hb
        obtain ⟨⟨k0, k1, k2, k3, k4, k5, k6, k7, k8⟩, ⟨kf0, kf1, kf2, kf3, kf4, kf5, kf6, kf7, kf8⟩, kl⟩ := nine_cells HE.out
        obtain ⟨⟨j0, j1, j2, j3, j4, j5, j6, j7, j8⟩, ⟨jf0, jf1, jf2, jf3, jf4, jf5, jf6, jf7, jf8⟩, jl⟩ := nine_cells HV.out
        simp only at k0 k1 k2 k3 k4 k5 k6 k7 k8 j0 j1 j2 j3 j4 j5 j6 j7 j8
        go_wp2_with fail
        refine (tralive_ok _ (HLw.out.below HB.out)).mono ?_
        rintro r w7 ⟨rfl, hb⟩
        go_wp2_with fail
        go_ret
        exact ⟨rfl, below_here HB.out hb⟩
      · rw [if_neg (fun h => f1 h.1)] at hz
        subst hz
        simp only at HZ
        go_wp2_with fail
        refine (HT.out _ (HLw.out.below HB.out).tab (HLw.out.below HB.out).pow).mono ?_
        rintro r w4 ⟨rfl, hb⟩
        replace HE := Lib.hid (HE.out.below hb)
        replace HB := Lib.hid (below_here HB.out hb)
        clear k0 k1 k2 k3 k4 k5 k6 k7 k8 kf0 kf1 kf2 kf3 kf4 kf5 kf6 kf7 kf8 kl
        clear hb
        go_wp2_with fail
        refine (HZ.out _ (HLw.out.below HB.out)).mono ?_
        rintro r w5 ⟨rfl, hb⟩
        replace HE := Lib.hid ((HE.out.below hb).below (below_fresh w5 (.cells #[.int .i64 Tr.zero.1, .int .u16 (Tr.zero.2.1.1.1 : Int), .int .u16 (Tr.zero.2.1.1.2 : Int), .int .i64 Tr.zero.2.1.2.1, .int .i64 Tr.zero.2.1.2.2, .int .u16 (Tr.zero.2.2.1.1 : Int), .int .u16 (Tr.zero.2.2.1.2 : Int), .int .i64 Tr.zero.2.2.2.1, .string Tr.zero.2.2.2.2] 33)))
        replace HB := Lib.hid (below_new (below_here HB.out hb) (.cells #[.int .i64 Tr.zero.1, .int .u16 (Tr.zero.2.1.1.1 : Int), .int .u16 (Tr.zero.2.1.1.2 : Int), .int .i64 Tr.zero.2.1.2.1, .int .i64 Tr.zero.2.1.2.2, .int .u16 (Tr.zero.2.2.1.1 : Int), .int .u16 (Tr.zero.2.2.1.2 : Int), .int .i64 Tr.zero.2.2.2.1, .string Tr.zero.2.2.2.2] 33))
        have HV := Lib.hid (show EnIn w5.heap.size 33 Tr.zero (w5.alloc (.cells #[.int .i64 Tr.zero.1, .int .u16 (Tr.zero.2.1.1.1 : Int), .int .u16 (Tr.zero.2.1.1.2 : Int), .int .i64 Tr.zero.2.1.2.1, .int .i64 Tr.zero.2.1.2.2, .int .u16 (Tr.zero.2.2.1.1 : Int), .int .u16 (Tr.zero.2.2.1.2 : Int), .int .i64 Tr.zero.2.2.2.1, .string Tr.zero.2.2.2.2] 33)) from heap_alloc_new w5 _)
        clear hb
        obtain ⟨⟨k0, k1, k2, k3, k4, k5, k6, k7, k8⟩, ⟨kf0, kf1, kf2, kf3, kf4, kf5, kf6, kf7, kf8⟩, kl⟩ := nine_cells HE.out
        simp only at k0 k1 k2 k3 k4 k5 k6 k7 k8
        go_wp2_with fail
        refine (HR2.out _).mono ?_
        rintro r w6 ⟨rfl, hb⟩
        replace HE := Lib.hid (HE.out.below hb)
        replace HV := Lib.hid (HV.out.below hb)
        replace HB := Lib.hid (below_here HB.out hb)
        clear k0 k1 k2 k3 k4 k5 k6 k7 k8 kf0 kf1 kf2 kf3 kf4 kf5 kf6 kf7 kf8 kl
        clear hb
        obtain ⟨⟨k0, k1, k2, k3, k4, k5, k6, k7, k8⟩, ⟨kf0, kf1, kf2, kf3, kf4, kf5, kf6, kf7, kf8⟩, kl⟩ := nine_cells HE.out
        obtain ⟨⟨j0, j1, j2, j3, j4, j5, j6, j7, j8⟩, ⟨jf0, jf1, jf2, jf3, jf4, jf5, jf6, jf7, jf8⟩, jl⟩ := nine_cells HV.out
        simp only at k0 k1 k2 k3 k4 k5 k6 k7 k8
        go_wp2_with fail
        refine (tralive_ok _ (HLw.out.below HB.out)).mono ?_
        rintro r w7 ⟨rfl, hb⟩
        go_wp2_with fail
        go_ret
        exact ⟨rfl, below_here HB.out hb⟩
      · rw [if_neg (fun h => f2 h.2.1)] at hz
        subst hz
        simp only at HZ
        go_wp2_with fail
        refine (HT.out _ (HLw.out.below HB.out).tab (HLw.out.below HB.out).pow).mono ?_
        rintro r w4 ⟨rfl, hb⟩
        replace HE := Lib.hid (HE.out.below hb)
        replace HB := Lib.hid (below_here HB.out hb)
        clear k0 k1 k2 k3 k4 k5 k6 k7 k8 kf0 kf1 kf2 kf3 kf4 kf5 kf6 kf7 kf8 kl
        clear hb
        go_wp2_with fail
        refine (HZ.out _ (HLw.out.below HB.out)).mono ?_
        rintro r w5 ⟨rfl, hb⟩
        replace HE := Lib.hid ((HE.out.below hb).below (below_fresh w5 (.cells #[.int .i64 Tr.zero.1, .int .u16 (Tr.zero.2.1.1.1 : Int), .int .u16 (Tr.zero.2.1.1.2 : Int), .int .i64 Tr.zero.2.1.2.1, .int .i64 Tr.zero.2.1.2.2, .int .u16 (Tr.zero.2.2.1.1 : Int), .int .u16 (Tr.zero.2.2.1.2 : Int), .int .i64 Tr.zero.2.2.2.1, .string Tr.zero.2.2.2.2] 33)))
        replace HB := Lib.hid (below_new (below_here HB.out hb) (.cells #[.int .i64 Tr.zero.1, .int .u16 (Tr.zero.2.1.1.1 : Int), .int .u16 (Tr.zero.2.1.1.2 : Int), .int .i64 Tr.zero.2.1.2.1, .int .i64 Tr.zero.2.1.2.2, .int .u16 (Tr.zero.2.2.1.1 : Int), .int .u16 (Tr.zero.2.2.1.2 : Int), .int .i64 Tr.zero.2.2.2.1, .string Tr.zero.2.2.2.2] 33))
        have HV := Lib.hid (show EnIn w5.heap.size 33 Tr.zero (w5.alloc (.cells #[.int .i64 Tr.zero.1, .int .u16 (Tr.zero.2.1.1.1 : Int), .int .u16 (Tr.zero.2.1.1.2 : Int), .int .i64 Tr.zero.2.1.2.1, .int .i64 Tr.zero.2.1.2.2, .int .u16 (Tr.zero.2.2.1.1 : Int), .int .u16 (Tr.zero.2.2.1.2 : Int), .int .i64 Tr.zero.2.2.2.1, .string Tr.zero.2.2.2.2] 33)) from heap_alloc_new w5 _)
        clear hb
        obtain ⟨⟨k0, k1, k2, k3, k4, k5, k6, k7, k8⟩, ⟨kf0, kf1, kf2, kf3, kf4, kf5, kf6, kf7, kf8⟩, kl⟩ := nine_cells HE.out
        simp only at k0 k1 k2 k3 k4 k5 k6 k7 k8
        go_wp2_with fail
        refine (HR2.out _).mono ?_
        rintro r w6 ⟨rfl, hb⟩
        replace HE := Lib.hid (HE.out.below hb)
        replace HV := Lib.hid (HV.out.below hb)
        replace HB := Lib.hid (below_here HB.out hb)
        clear k0 k1 k2 k3 k4 k5 k6 k7 k8 kf0 kf1 kf2 kf3 kf4 kf5 kf6 kf7 kf8 kl
        clear hb
        obtain ⟨⟨k0, k1, k2, k3, k4, k5, k6, k7, k8⟩, ⟨kf0, kf1, kf2, kf3, kf4, kf5, kf6, kf7, kf8⟩, kl⟩ := nine_cells HE.out
        obtain ⟨⟨j0, j1, j2, j3, j4, j5, j6, j7, j8⟩, ⟨jf0, jf1, jf2, jf3, jf4, jf5, jf6, jf7, jf8⟩, jl⟩ := nine_cells HV.out
        simp only at k0 k1 k2 k3 k4 k5 k6 k7 k8
        go_wp2_with fail
        refine (tralive_ok _ (HLw.out.below HB.out)).mono ?_
        rintro r w7 ⟨rfl, hb⟩
        go_wp2_with fail
        go_ret
        exact ⟨rfl, below_here HB.out hb⟩
      · rw [if_neg (fun h => f3 h.2.2)] at hz
        have f4 : ¬ (da.size : Int) < 256 := by omega
        clear f3
        subst hz
        simp only at HZ
        go_wp2_with fail
        refine (HT.out _ (HLw.out.below HB.out).tab (HLw.out.below HB.out).pow).mono ?_
        rintro r w4 ⟨rfl, hb⟩
        replace HE := Lib.hid (HE.out.below hb)
        replace HB := Lib.hid (below_here HB.out hb)
        clear k0 k1 k2 k3 k4 k5 k6 k7 k8 kf0 kf1 kf2 kf3 kf4 kf5 kf6 kf7 kf8 kl
        clear hb
        go_wp2_with fail
        refine (HZ.out _ (HLw.out.below HB.out)).mono ?_
        rintro r w5 ⟨rfl, hb⟩
        replace HE := Lib.hid ((HE.out.below hb).below (below_fresh w5 (.cells #[.int .i64 Tr.zero.1, .int .u16 (Tr.zero.2.1.1.1 : Int), .int .u16 (Tr.zero.2.1.1.2 : Int), .int .i64 Tr.zero.2.1.2.1, .int .i64 Tr.zero.2.1.2.2, .int .u16 (Tr.zero.2.2.1.1 : Int), .int .u16 (Tr.zero.2.2.1.2 : Int), .int .i64 Tr.zero.2.2.2.1, .string Tr.zero.2.2.2.2] 33)))
        replace HB := Lib.hid (below_new (below_here HB.out hb) (.cells #[.int .i64 Tr.zero.1, .int .u16 (Tr.zero.2.1.1.1 : Int), .int .u16 (Tr.zero.2.1.1.2 : Int), .int .i64 Tr.zero.2.1.2.1, .int .i64 Tr.zero.2.1.2.2, .int .u16 (Tr.zero.2.2.1.1 : Int), .int .u16 (Tr.zero.2.2.1.2 : Int), .int .i64 Tr.zero.2.2.2.1, .string Tr.zero.2.2.2.2] 33))
        have HV := Lib.hid (show EnIn w5.heap.size 33 Tr.zero (w5.alloc (.cells #[.int .i64 Tr.zero.1, .int .u16 (Tr.zero.2.1.1.1 : Int), .int .u16 (Tr.zero.2.1.1.2 : Int), .int .i64 Tr.zero.2.1.2.1, .int .i64 Tr.zero.2.1.2.2, .int .u16 (Tr.zero.2.2.1.1 : Int), .int .u16 (Tr.zero.2.2.1.2 : Int), .int .i64 Tr.zero.2.2.2.1, .string Tr.zero.2.2.2.2] 33)) from heap_alloc_new w5 _)
        clear hb
        obtain ⟨⟨k0, k1, k2, k3, k4, k5, k6, k7, k8⟩, ⟨kf0, kf1, kf2, kf3, kf4, kf5, kf6, kf7, kf8⟩, kl⟩ := nine_cells HE.out
        simp only at k0 k1 k2 k3 k4 k5 k6 k7 k8
        go_wp2_with fail
        refine (HR2.out _).mono ?_
        rintro r w6 ⟨rfl, hb⟩
        replace HE := Lib.hid (HE.out.below hb)
        replace HV := Lib.hid (HV.out.below hb)
        replace HB := Lib.hid (below_here HB.out hb)
        clear k0 k1 k2 k3 k4 k5 k6 k7 k8 kf0 kf1 kf2 kf3 kf4 kf5 kf6 kf7 kf8 kl
        clear hb
        obtain ⟨⟨k0, k1, k2, k3, k4, k5, k6, k7, k8⟩, ⟨kf0, kf1, kf2, kf3, kf4, kf5, kf6, kf7, kf8⟩, kl⟩ := nine_cells HE.out
        obtain ⟨⟨j0, j1, j2, j3, j4, j5, j6, j7, j8⟩, ⟨jf0, jf1, jf2, jf3, jf4, jf5, jf6, jf7, jf8⟩, jl⟩ := nine_cells HV.out
        simp only at k0 k1 k2 k3 k4 k5 k6 k7 k8
        go_wp2_with fail
        refine (tralive_ok _ (HLw.out.below HB.out)).mono ?_
        rintro r w7 ⟨rfl, hb⟩
        go_wp2_with fail
        go_ret
        exact ⟨rfl, below_here HB.out hb⟩
    all_goals
      clear HR HRD HZ HT
      go_wp2_with fail
      refine (tralive_ok _ (HLw.out.below HB.out)).mono ?_
      rintro r w7 ⟨rfl, hb⟩
      go_wp2_with fail
      go_ret
      exact ⟨rfl, below_here HB.out hb⟩
  · rw [show decide ((3 : Int) = 0) = false from rfl] at HQ
    obtain ⟨⟨k0, k1, k2, k3, k4, k5, k6, k7, k8⟩, ⟨kf0, kf1, kf2, kf3, kf4, kf5, kf6, kf7, kf8⟩, kl⟩ := nine_cells HE.out
    simp only at k0 k1 k2 k3 k4 k5 k6 k7 k8
    go_enter Tryz.func3, Tryz.ntmps3
    go_wp2_with fail
    refine (HP.out _ (HLw.out.below HB.out)).mono ?_
    rintro r w1 ⟨rfl, hb⟩
    replace HE := Lib.hid ((HE.out.below hb).below (below_fresh w1 (.cells #[.int .i64 Tr.zero.1, .int .u16 (Tr.zero.2.1.1.1 : Int), .int .u16 (Tr.zero.2.1.1.2 : Int), .int .i64 Tr.zero.2.1.2.1, .int .i64 Tr.zero.2.1.2.2, .int .u16 (Tr.zero.2.2.1.1 : Int), .int .u16 (Tr.zero.2.2.1.2 : Int), .int .i64 Tr.zero.2.2.2.1, .string Tr.zero.2.2.2.2] 33)))
    replace HB := Lib.hid (below_new (below_here HB.out hb) (.cells #[.int .i64 Tr.zero.1, .int .u16 (Tr.zero.2.1.1.1 : Int), .int .u16 (Tr.zero.2.1.1.2 : Int), .int .i64 Tr.zero.2.1.2.1, .int .i64 Tr.zero.2.1.2.2, .int .u16 (Tr.zero.2.2.1.1 : Int), .int .u16 (Tr.zero.2.2.1.2 : Int), .int .i64 Tr.zero.2.2.2.1, .string Tr.zero.2.2.2.2] 33))
    have HX := Lib.hid (show EnIn w1.heap.size 33 Tr.zero (w1.alloc (.cells #[.int .i64 Tr.zero.1, .int .u16 (Tr.zero.2.1.1.1 : Int), .int .u16 (Tr.zero.2.1.1.2 : Int), .int .i64 Tr.zero.2.1.2.1, .int .i64 Tr.zero.2.1.2.2, .int .u16 (Tr.zero.2.2.1.1 : Int), .int .u16 (Tr.zero.2.2.1.2 : Int), .int .i64 Tr.zero.2.2.2.1, .string Tr.zero.2.2.2.2] 33)) from heap_alloc_new w1 _)
    clear k0 k1 k2 k3 k4 k5 k6 k7 k8 kf0 kf1 kf2 kf3 kf4 kf5 kf6 kf7 kf8 kl
    clear hb
    go_wp2_with fail
    refine (HQ.out _).mono ?_
    rintro r w2 ⟨rfl, hb⟩
    replace HE := Lib.hid ((HE.out.below hb).below (below_fresh w2 (.cells #[.int .i64 Tr.zero.1, .int .u16 (Tr.zero.2.1.1.1 : Int), .int .u16 (Tr.zero.2.1.1.2 : Int), .int .i64 Tr.zero.2.1.2.1, .int .i64 Tr.zero.2.1.2.2, .int .u16 (Tr.zero.2.2.1.1 : Int), .int .u16 (Tr.zero.2.2.1.2 : Int), .int .i64 Tr.zero.2.2.2.1, .string Tr.zero.2.2.2.2] 31)))
    replace HX := Lib.hid ((HX.out.below hb).below (below_fresh w2 (.cells #[.int .i64 Tr.zero.1, .int .u16 (Tr.zero.2.1.1.1 : Int), .int .u16 (Tr.zero.2.1.1.2 : Int), .int .i64 Tr.zero.2.1.2.1, .int .i64 Tr.zero.2.1.2.2, .int .u16 (Tr.zero.2.2.1.1 : Int), .int .u16 (Tr.zero.2.2.1.2 : Int), .int .i64 Tr.zero.2.2.2.1, .string Tr.zero.2.2.2.2] 31)))
    replace HB := Lib.hid (below_new (below_here HB.out hb) (.cells #[.int .i64 Tr.zero.1, .int .u16 (Tr.zero.2.1.1.1 : Int), .int .u16 (Tr.zero.2.1.1.2 : Int), .int .i64 Tr.zero.2.1.2.1, .int .i64 Tr.zero.2.1.2.2, .int .u16 (Tr.zero.2.2.1.1 : Int), .int .u16 (Tr.zero.2.2.1.2 : Int), .int .i64 Tr.zero.2.2.2.1, .string Tr.zero.2.2.2.2] 31))
    clear hb
    obtain ⟨⟨k0, k1, k2, k3, k4, k5, k6, k7, k8⟩, ⟨kf0, kf1, kf2, kf3, kf4, kf5, kf6, kf7, kf8⟩, kl⟩ := nine_cells HE.out
    obtain ⟨⟨j0, j1, j2, j3, j4, j5, j6, j7, j8⟩, ⟨jf0, jf1, jf2, jf3, jf4, jf5, jf6, jf7, jf8⟩, jl⟩ := nine_cells HX.out
    simp only at k0 k1 k2 k3 k4 k5 k6 k7 k8
    go_wp2_with fail
    refine (HF.out _).mono ?_
    rintro r w3 ⟨rfl, hb⟩
    replace HE := Lib.hid (HE.out.below hb)
    replace HB := Lib.hid (below_here HB.out hb)
    clear k0 k1 k2 k3 k4 k5 k6 k7 k8 kf0 kf1 kf2 kf3 kf4 kf5 kf6 kf7 kf8 kl
    clear j0 j1 j2 j3 j4 j5 j6 j7 j8 jf0 jf1 jf2 jf3 jf4 jf5 jf6 jf7 jf8 jl
    clear hb HX
    obtain ⟨⟨k0, k1, k2, k3, k4, k5, k6, k7, k8⟩, ⟨kf0, kf1, kf2, kf3, kf4, kf5, kf6, kf7, kf8⟩, kl⟩ := nine_cells HE.out
    simp only at k0 k1 k2 k3 k4 k5 k6 k7 k8
    rcases hw2 with rfl | ⟨rfl, h1⟩ | ⟨rfl, h1, h2⟩ | ⟨rfl, h1, h2⟩
    case inr.inr.inr =>
      have hz := HRD.out (by omega) rfl (by omega)
      have HR2 := Lib.hid (HR.out (by omega) (by omega))
      have hfit : (at' < 1000000 ∧ er < 1000000 ∧ da.size < 256) ∨ ¬ at' < 1000000 ∨ (at' < 1000000 ∧ ¬ er < 1000000) ∨ (at' < 1000000 ∧ er < 1000000 ∧ ¬ da.size < 256) := by omega
      clear HR HRD
      rcases hfit with ⟨f1, f2, f3⟩ | f1 | ⟨f1, f2⟩ | ⟨f1, f2, f3⟩
      · rw [if_pos ⟨f1, f2, f3⟩] at hz
        have f4 : (da.size : Int) < 256 := by omega
        clear f3
        subst hz
        simp only at HZ
        go_wp2_with fail
        refine (HT.out _ (HLw.out.below HB.out).tab (HLw.out.below HB.out).pow).mono ?_
        rintro r w4 ⟨rfl, hb⟩
        replace HE := Lib.hid (HE.out.below hb)
        replace HB := Lib.hid (below_here HB.out hb)
        clear k0 k1 k2 k3 k4 k5 k6 k7 k8 kf0 kf1 kf2 kf3 kf4 kf5 kf6 kf7 kf8 kl
        clear hb
        go_wp2_with fail
        refine (HZ.out _ (HLw.out.below HB.out)).mono ?_
        rintro r w5 ⟨rfl, hb⟩
        replace HE := Lib.hid ((HE.out.below hb).below (below_fresh w5 (.cells #[.int .i64 at', .int .u16 (x1 : Int), .int .u16 (x2 : Int), .int .i64 x3, .int .i64 x4, .int .u16 (y1 : Int), .int .u16 (y2 : Int), .int .i64 er, .string da] 33)))
        replace HB := Lib.hid (below_new (below_here HB.out hb) (.cells #[.int .i64 at', .int .u16 (x1 : Int), .int .u16 (x2 : Int), .int .i64 x3, .int .i64 x4, .int .u16 (y1 : Int), .int .u16 (y2 : Int), .int .i64 er, .string da] 33))
        have HV := Lib.hid (show EnIn w5.heap.size 33 (at', ((x1, x2), x3, x4), (y1, y2), er, da) (w5.alloc (.cells #[.int .i64 at', .int .u16 (x1 : Int), .int .u16 (x2 : Int), .int .i64 x3, .int .i64 x4, .int .u16 (y1 : Int), .int .u16 (y2 : Int), .int .i64 er, .string da] 33)) from heap_alloc_new w5 _)
        clear hb
        obtain ⟨⟨k0, k1, k2, k3, k4, k5, k6, k7, k8⟩, ⟨kf0, kf1, kf2, kf3, kf4, kf5, kf6, kf7, kf8⟩, kl⟩ := nine_cells HE.out
        simp only at k0 k1 k2 k3 k4 k5 k6 k7 k8
        go_wp2_with fail
        refine (HR2.out _).mono ?_
        rintro r w6 ⟨rfl, hb⟩
        replace HE := Lib.hid (HE.out.below hb)
        replace HV := Lib.hid (HV.out.below hb)
        replace HB := Lib.hid (below_here HB.out hb)
        clear k0 k1 k2 k3 k4 k5 k6 k7 k8 kf0 kf1 kf2 kf3 kf4 kf5 kf6 kf7 kf8 kl
        clear hb
        obtain ⟨⟨k0, k1, k2, k3, k4, k5, k6, k7, k8⟩, ⟨kf0, kf1, kf2, kf3, kf4, kf5, kf6, kf7, kf8⟩, kl⟩ := nine_cells HE.out
        obtain ⟨⟨j0, j1, j2, j3, j4, j5, j6, j7, j8⟩, ⟨jf0, jf1, jf2, jf3, jf4, jf5, jf6, jf7, jf8⟩, jl⟩ := nine_cells HV.out
        simp only at k0 k1 k2 k3 k4 k5 k6 k7 k8 j0 j1 j2 j3 j4 j5 j6 j7 j8
        go_wp2_with fail
        refine (tralive_ok _ (HLw.out.below HB.out)).mono ?_
        rintro r w7 ⟨rfl, hb⟩
        go_wp2_with fail
        go_ret
        exact ⟨rfl, below_here HB.out hb⟩
      · rw [if_neg (fun h => f1 h.1)] at hz
        subst hz
        simp only at HZ
        go_wp2_with fail
        refine (HT.out _ (HLw.out.below HB.out).tab (HLw.out.below HB.out).pow).mono ?_
        rintro r w4 ⟨rfl, hb⟩
        replace HE := Lib.hid (HE.out.below hb)
        replace HB := Lib.hid (below_here HB.out hb)
        clear k0 k1 k2 k3 k4 k5 k6 k7 k8 kf0 kf1 kf2 kf3 kf4 kf5 kf6 kf7 kf8 kl
        clear hb
        go_wp2_with fail
        refine (HZ.out _ (HLw.out.below HB.out)).mono ?_
        rintro r w5 ⟨rfl, hb⟩
        replace HE := Lib.hid ((HE.out.below hb).below (below_fresh w5 (.cells #[.int .i64 Tr.zero.1, .int .u16 (Tr.zero.2.1.1.1 : Int), .int .u16 (Tr.zero.2.1.1.2 : Int), .int .i64 Tr.zero.2.1.2.1, .int .i64 Tr.zero.2.1.2.2, .int .u16 (Tr.zero.2.2.1.1 : Int), .int .u16 (Tr.zero.2.2.1.2 : Int), .int .i64 Tr.zero.2.2.2.1, .string Tr.zero.2.2.2.2] 33)))
        replace HB := Lib.hid (below_new (below_here HB.out hb) (.cells #[.int .i64 Tr.zero.1, .int .u16 (Tr.zero.2.1.1.1 : Int), .int .u16 (Tr.zero.2.1.1.2 : Int), .int .i64 Tr.zero.2.1.2.1, .int .i64 Tr.zero.2.1.2.2, .int .u16 (Tr.zero.2.2.1.1 : Int), .int .u16 (Tr.zero.2.2.1.2 : Int), .int .i64 Tr.zero.2.2.2.1, .string Tr.zero.2.2.2.2] 33))
        have HV := Lib.hid (show EnIn w5.heap.size 33 Tr.zero (w5.alloc (.cells #[.int .i64 Tr.zero.1, .int .u16 (Tr.zero.2.1.1.1 : Int), .int .u16 (Tr.zero.2.1.1.2 : Int), .int .i64 Tr.zero.2.1.2.1, .int .i64 Tr.zero.2.1.2.2, .int .u16 (Tr.zero.2.2.1.1 : Int), .int .u16 (Tr.zero.2.2.1.2 : Int), .int .i64 Tr.zero.2.2.2.1, .string Tr.zero.2.2.2.2] 33)) from heap_alloc_new w5 _)
        clear hb
        obtain ⟨⟨k0, k1, k2, k3, k4, k5, k6, k7, k8⟩, ⟨kf0, kf1, kf2, kf3, kf4, kf5, kf6, kf7, kf8⟩, kl⟩ := nine_cells HE.out
        simp only at k0 k1 k2 k3 k4 k5 k6 k7 k8
        go_wp2_with fail
        refine (HR2.out _).mono ?_
        rintro r w6 ⟨rfl, hb⟩
        replace HE := Lib.hid (HE.out.below hb)
        replace HV := Lib.hid (HV.out.below hb)
        replace HB := Lib.hid (below_here HB.out hb)
        clear k0 k1 k2 k3 k4 k5 k6 k7 k8 kf0 kf1 kf2 kf3 kf4 kf5 kf6 kf7 kf8 kl
        clear hb
        obtain ⟨⟨k0, k1, k2, k3, k4, k5, k6, k7, k8⟩, ⟨kf0, kf1, kf2, kf3, kf4, kf5, kf6, kf7, kf8⟩, kl⟩ := nine_cells HE.out
        obtain ⟨⟨j0, j1, j2, j3, j4, j5, j6, j7, j8⟩, ⟨jf0, jf1, jf2, jf3, jf4, jf5, jf6, jf7, jf8⟩, jl⟩ := nine_cells HV.out
        simp only at k0 k1 k2 k3 k4 k5 k6 k7 k8
        go_wp2_with fail
        refine (tralive_ok _ (HLw.out.below HB.out)).mono ?_
        rintro r w7 ⟨rfl, hb⟩
        go_wp2_with fail
        go_ret
        exact ⟨rfl, below_here HB.out hb⟩
      · rw [if_neg (fun h => f2 h.2.1)] at hz
        subst hz
        simp only at HZ
        go_wp2_with fail
        refine (HT.out _ (HLw.out.below HB.out).tab (HLw.out.below HB.out).pow).mono ?_
        rintro r w4 ⟨rfl, hb⟩
        replace HE := Lib.hid (HE.out.below hb)
        replace HB := Lib.hid (below_here HB.out hb)
        clear k0 k1 k2 k3 k4 k5 k6 k7 k8 kf0 kf1 kf2 kf3 kf4 kf5 kf6 kf7 kf8 kl
        clear hb
        go_wp2_with fail
        refine (HZ.out _ (HLw.out.below HB.out)).mono ?_
        rintro r w5 ⟨rfl, hb⟩
        replace HE := Lib.hid ((HE.out.below hb).below (below_fresh w5 (.cells #[.int .i64 Tr.zero.1, .int .u16 (Tr.zero.2.1.1.1 : Int), .int .u16 (Tr.zero.2.1.1.2 : Int), .int .i64 Tr.zero.2.1.2.1, .int .i64 Tr.zero.2.1.2.2, .int .u16 (Tr.zero.2.2.1.1 : Int), .int .u16 (Tr.zero.2.2.1.2 : Int), .int .i64 Tr.zero.2.2.2.1, .string Tr.zero.2.2.2.2] 33)))
        replace HB := Lib.hid (below_new (below_here HB.out hb) (.cells #[.int .i64 Tr.zero.1, .int .u16 (Tr.zero.2.1.1.1 : Int), .int .u16 (Tr.zero.2.1.1.2 : Int), .int .i64 Tr.zero.2.1.2.1, .int .i64 Tr.zero.2.1.2.2, .int .u16 (Tr.zero.2.2.1.1 : Int), .int .u16 (Tr.zero.2.2.1.2 : Int), .int .i64 Tr.zero.2.2.2.1, .string Tr.zero.2.2.2.2] 33))
        have HV := Lib.hid (show EnIn w5.heap.size 33 Tr.zero (w5.alloc (.cells #[.int .i64 Tr.zero.1, .int .u16 (Tr.zero.2.1.1.1 : Int), .int .u16 (Tr.zero.2.1.1.2 : Int), .int .i64 Tr.zero.2.1.2.1, .int .i64 Tr.zero.2.1.2.2, .int .u16 (Tr.zero.2.2.1.1 : Int), .int .u16 (Tr.zero.2.2.1.2 : Int), .int .i64 Tr.zero.2.2.2.1, .string Tr.zero.2.2.2.2] 33)) from heap_alloc_new w5 _)
        clear hb
        obtain ⟨⟨k0, k1, k2, k3, k4, k5, k6, k7, k8⟩, ⟨kf0, kf1, kf2, kf3, kf4, kf5, kf6, kf7, kf8⟩, kl⟩ := nine_cells HE.out
        simp only at k0 k1 k2 k3 k4 k5 k6 k7 k8
        go_wp2_with fail
        refine (HR2.out _).mono ?_
        rintro r w6 ⟨rfl, hb⟩
        replace HE := Lib.hid (HE.out.below hb)
        replace HV := Lib.hid (HV.out.below hb)
        replace HB := Lib.hid (below_here HB.out hb)
        clear k0 k1 k2 k3 k4 k5 k6 k7 k8 kf0 kf1 kf2 kf3 kf4 kf5 kf6 kf7 kf8 kl
        clear hb
        obtain ⟨⟨k0, k1, k2, k3, k4, k5, k6, k7, k8⟩, ⟨kf0, kf1, kf2, kf3, kf4, kf5, kf6, kf7, kf8⟩, kl⟩ := nine_cells HE.out
        obtain ⟨⟨j0, j1, j2, j3, j4, j5, j6, j7, j8⟩, ⟨jf0, jf1, jf2, jf3, jf4, jf5, jf6, jf7, jf8⟩, jl⟩ := nine_cells HV.out
        simp only at k0 k1 k2 k3 k4 k5 k6 k7 k8
        go_wp2_with fail
        refine (tralive_ok _ (HLw.out.below HB.out)).mono ?_
        rintro r w7 ⟨rfl, hb⟩
        go_wp2_with fail
        go_ret
        exact ⟨rfl, below_here HB.out hb⟩
      · rw [if_neg (fun h => f3 h.2.2)] at hz
        have f4 : ¬ (da.size : Int) < 256 := by omega
        clear f3
        subst hz
        simp only at HZ
        go_wp2_with fail
        refine (HT.out _ (HLw.out.below HB.out).tab (HLw.out.below HB.out).pow).mono ?_
        rintro r w4 ⟨rfl, hb⟩
        replace HE := Lib.hid (HE.out.below hb)
        replace HB := Lib.hid (below_here HB.out hb)
        clear k0 k1 k2 k3 k4 k5 k6 k7 k8 kf0 kf1 kf2 kf3 kf4 kf5 kf6 kf7 kf8 kl
        clear hb
        go_wp2_with fail
        refine (HZ.out _ (HLw.out.below HB.out)).mono ?_
        rintro r w5 ⟨rfl, hb⟩
        replace HE := Lib.hid ((HE.out.below hb).below (below_fresh w5 (.cells #[.int .i64 Tr.zero.1, .int .u16 (Tr.zero.2.1.1.1 : Int), .int .u16 (Tr.zero.2.1.1.2 : Int), .int .i64 Tr.zero.2.1.2.1, .int .i64 Tr.zero.2.1.2.2, .int .u16 (Tr.zero.2.2.1.1 : Int), .int .u16 (Tr.zero.2.2.1.2 : Int), .int .i64 Tr.zero.2.2.2.1, .string Tr.zero.2.2.2.2] 33)))
        replace HB := Lib.hid (below_new (below_here HB.out hb) (.cells #[.int .i64 Tr.zero.1, .int .u16 (Tr.zero.2.1.1.1 : Int), .int .u16 (Tr.zero.2.1.1.2 : Int), .int .i64 Tr.zero.2.1.2.1, .int .i64 Tr.zero.2.1.2.2, .int .u16 (Tr.zero.2.2.1.1 : Int), .int .u16 (Tr.zero.2.2.1.2 : Int), .int .i64 Tr.zero.2.2.2.1, .string Tr.zero.2.2.2.2] 33))
        have HV := Lib.hid (show EnIn w5.heap.size 33 Tr.zero (w5.alloc (.cells #[.int .i64 Tr.zero.1, .int .u16 (Tr.zero.2.1.1.1 : Int), .int .u16 (Tr.zero.2.1.1.2 : Int), .int .i64 Tr.zero.2.1.2.1, .int .i64 Tr.zero.2.1.2.2, .int .u16 (Tr.zero.2.2.1.1 : Int), .int .u16 (Tr.zero.2.2.1.2 : Int), .int .i64 Tr.zero.2.2.2.1, .string Tr.zero.2.2.2.2] 33)) from heap_alloc_new w5 _)
        clear hb
        obtain ⟨⟨k0, k1, k2, k3, k4, k5, k6, k7, k8⟩, ⟨kf0, kf1, kf2, kf3, kf4, kf5, kf6, kf7, kf8⟩, kl⟩ := nine_cells HE.out
        simp only at k0 k1 k2 k3 k4 k5 k6 k7 k8
        go_wp2_with fail
        refine (HR2.out _).mono ?_
        rintro r w6 ⟨rfl, hb⟩
        replace HE := Lib.hid (HE.out.below hb)
        replace HV := Lib.hid (HV.out.below hb)
        replace HB := Lib.hid (below_here HB.out hb)
        clear k0 k1 k2 k3 k4 k5 k6 k7 k8 kf0 kf1 kf2 kf3 kf4 kf5 kf6 kf7 kf8 kl
        clear hb
        obtain ⟨⟨k0, k1, k2, k3, k4, k5, k6, k7, k8⟩, ⟨kf0, kf1, kf2, kf3, kf4, kf5, kf6, kf7, kf8⟩, kl⟩ := nine_cells HE.out
        obtain ⟨⟨j0, j1, j2, j3, j4, j5, j6, j7, j8⟩, ⟨jf0, jf1, jf2, jf3, jf4, jf5, jf6, jf7, jf8⟩, jl⟩ := nine_cells HV.out
        simp only at k0 k1 k2 k3 k4 k5 k6 k7 k8
        go_wp2_with fail
        refine (tralive_ok _ (HLw.out.below HB.out)).mono ?_
        rintro r w7 ⟨rfl, hb⟩
        go_wp2_with fail
        go_ret
        exact ⟨rfl, below_here HB.out hb⟩
    all_goals
      clear HR HRD HZ HT
      go_wp2_with fail
      refine (tralive_ok _ (HLw.out.below HB.out)).mono ?_
      rintro r w7 ⟨rfl, hb⟩
      go_wp2_with fail
      go_ret
      exact ⟨rfl, below_here HB.out hb⟩
theorem trlines_ok (e : Tr.E) (he : Tr.ok e) (s : ByteArray) (w : World) (hL : LaidAt w) :
    Calls Tryz.prog 3 #[trV e, .string s] w fun r w' => r = .returned (.bool true) ∧ Below w.heap.size w w' := by
  by_cases h1 : s.size ≤ 1000
  · by_cases h2 : e.2.2.2.2.size ≤ 300
    · exact trlines_few e he s h1 h2 w hL
    · exact trlines_big e s (.inr ⟨h1, by omega⟩) w hL
  · exact trlines_big e s (.inl (by omega)) w hL
end Go.Proofs.YtdjndnoiankicaaGreatDoor
