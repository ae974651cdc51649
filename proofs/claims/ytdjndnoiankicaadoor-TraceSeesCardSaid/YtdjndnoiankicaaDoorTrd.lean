/- TraceMore: the walk. Entries, events, and rows of them, that came in, opened. TraceMore: at any entries that came in. No conditions. -/
import Derived.Test.YtdjndnoiankicaaDoorTral
import Derived.Test.YtdjndnoiankicaaDoorTrc
import Derived.Test.YtdjndnoiankicaaDoorLopen
namespace Go.Proofs.YtdjndnoiankicaaDoor
open Go.RowKit Go.Shelf
set_option linter.unusedSimpArgs false
set_option linter.unusedVariables false
attribute [local go_sem] cell_over frozen_over

def EvIn (n : Nat) (e : Tr.Ev) (W : World) : Prop := W.heap[n]? = some (.cells #[.int .i64 e.kind, .int .u16 (e.src.1 : Int), .int .u16 (e.src.2 : Int), .int .u16 (e.dst.1 : Int), .int .u16 (e.dst.2 : Int), .int .i64 e.epoch, .int .i64 e.role, .int .u16 (e.under.1 : Int), .int .u16 (e.under.2 : Int), .int .u16 (e.used : Int)] 48 (0, 0))
/-- What TraceMore keeps in blocks. -/
def TmEnv (n : Nat) (a b : Lab.L) (e : Tr.Ev) (W : World) : Prop := LabIn n a W ∧ LabIn (n + 1) b W ∧ EvIn (n + 1 + 1) e W
theorem TmEnv.below {n : Nat} {a b : Lab.L} {e : Tr.Ev} {W W' : World} (h : TmEnv n a b e W) (hb : Below W.heap.size W W') : TmEnv n a b e W' := ⟨h.1.below hb, h.2.1.below hb, block_below hb h.2.2⟩
theorem TmEnv.cells {n : Nat} {a b : Lab.L} {e : Tr.Ev} {W : World} (h : TmEnv n a b e W) : (W.cell? ⟨n, 0, none⟩ = some (.int .u16 (a.1 : Int)) ∧ W.cell? ⟨n, 1, none⟩ = some (.int .u16 (a.2 : Int)) ∧ W.cell? ⟨n + 1, 0, none⟩ = some (.int .u16 (b.1 : Int)) ∧ W.cell? ⟨n + 1, 1, none⟩ = some (.int .u16 (b.2 : Int))) ∧
    (W.cell? ⟨n + 1 + 1, 0, none⟩ = some (.int .i64 e.kind) ∧ W.cell? ⟨n + 1 + 1, 1, none⟩ = some (.int .u16 (e.src.1 : Int)) ∧ W.cell? ⟨n + 1 + 1, 2, none⟩ = some (.int .u16 (e.src.2 : Int)) ∧ W.cell? ⟨n + 1 + 1, 3, none⟩ = some (.int .u16 (e.dst.1 : Int)) ∧ W.cell? ⟨n + 1 + 1, 4, none⟩ = some (.int .u16 (e.dst.2 : Int)) ∧ W.cell? ⟨n + 1 + 1, 5, none⟩ = some (.int .i64 e.epoch) ∧ W.cell? ⟨n + 1 + 1, 6, none⟩ = some (.int .i64 e.role) ∧ W.cell? ⟨n + 1 + 1, 7, none⟩ = some (.int .u16 (e.under.1 : Int)) ∧ W.cell? ⟨n + 1 + 1, 8, none⟩ = some (.int .u16 (e.under.2 : Int)) ∧ W.cell? ⟨n + 1 + 1, 9, none⟩ = some (.int .u16 (e.used : Int))) ∧ n < W.heap.size ∧ n + 1 < W.heap.size ∧ n + 1 + 1 < W.heap.size :=
  ⟨⟨h.1.cells.1, h.1.cells.2.1, h.2.1.cells.1, h.2.1.cells.2.1⟩, (ten_cells h.2.2).1, h.1.cells.2.2, h.2.1.cells.2.2, (ten_cells h.2.2).2⟩
theorem entries_at (A : Option Addr) (c : Nat) (l : List Tr.E) (hlen : l.length ≤ 1000000) (w : World) (hA : EntsAt w A l) :
    Calls Tryd.prog 30 #[.slice A l.length c] w fun e w' => ∃ p : Option Addr × Nat, e = .returned (.slice p.1 l.length p.2) ∧ EntsAt w' p.1 l ∧ Below w.heap.size w w' := by
  refine (entries_ok A c l hlen w hA).mono ?_
  rintro e w' ⟨v, rfl, ho, hb1⟩
  obtain ⟨A', cap, rfl, h1, h2⟩ := ents_of_own ho
  exact ⟨(A', cap), rfl, h1, hb1⟩
set_option maxRecDepth 100000 in
set_option maxHeartbeats 4000000 in
theorem trmore_big (A : Option Addr) (c n : Nat) (hn : 60 < n) (a b : Lab.L) (e : Tr.Ev) (w : World) (hL : LaidAt w) :
    Calls Tryd.prog 9 #[.slice A n c, labV a, labV b, evV e] w fun r w' => r = .returned (.bool true) ∧ Below w.heap.size w w' := by
  have hni : (60 : Int) < (n : Int) := by omega
  have HBW := Lib.hid (below_new (below_new (below_new (Below.refl w.heap.size w) (.cells #[.int .u16 (a.1 : Int), .int .u16 (a.2 : Int)] 24)) (.cells #[.int .u16 (b.1 : Int), .int .u16 (b.2 : Int)] 24)) (.cells #[.int .i64 e.kind, .int .u16 (e.src.1 : Int), .int .u16 (e.src.2 : Int), .int .u16 (e.dst.1 : Int), .int .u16 (e.dst.2 : Int), .int .i64 e.epoch, .int .i64 e.role, .int .u16 (e.under.1 : Int), .int .u16 (e.under.2 : Int), .int .u16 (e.used : Int)] 48))
  have HL := Lib.hid (tralive_ok _ (hL.below HBW.out))
  clear hL hn
  go_enter Tryd.func9, Tryd.ntmps9
  go_wp2_with fail
  refine HL.out.mono ?_
  rintro r w1 ⟨rfl, hb1⟩
  go_wp2_with fail
  go_ret
  exact ⟨rfl, below_here HBW.out hb1⟩
set_option maxRecDepth 100000 in
set_option maxHeartbeats 8000000 in
theorem trmore_few (A : Option Addr) (c : Nat) (l : List Tr.E) (hlen : l.length ≤ 60) (hok : ∀ x ∈ l, Lab.ok x.2.2.1) (a b : Lab.L) (ha : Lab.ok a) (hb : Lab.ok b) (e : Tr.Ev) (he : e.ok) (w : World) (hL : LaidAt w) (hA : EntsAt w A l) :
    Calls Tryd.prog 9 #[.slice A l.length c, labV a, labV b, evV e] w fun r w' => r = .returned (.bool true) ∧ Below w.heap.size w w' := by
  have hBW := below_new (below_new (below_new (Below.refl w.heap.size w) (.cells #[.int .u16 (a.1 : Int), .int .u16 (a.2 : Int)] 24)) (.cells #[.int .u16 (b.1 : Int), .int .u16 (b.2 : Int)] 24)) (.cells #[.int .i64 e.kind, .int .u16 (e.src.1 : Int), .int .u16 (e.src.2 : Int), .int .u16 (e.dst.1 : Int), .int .u16 (e.dst.2 : Int), .int .i64 e.epoch, .int .i64 e.role, .int .u16 (e.under.1 : Int), .int .u16 (e.under.2 : Int), .int .u16 (e.used : Int)] 48)
  have HB := Lib.hid hBW
  have HLw := Lib.hid hL
  have HT : Hid (TmEnv w.heap.size a b e (((w.alloc (.cells #[.int .u16 (a.1 : Int), .int .u16 (a.2 : Int)] 24)).alloc (.cells #[.int .u16 (b.1 : Int), .int .u16 (b.2 : Int)] 24)).alloc (.cells #[.int .i64 e.kind, .int .u16 (e.src.1 : Int), .int .u16 (e.src.2 : Int), .int .u16 (e.dst.1 : Int), .int .u16 (e.dst.2 : Int), .int .i64 e.epoch, .int .i64 e.role, .int .u16 (e.under.1 : Int), .int .u16 (e.under.2 : Int), .int .u16 (e.used : Int)] 48))) := Lib.hid (by
    have h2 := LabIn.new (w.alloc (.cells #[.int .u16 (a.1 : Int), .int .u16 (a.2 : Int)] 24)) b
    rw [World.size_alloc] at h2
    have h3 := heap_alloc_new ((w.alloc (.cells #[.int .u16 (a.1 : Int), .int .u16 (a.2 : Int)] 24)).alloc (.cells #[.int .u16 (b.1 : Int), .int .u16 (b.2 : Int)] 24)) (.cells #[.int .i64 e.kind, .int .u16 (e.src.1 : Int), .int .u16 (e.src.2 : Int), .int .u16 (e.dst.1 : Int), .int .u16 (e.dst.2 : Int), .int .i64 e.epoch, .int .i64 e.role, .int .u16 (e.under.1 : Int), .int .u16 (e.under.2 : Int), .int .u16 (e.used : Int)] 48)
    rw [World.size_alloc, World.size_alloc] at h3
    exact ⟨((LabIn.new w a).below (below_old _ _)).below (below_old _ _), h2.below (below_old _ _), h3⟩)
  have HEN := Lib.hid (entries_at A c l (by omega) _ (hA.below hBW))
  have hla := Tr.seen_len l a
  have hlb := Tr.seen_len l b
  have HSA := Lib.hid (fun A c w h => tseen_at A c l (by omega) hok a ha w h)
  have HSB := Lib.hid (fun A c w h => tseen_at A c l (by omega) hok b hb w h)
  have HSS := Lib.hid (fun A c w h => tseen_at A c (Tr.seen l a) (by omega) (fun x hx => hok x (Tr.seen_in hx)) a ha w h)
  rw [Tr.seen_twice] at HSS
  have HST := Lib.hid (fun A c w h => tseen_at A c (Tr.seen l b) (by omega) (fun x hx => hok x (Tr.seen_in hx)) a ha w h)
  have HSM := Lib.hid (fun A B c d w h k => same_ok A B c d (Tr.seen l a) (Tr.seen l a) (by omega) (by omega) w h k)
  have HUN := Lib.hid (fun h : Lab.flows a b = true => Tr.seen_under h l)
  rw [decide_eq_true rfl] at HSM
  have HF := Lib.hid (fun w => flows_ok a b ha hb w)
  have HX := Lib.hid (fun w => flows_ok e.src e.dst he.1 he.2.1 w)
  have HC := Lib.hid (fun w => crosses_ok e he a ha w)
  have HD := Lib.hid (fun w => flows_ok e.dst a he.2.1 ha w)
  have hxy := fun h : Lab.flows e.src e.dst = true => Tr.flows_no (e := e) (a := a) h
  have hyz := fun h : Tr.crosses e a = true => Tr.crosses_in h
  generalize Lab.flows a b = d at HF HUN
  generalize Lab.flows e.src e.dst = x at HX hxy
  generalize Tr.crosses e a = y at HC hxy hyz
  generalize Lab.flows e.dst a = z at HD hyz
  obtain ⟨us, hus⟩ : ∃ us, us = decide (e.used ≠ 0) := ⟨_, rfl⟩
  rw [← hus] at hyz
  have hni : ¬ (60 : Int) < (l.length : Int) := by omega
  generalize Tr.seen l b = sb at HSB HST HUN hlb
  generalize Tr.seen (sb) a = sc at HST HUN
  generalize Tr.seen l a = sa at HSA HSS HSM HUN hla
  clear hL hA hok ha hb he hBW
  generalize l.length = n at HEN HSA HSB hni hla hlb hlen
  obtain ⟨kd, ⟨s1, s2⟩, ⟨d1, d2⟩, ep, rl, ⟨u1, u2⟩, uu⟩ := e
  go_enter Tryd.func9, Tryd.ntmps9
  go_wp2_with fail
  refine HEN.out.mono ?_
  rintro r w1 ⟨⟨A1, k1⟩, rfl, hE1, hb1⟩
  simp only at hE1
  replace HT := Lib.hid (HT.out.below hb1)
  replace HB := Lib.hid (below_here HB.out hb1)
  have HE1 := Lib.hid hE1
  clear hb1 hE1 HEN
  obtain ⟨⟨c1, c2, c3, c4⟩, ⟨v0, v1, v2, v3, v4, v5, v6, v7, v8, v9⟩, l1, l2, l3⟩ := HT.out.cells
  simp only at v0 v1 v2 v3 v4 v5 v6 v7 v8 v9
  go_wp2_with fail
  refine wp_region_freeA 7 [some 18, some 19, some 20, some 21, some 22, some 23, some 10] (fun W => ∃ X, W = over w1 X) [Fact.is (.slice A1 n k1), Fact.is (labV a), Fact.ents sa, Fact.is (.slice A1 n k1), Fact.is (labV b), Fact.ents sb, Fact.ents sa] [] (by kernel_rfl) (by kernel_rfl) ?same (over_of (Below.refl _ _).drew) ?steps ?fin
  case same => kernel_rfl
  case steps =>
    simp only [List.take_succ_cons, List.take_zero, stepsI]
    refine ⟨⟨fun v u => by kernel_rfl, ?s0⟩, ⟨fun v u => by kernel_rfl, ?s1⟩, ⟨fun v u => by kernel_rfl, ?s2⟩, ⟨fun v u => by kernel_rfl, ?s3⟩, ⟨fun v u => by kernel_rfl, ?s4⟩, ⟨fun v u => by kernel_rfl, ?s5⟩, ⟨fun v u => by kernel_rfl, ?s6⟩, trivial⟩
    case s0 =>
      intro v W hW hp
      obtain ⟨X, rfl⟩ := hW
      clear hp
      simp only [mkA, setAll, List.setIfInBounds_toArray, List.set_cons_succ, List.set_cons_zero]
      refine .inl ⟨rfl, ?_⟩
      go_simp
      first | exact ⟨⟨X, rfl⟩, Below.refl _ _, rfl⟩ | exact ⟨⟨X, rfl⟩, Below.refl _ _, rfl, fun h => by cases h⟩
    case s1 =>
      intro v W hW hp
      obtain ⟨X, rfl⟩ := hW
      clear hp
      simp only [mkA, setAll, List.setIfInBounds_toArray, List.set_cons_succ, List.set_cons_zero]
      refine .inl ⟨rfl, ?_⟩
      go_simp
      first | exact ⟨⟨X, rfl⟩, Below.refl _ _, rfl⟩ | exact ⟨⟨X, rfl⟩, Below.refl _ _, rfl, fun h => by cases h⟩
    case s2 =>
      intro v W hW hp
      obtain ⟨X, rfl⟩ := hW
      have g0 : v 0 = .slice A1 n k1 := hp ⟨0, .data⟩ (by simp) rfl
      have g1 : v 1 = labV a := hp ⟨1, .data⟩ (by simp) rfl
      clear hp
      simp only [mkA, setAll, List.setIfInBounds_toArray, List.set_cons_succ, List.set_cons_zero]
      refine .inl ⟨rfl, ?_⟩
      go_simp
      refine (HSA.out _ _ _ (HE1.out.below (over_below _ _))).mono ?_
      rintro e W2 ⟨p2, rfl, h2, hb2⟩
      first | exact ⟨_, rfl, over_of (below_here (over_below _ _) hb2), hb2, ⟨p2, rfl, h2⟩⟩ | exact ⟨_, rfl, over_of (below_here (over_below _ _) hb2), hb2, ⟨p2, rfl, h2⟩, fun h => by cases h⟩
    case s3 =>
      intro v W hW hp
      obtain ⟨X, rfl⟩ := hW
      clear hp
      simp only [mkA, setAll, List.setIfInBounds_toArray, List.set_cons_succ, List.set_cons_zero]
      refine .inl ⟨rfl, ?_⟩
      go_simp
      first | exact ⟨⟨X, rfl⟩, Below.refl _ _, rfl⟩ | exact ⟨⟨X, rfl⟩, Below.refl _ _, rfl, fun h => by cases h⟩
    case s4 =>
      intro v W hW hp
      obtain ⟨X, rfl⟩ := hW
      clear hp
      simp only [mkA, setAll, List.setIfInBounds_toArray, List.set_cons_succ, List.set_cons_zero]
      refine .inl ⟨rfl, ?_⟩
      go_simp
      first | exact ⟨⟨X, rfl⟩, Below.refl _ _, rfl⟩ | exact ⟨⟨X, rfl⟩, Below.refl _ _, rfl, fun h => by cases h⟩
    case s5 =>
      intro v W hW hp
      obtain ⟨X, rfl⟩ := hW
      have g3 : v 3 = .slice A1 n k1 := hp ⟨3, .data⟩ (by simp) rfl
      have g4 : v 4 = labV b := hp ⟨4, .data⟩ (by simp) rfl
      clear hp
      simp only [mkA, setAll, List.setIfInBounds_toArray, List.set_cons_succ, List.set_cons_zero]
      refine .inl ⟨rfl, ?_⟩
      go_simp
      refine (HSB.out _ _ _ (HE1.out.below (over_below _ _))).mono ?_
      rintro e W2 ⟨p2, rfl, h2, hb2⟩
      first | exact ⟨_, rfl, over_of (below_here (over_below _ _) hb2), hb2, ⟨p2, rfl, h2⟩⟩ | exact ⟨_, rfl, over_of (below_here (over_below _ _) hb2), hb2, ⟨p2, rfl, h2⟩, fun h => by cases h⟩
    case s6 =>
      intro v W hW hp
      obtain ⟨X, rfl⟩ := hW
      obtain ⟨b2, g2, r2⟩ := hp ⟨2, .data⟩ (by simp) rfl
      clear hp
      simp only [mkA, setAll, List.setIfInBounds_toArray, List.set_cons_succ, List.set_cons_zero]
      refine .inl ⟨rfl, ?_⟩
      go_simp
      first | exact ⟨⟨X, rfl⟩, Below.refl _ _, ⟨_, rfl, r2⟩⟩ | exact ⟨⟨X, rfl⟩, Below.refl _ _, ⟨_, rfl, r2⟩, fun h => by cases h⟩
  case fin =>
    intro v W hW hR hD
    have hbW := below_of_over hW
    obtain ⟨⟨As, cs⟩, g6, rs⟩ := hR 6 (by omega)
    obtain ⟨⟨At, ct⟩, g5, rt⟩ := hR 5 (by omega)
    simp only at g6 g5 rs rt
    simp only [List.drop_succ_cons, List.drop_zero, mkA, setAll, List.setIfInBounds_toArray, List.set_cons_succ, List.set_cons_zero, g5, g6]
    generalize v 0 = q0
    generalize v 1 = q1
    generalize v 2 = q2
    generalize v 3 = q3
    generalize v 4 = q4
    have HS := Lib.hid rs
    have HR := Lib.hid rt
    replace HT := Lib.hid (HT.out.below hbW)
    replace HB := Lib.hid (below_here HB.out hbW)
    clear c1 c2 c3 c4 v0 v1 v2 v3 v4 v5 v6 v7 v8 v9 l1 l2 l3
    clear hR hD hW g5 g6 rs rt hbW HSA HSB HE1
    obtain ⟨⟨c1, c2, c3, c4⟩, ⟨v0, v1, v2, v3, v4, v5, v6, v7, v8, v9⟩, l1, l2, l3⟩ := HT.out.cells
    simp only at v0 v1 v2 v3 v4 v5 v6 v7 v8 v9
    cases d with
    | false =>
      go_wp2_with fail
      refine (HSS.out _ _ _ HS.out).mono ?_
      rintro r W2 ⟨⟨HKA, HKc⟩, rfl, h2, hb⟩
      simp only at h2
      have HK := Lib.hid h2
      clear h2
      replace HT := Lib.hid (HT.out.below hb)
      replace HB := Lib.hid (below_here HB.out hb)
      replace HS := Lib.hid (HS.out.below hb)
      replace HR := Lib.hid (HR.out.below hb)
      clear c1 c2 c3 c4 v0 v1 v2 v3 v4 v5 v6 v7 v8 v9 l1 l2 l3
      clear hb
      obtain ⟨⟨c1, c2, c3, c4⟩, ⟨v0, v1, v2, v3, v4, v5, v6, v7, v8, v9⟩, l1, l2, l3⟩ := HT.out.cells
      simp only at v0 v1 v2 v3 v4 v5 v6 v7 v8 v9
      go_wp2_with fail
      refine (HSM.out _ _ _ _ _ HK.out HS.out).mono ?_
      rintro r W3 ⟨rfl, hb⟩
      replace HT := Lib.hid (HT.out.below hb)
      replace HB := Lib.hid (below_here HB.out hb)
      replace HS := Lib.hid (HS.out.below hb)
      replace HR := Lib.hid (HR.out.below hb)
      clear c1 c2 c3 c4 v0 v1 v2 v3 v4 v5 v6 v7 v8 v9 l1 l2 l3
      clear hb
      obtain ⟨⟨c1, c2, c3, c4⟩, ⟨v0, v1, v2, v3, v4, v5, v6, v7, v8, v9⟩, l1, l2, l3⟩ := HT.out.cells
      simp only at v0 v1 v2 v3 v4 v5 v6 v7 v8 v9
      clear HK
      go_wp2_with fail
      refine (HF.out _).mono ?_
      rintro r W4 ⟨rfl, hb⟩
      replace HT := Lib.hid (HT.out.below hb)
      replace HB := Lib.hid (below_here HB.out hb)
      replace HS := Lib.hid (HS.out.below hb)
      replace HR := Lib.hid (HR.out.below hb)
      clear c1 c2 c3 c4 v0 v1 v2 v3 v4 v5 v6 v7 v8 v9 l1 l2 l3
      clear hb
      obtain ⟨⟨c1, c2, c3, c4⟩, ⟨v0, v1, v2, v3, v4, v5, v6, v7, v8, v9⟩, l1, l2, l3⟩ := HT.out.cells
      simp only at v0 v1 v2 v3 v4 v5 v6 v7 v8 v9
      cases x with
      | false =>
        go_wp2_with fail
        refine (HX.out _).mono ?_
        rintro r W10 ⟨rfl, hb⟩
        replace HT := Lib.hid (HT.out.below hb)
        replace HB := Lib.hid (below_here HB.out hb)
        clear c1 c2 c3 c4 v0 v1 v2 v3 v4 v5 v6 v7 v8 v9 l1 l2 l3
        clear hb
        obtain ⟨⟨c1, c2, c3, c4⟩, ⟨v0, v1, v2, v3, v4, v5, v6, v7, v8, v9⟩, l1, l2, l3⟩ := HT.out.cells
        simp only at v0 v1 v2 v3 v4 v5 v6 v7 v8 v9
        cases y with
        | false =>
          go_wp2_with fail
          refine (HC.out _).mono ?_
          rintro r W11 ⟨rfl, hb⟩
          replace HT := Lib.hid (HT.out.below hb)
          replace HB := Lib.hid (below_here HB.out hb)
          clear c1 c2 c3 c4 v0 v1 v2 v3 v4 v5 v6 v7 v8 v9 l1 l2 l3
          clear hb
          obtain ⟨⟨c1, c2, c3, c4⟩, ⟨v0, v1, v2, v3, v4, v5, v6, v7, v8, v9⟩, l1, l2, l3⟩ := HT.out.cells
          simp only at v0 v1 v2 v3 v4 v5 v6 v7 v8 v9
          go_wp2_with fail
          refine (tralive_ok _ (HLw.out.below HB.out)).mono ?_
          rintro r W12 ⟨rfl, hb⟩
          go_wp2_with fail
          go_ret
          exact ⟨rfl, below_here HB.out hb⟩
        | true =>
          obtain ⟨rfl, hu⟩ := hyz rfl
          have hu2 : ((uu : Int) != 0) = true := by rw [hus] at hu; simpa using hu
          clear hus hu hxy hyz
          go_wp2_with fail
          refine (HC.out _).mono ?_
          rintro r W13 ⟨rfl, hb⟩
          replace HT := Lib.hid (HT.out.below hb)
          replace HB := Lib.hid (below_here HB.out hb)
          clear c1 c2 c3 c4 v0 v1 v2 v3 v4 v5 v6 v7 v8 v9 l1 l2 l3
          clear hb
          obtain ⟨⟨c1, c2, c3, c4⟩, ⟨v0, v1, v2, v3, v4, v5, v6, v7, v8, v9⟩, l1, l2, l3⟩ := HT.out.cells
          simp only at v0 v1 v2 v3 v4 v5 v6 v7 v8 v9
          go_wp2_with fail
          refine (HD.out _).mono ?_
          rintro r W14 ⟨rfl, hb⟩
          replace HT := Lib.hid (HT.out.below hb)
          replace HB := Lib.hid (below_here HB.out hb)
          clear c1 c2 c3 c4 v0 v1 v2 v3 v4 v5 v6 v7 v8 v9 l1 l2 l3
          clear hb
          obtain ⟨⟨c1, c2, c3, c4⟩, ⟨v0, v1, v2, v3, v4, v5, v6, v7, v8, v9⟩, l1, l2, l3⟩ := HT.out.cells
          simp only at v0 v1 v2 v3 v4 v5 v6 v7 v8 v9
          go_wp2_with fail
          refine (tralive_ok _ (HLw.out.below HB.out)).mono ?_
          rintro r W15 ⟨rfl, hb⟩
          go_wp2_with fail
          go_ret
          exact ⟨rfl, below_here HB.out hb⟩
      | true =>
        obtain rfl := hxy rfl
        clear hxy hyz
        go_wp2_with fail
        refine (HX.out _).mono ?_
        rintro r W16 ⟨rfl, hb⟩
        replace HT := Lib.hid (HT.out.below hb)
        replace HB := Lib.hid (below_here HB.out hb)
        clear c1 c2 c3 c4 v0 v1 v2 v3 v4 v5 v6 v7 v8 v9 l1 l2 l3
        clear hb
        obtain ⟨⟨c1, c2, c3, c4⟩, ⟨v0, v1, v2, v3, v4, v5, v6, v7, v8, v9⟩, l1, l2, l3⟩ := HT.out.cells
        simp only at v0 v1 v2 v3 v4 v5 v6 v7 v8 v9
        go_wp2_with fail
        refine (HC.out _).mono ?_
        rintro r W17 ⟨rfl, hb⟩
        replace HT := Lib.hid (HT.out.below hb)
        replace HB := Lib.hid (below_here HB.out hb)
        clear c1 c2 c3 c4 v0 v1 v2 v3 v4 v5 v6 v7 v8 v9 l1 l2 l3
        clear hb
        obtain ⟨⟨c1, c2, c3, c4⟩, ⟨v0, v1, v2, v3, v4, v5, v6, v7, v8, v9⟩, l1, l2, l3⟩ := HT.out.cells
        simp only at v0 v1 v2 v3 v4 v5 v6 v7 v8 v9
        go_wp2_with fail
        refine (HC.out _).mono ?_
        rintro r W18 ⟨rfl, hb⟩
        replace HT := Lib.hid (HT.out.below hb)
        replace HB := Lib.hid (below_here HB.out hb)
        clear c1 c2 c3 c4 v0 v1 v2 v3 v4 v5 v6 v7 v8 v9 l1 l2 l3
        clear hb
        obtain ⟨⟨c1, c2, c3, c4⟩, ⟨v0, v1, v2, v3, v4, v5, v6, v7, v8, v9⟩, l1, l2, l3⟩ := HT.out.cells
        simp only at v0 v1 v2 v3 v4 v5 v6 v7 v8 v9
        go_wp2_with fail
        refine (tralive_ok _ (HLw.out.below HB.out)).mono ?_
        rintro r W19 ⟨rfl, hb⟩
        go_wp2_with fail
        go_ret
        exact ⟨rfl, below_here HB.out hb⟩
    | true =>
      obtain rfl := HUN.out rfl
      go_wp2_with fail
      refine (HSS.out _ _ _ HS.out).mono ?_
      rintro r W5 ⟨⟨HKA, HKc⟩, rfl, h2, hb⟩
      simp only at h2
      have HK := Lib.hid h2
      clear h2
      replace HT := Lib.hid (HT.out.below hb)
      replace HB := Lib.hid (below_here HB.out hb)
      replace HS := Lib.hid (HS.out.below hb)
      replace HR := Lib.hid (HR.out.below hb)
      clear c1 c2 c3 c4 v0 v1 v2 v3 v4 v5 v6 v7 v8 v9 l1 l2 l3
      clear hb
      obtain ⟨⟨c1, c2, c3, c4⟩, ⟨v0, v1, v2, v3, v4, v5, v6, v7, v8, v9⟩, l1, l2, l3⟩ := HT.out.cells
      simp only at v0 v1 v2 v3 v4 v5 v6 v7 v8 v9
      go_wp2_with fail
      refine (HSM.out _ _ _ _ _ HK.out HS.out).mono ?_
      rintro r W6 ⟨rfl, hb⟩
      replace HT := Lib.hid (HT.out.below hb)
      replace HB := Lib.hid (below_here HB.out hb)
      replace HS := Lib.hid (HS.out.below hb)
      replace HR := Lib.hid (HR.out.below hb)
      clear c1 c2 c3 c4 v0 v1 v2 v3 v4 v5 v6 v7 v8 v9 l1 l2 l3
      clear hb
      obtain ⟨⟨c1, c2, c3, c4⟩, ⟨v0, v1, v2, v3, v4, v5, v6, v7, v8, v9⟩, l1, l2, l3⟩ := HT.out.cells
      simp only at v0 v1 v2 v3 v4 v5 v6 v7 v8 v9
      clear HK
      go_wp2_with fail
      refine (HF.out _).mono ?_
      rintro r W7 ⟨rfl, hb⟩
      replace HT := Lib.hid (HT.out.below hb)
      replace HB := Lib.hid (below_here HB.out hb)
      replace HS := Lib.hid (HS.out.below hb)
      replace HR := Lib.hid (HR.out.below hb)
      clear c1 c2 c3 c4 v0 v1 v2 v3 v4 v5 v6 v7 v8 v9 l1 l2 l3
      clear hb
      obtain ⟨⟨c1, c2, c3, c4⟩, ⟨v0, v1, v2, v3, v4, v5, v6, v7, v8, v9⟩, l1, l2, l3⟩ := HT.out.cells
      simp only at v0 v1 v2 v3 v4 v5 v6 v7 v8 v9
      go_wp2_with fail
      refine (HST.out _ _ _ HR.out).mono ?_
      rintro r W8 ⟨⟨HMA, HMc⟩, rfl, h2, hb⟩
      simp only at h2
      have HM := Lib.hid h2
      clear h2
      replace HT := Lib.hid (HT.out.below hb)
      replace HB := Lib.hid (below_here HB.out hb)
      replace HS := Lib.hid (HS.out.below hb)
      replace HR := Lib.hid (HR.out.below hb)
      clear c1 c2 c3 c4 v0 v1 v2 v3 v4 v5 v6 v7 v8 v9 l1 l2 l3
      clear hb
      obtain ⟨⟨c1, c2, c3, c4⟩, ⟨v0, v1, v2, v3, v4, v5, v6, v7, v8, v9⟩, l1, l2, l3⟩ := HT.out.cells
      simp only at v0 v1 v2 v3 v4 v5 v6 v7 v8 v9
      go_wp2_with fail
      refine (HSM.out _ _ _ _ _ HM.out HS.out).mono ?_
      rintro r W9 ⟨rfl, hb⟩
      replace HT := Lib.hid (HT.out.below hb)
      replace HB := Lib.hid (below_here HB.out hb)
      replace HS := Lib.hid (HS.out.below hb)
      replace HR := Lib.hid (HR.out.below hb)
      clear c1 c2 c3 c4 v0 v1 v2 v3 v4 v5 v6 v7 v8 v9 l1 l2 l3
      clear hb
      obtain ⟨⟨c1, c2, c3, c4⟩, ⟨v0, v1, v2, v3, v4, v5, v6, v7, v8, v9⟩, l1, l2, l3⟩ := HT.out.cells
      simp only at v0 v1 v2 v3 v4 v5 v6 v7 v8 v9
      clear HM
      cases x with
      | false =>
        go_wp2_with fail
        refine (HX.out _).mono ?_
        rintro r W20 ⟨rfl, hb⟩
        replace HT := Lib.hid (HT.out.below hb)
        replace HB := Lib.hid (below_here HB.out hb)
        clear c1 c2 c3 c4 v0 v1 v2 v3 v4 v5 v6 v7 v8 v9 l1 l2 l3
        clear hb
        obtain ⟨⟨c1, c2, c3, c4⟩, ⟨v0, v1, v2, v3, v4, v5, v6, v7, v8, v9⟩, l1, l2, l3⟩ := HT.out.cells
        simp only at v0 v1 v2 v3 v4 v5 v6 v7 v8 v9
        cases y with
        | false =>
          go_wp2_with fail
          refine (HC.out _).mono ?_
          rintro r W21 ⟨rfl, hb⟩
          replace HT := Lib.hid (HT.out.below hb)
          replace HB := Lib.hid (below_here HB.out hb)
          clear c1 c2 c3 c4 v0 v1 v2 v3 v4 v5 v6 v7 v8 v9 l1 l2 l3
          clear hb
          obtain ⟨⟨c1, c2, c3, c4⟩, ⟨v0, v1, v2, v3, v4, v5, v6, v7, v8, v9⟩, l1, l2, l3⟩ := HT.out.cells
          simp only at v0 v1 v2 v3 v4 v5 v6 v7 v8 v9
          go_wp2_with fail
          refine (tralive_ok _ (HLw.out.below HB.out)).mono ?_
          rintro r W22 ⟨rfl, hb⟩
          go_wp2_with fail
          go_ret
          exact ⟨rfl, below_here HB.out hb⟩
        | true =>
          obtain ⟨rfl, hu⟩ := hyz rfl
          have hu2 : ((uu : Int) != 0) = true := by rw [hus] at hu; simpa using hu
          clear hus hu hxy hyz
          go_wp2_with fail
          refine (HC.out _).mono ?_
          rintro r W23 ⟨rfl, hb⟩
          replace HT := Lib.hid (HT.out.below hb)
          replace HB := Lib.hid (below_here HB.out hb)
          clear c1 c2 c3 c4 v0 v1 v2 v3 v4 v5 v6 v7 v8 v9 l1 l2 l3
          clear hb
          obtain ⟨⟨c1, c2, c3, c4⟩, ⟨v0, v1, v2, v3, v4, v5, v6, v7, v8, v9⟩, l1, l2, l3⟩ := HT.out.cells
          simp only at v0 v1 v2 v3 v4 v5 v6 v7 v8 v9
          go_wp2_with fail
          refine (HD.out _).mono ?_
          rintro r W24 ⟨rfl, hb⟩
          replace HT := Lib.hid (HT.out.below hb)
          replace HB := Lib.hid (below_here HB.out hb)
          clear c1 c2 c3 c4 v0 v1 v2 v3 v4 v5 v6 v7 v8 v9 l1 l2 l3
          clear hb
          obtain ⟨⟨c1, c2, c3, c4⟩, ⟨v0, v1, v2, v3, v4, v5, v6, v7, v8, v9⟩, l1, l2, l3⟩ := HT.out.cells
          simp only at v0 v1 v2 v3 v4 v5 v6 v7 v8 v9
          go_wp2_with fail
          refine (tralive_ok _ (HLw.out.below HB.out)).mono ?_
          rintro r W25 ⟨rfl, hb⟩
          go_wp2_with fail
          go_ret
          exact ⟨rfl, below_here HB.out hb⟩
      | true =>
        obtain rfl := hxy rfl
        clear hxy hyz
        go_wp2_with fail
        refine (HX.out _).mono ?_
        rintro r W26 ⟨rfl, hb⟩
        replace HT := Lib.hid (HT.out.below hb)
        replace HB := Lib.hid (below_here HB.out hb)
        clear c1 c2 c3 c4 v0 v1 v2 v3 v4 v5 v6 v7 v8 v9 l1 l2 l3
        clear hb
        obtain ⟨⟨c1, c2, c3, c4⟩, ⟨v0, v1, v2, v3, v4, v5, v6, v7, v8, v9⟩, l1, l2, l3⟩ := HT.out.cells
        simp only at v0 v1 v2 v3 v4 v5 v6 v7 v8 v9
        go_wp2_with fail
        refine (HC.out _).mono ?_
        rintro r W27 ⟨rfl, hb⟩
        replace HT := Lib.hid (HT.out.below hb)
        replace HB := Lib.hid (below_here HB.out hb)
        clear c1 c2 c3 c4 v0 v1 v2 v3 v4 v5 v6 v7 v8 v9 l1 l2 l3
        clear hb
        obtain ⟨⟨c1, c2, c3, c4⟩, ⟨v0, v1, v2, v3, v4, v5, v6, v7, v8, v9⟩, l1, l2, l3⟩ := HT.out.cells
        simp only at v0 v1 v2 v3 v4 v5 v6 v7 v8 v9
        go_wp2_with fail
        refine (HC.out _).mono ?_
        rintro r W28 ⟨rfl, hb⟩
        replace HT := Lib.hid (HT.out.below hb)
        replace HB := Lib.hid (below_here HB.out hb)
        clear c1 c2 c3 c4 v0 v1 v2 v3 v4 v5 v6 v7 v8 v9 l1 l2 l3
        clear hb
        obtain ⟨⟨c1, c2, c3, c4⟩, ⟨v0, v1, v2, v3, v4, v5, v6, v7, v8, v9⟩, l1, l2, l3⟩ := HT.out.cells
        simp only at v0 v1 v2 v3 v4 v5 v6 v7 v8 v9
        go_wp2_with fail
        refine (tralive_ok _ (HLw.out.below HB.out)).mono ?_
        rintro r W29 ⟨rfl, hb⟩
        go_wp2_with fail
        go_ret
        exact ⟨rfl, below_here HB.out hb⟩
end Go.Proofs.YtdjndnoiankicaaDoor
namespace Go.Proofs.YtdjndnoiankicaaDoor
open Go.RowKit Go.WideShapes
set_option linter.unusedVariables false
set_option linter.unusedSimpArgs false

theorem i64_wf {n : Int} (h : (Lit.int .i64 n).wf = true) : -9223372036854775808 ≤ n ∧ n ≤ 9223372036854775807 := by
  simp [Lit.wf, IntKind.min, IntKind.max, IntKind.signed, IntKind.bits] at h
  omega
abbrev kId : Kn Idn.I := Kn.pair kLab (Kn.pair (Kn.int .i64) (Kn.int .i64))
set_option maxRecDepth 100000 in
theorem opens_id : Opens Tryd.prog 57 kId (fun x => Lab.ok x.1 ∧ ((Lit.int .i64 x.2.1).wf = true ∧ (Lit.int .i64 x.2.2).wf = true)) :=
  opens_imp (d := kId) (fun x => x) (opens_struct Tryd.underlying57 (by kernel_rfl) (opensF_cons rfl (by kernel_rfl) opens_lab (opensF_cons rfl (by kernel_rfl) (opens_int Tryd.underlying3) (opensF_one rfl (by kernel_rfl) (opens_int Tryd.underlying3))))) (fun x ⟨h1, h2, h3⟩ => ⟨h1, h2, h3⟩) (fun _ _ _ _ h => h)
abbrev kReply : Kn (Int × ByteArray) := Kn.pair (Kn.int .i64) Kn.string
set_option maxRecDepth 100000 in
theorem opens_reply : Opens Tryd.prog 77 kReply (fun x => (Lit.int .i64 x.1).wf = true ∧ x.2.size ≤ 9223372036854775807) :=
  opens_imp (d := kReply) (fun x => x) (opens_struct Tryd.underlying77 (by kernel_rfl) (opensF_cons rfl (by kernel_rfl) (opens_int Tryd.underlying34) (opensF_one rfl (by kernel_rfl) (opens_string Tryd.underlying9)))) (fun x ⟨h1, h2⟩ => ⟨h1, h2⟩) (fun _ _ _ _ h => h)
def kEnt : Kn Tr.E := ⟨9, fun _ e cs => cs = trC e⟩
def Tr.okE (e : Tr.E) : Prop := (-9223372036854775808 ≤ e.1 ∧ e.1 ≤ 9223372036854775807) ∧ Lab.ok e.2.1.1 ∧ Lab.ok e.2.2.1 ∧ (-9223372036854775808 ≤ e.2.2.2.1 ∧ e.2.2.2.1 ≤ 9223372036854775807) ∧ e.2.2.2.2.size ≤ 9223372036854775807 ∧ (-9223372036854775808 ≤ e.2.1.2.1 ∧ e.2.1.2.1 ≤ 9223372036854775807) ∧ (-9223372036854775808 ≤ e.2.1.2.2 ∧ e.2.1.2.2 ≤ 9223372036854775807)
set_option maxRecDepth 100000 in
theorem opens_ent : Opens Tryd.prog 83 kEnt Tr.okE :=
  opens_imp (d := Kn.pair (Kn.int .i64) (Kn.pair kId (Kn.pair kLab kReply))) (fun x : Int × Idn.I × Lab.L × Int × ByteArray => (x : Tr.E))
    (opens_struct Tryd.underlying83 (by kernel_rfl) (opensF_cons rfl (by kernel_rfl) (opens_int Tryd.underlying3) (opensF_cons rfl (by kernel_rfl) opens_id (opensF_cons rfl (by kernel_rfl) opens_lab (opensF_one rfl (by kernel_rfl) opens_reply)))))
    (fun x ⟨h1, ⟨h2, h3, h4⟩, h5, h6, h7⟩ => ⟨i64_wf h1, h2, h5, i64_wf h6, h7, i64_wf h3, i64_wf h4⟩)
    (fun w x cs _ hK => by
      obtain ⟨c1, r1, rfl, h1, c2, r2, rfl, ⟨c3, r3, rfl, h3, c4, r4, rfl, h4, h5⟩, c6, r6, rfl, h6, c7, r7, rfl, h7, h8⟩ := hK
      have e1 : c1 = _ := h1
      have e3 : c3 = _ := h3
      have e4 : c4 = _ := h4
      have e5 : r4 = _ := h5
      have e6 : c6 = _ := h6
      have e7 : c7 = _ := h7
      have e8 : r7 = _ := h8
      subst e1 e3 e4 e5 e6 e7 e8
      rfl)
def kEv : Kn Tr.Ev := ⟨10, fun _ e cs => cs = [.int .i64 e.kind, .int .u16 (e.src.1 : Int), .int .u16 (e.src.2 : Int), .int .u16 (e.dst.1 : Int), .int .u16 (e.dst.2 : Int), .int .i64 e.epoch, .int .i64 e.role, .int .u16 (e.under.1 : Int), .int .u16 (e.under.2 : Int), .int .u16 (e.used : Int)]⟩
set_option maxRecDepth 100000 in
theorem opens_ev : Opens Tryd.prog 48 kEv Tr.Ev.ok :=
  opens_imp (d := Kn.pair (Kn.int .i64) (Kn.pair kLab (Kn.pair kLab (Kn.pair (Kn.int .i64) (Kn.pair (Kn.int .i64) (Kn.pair kLab (Kn.int .u16))))))) (fun x : Int × Lab.L × Lab.L × Int × Int × Lab.L × Int => (⟨x.1, x.2.1, x.2.2.1, x.2.2.2.1, x.2.2.2.2.1, x.2.2.2.2.2.1, x.2.2.2.2.2.2.toNat⟩ : Tr.Ev))
    (opens_struct Tryd.underlying48 (by kernel_rfl) (opensF_cons rfl (by kernel_rfl) (opens_int Tryd.underlying3) (opensF_cons rfl (by kernel_rfl) opens_lab (opensF_cons rfl (by kernel_rfl) opens_lab (opensF_cons rfl (by kernel_rfl) (opens_int Tryd.underlying3) (opensF_cons rfl (by kernel_rfl) (opens_int Tryd.underlying3) (opensF_cons rfl (by kernel_rfl) opens_lab (opensF_one rfl (by kernel_rfl) (opens_int Tryd.underlying22)))))))))
    (fun x ⟨_, h2, h3, _, _, h6, h7⟩ => by
      obtain ⟨u, hu, hu'⟩ := u16_nat h7
      refine ⟨h2, h3, h6, ?_⟩
      show x.2.2.2.2.2.2.toNat < 65536
      omega)
    (fun w x cs ⟨_, _, _, _, _, _, h7⟩ hK => by
      obtain ⟨c1, r1, rfl, h1, c2, r2, rfl, h2, c3, r3, rfl, h3, c4, r4, rfl, h4, c5, r5, rfl, h5, c6, r6, rfl, h6, h8⟩ := hK
      obtain ⟨u, hu, hu'⟩ := u16_nat h7
      have e1 : c1 = _ := h1
      have e2 : c2 = _ := h2
      have e3 : c3 = _ := h3
      have e4 : c4 = _ := h4
      have e5 : c5 = _ := h5
      have e6 : c6 = _ := h6
      have e8 : r6 = _ := h8
      subst e1 e2 e3 e4 e5 e6 e8
      obtain ⟨k, ⟨s1, s2⟩, ⟨d1, d2⟩, ep, rl, ⟨u1, u2⟩, us⟩ := x
      simp only at hu
      subst hu
      rfl)
set_option maxRecDepth 100000 in
theorem ev_value {H : Type} {enc : TypeId × Value → H} {w : World} {base : Nat} {b0 : Nat} {r : Reach} {spare : Nat → Bool} {held : Bool} {v : Value} {x : DataW H} {p : List MemPlace} (hv : Value.okWide Tryd.prog w r b0 48 v)
    (ht : DataW.Trod enc Tryd.prog w base spare held 48 v x p) : ∃ e : Tr.Ev, v = evV e ∧ e.ok := by
  obtain ⟨cs, rfl, _⟩ := okWide_struct Tryd.underlying48 hv
  obtain ⟨e, hK, hB⟩ := opens_ev.value ht
  have hK' : cs.toList = _ := hK
  refine ⟨e, ?_, hB⟩
  rw [show cs = _ from (Array.toList_inj.1 (hK'.trans (by rfl)) : cs = #[.int .i64 e.kind, .int .u16 (e.src.1 : Int), .int .u16 (e.src.2 : Int), .int .u16 (e.dst.1 : Int), .int .u16 (e.dst.2 : Int), .int .i64 e.epoch, .int .i64 e.role, .int .u16 (e.under.1 : Int), .int .u16 (e.under.2 : Int), .int .u16 (e.used : Int)])]
set_option maxRecDepth 100000 in
theorem ent_value {H : Type} {enc : TypeId × Value → H} {w : World} {base : Nat} {b0 : Nat} {r : Reach} {spare : Nat → Bool} {held : Bool} {v : Value} {x : DataW H} {p : List MemPlace} (hv : Value.okWide Tryd.prog w r b0 83 v)
    (ht : DataW.Trod enc Tryd.prog w base spare held 83 v x p) : ∃ e : Tr.E, v = trV e ∧ Tr.okE e := by
  obtain ⟨cs, rfl, _⟩ := okWide_struct Tryd.underlying83 hv
  obtain ⟨e, hK, hB⟩ := opens_ent.value ht
  have hK' : cs.toList = trC e := hK
  refine ⟨e, ?_, hB⟩
  rw [show cs = (trC e).toArray from Array.toList_inj.1 (hK'.trans (by rfl))]
set_option maxRecDepth 100000 in
theorem ents_value {H : Type} {enc : TypeId × Value → H} {w : World} {base : Nat} {spare : Nat → Bool} {held : Bool} {A : Option Addr} {len cap : Nat} {x : DataW H} {p : List MemPlace}
    (ht : DataW.Trod enc Tryd.prog w base spare held 42 (.slice A len cap) x p) : ∃ l : List Tr.E, len = l.length ∧ l.length ≤ 9223372036854775807 ∧ (∀ a ∈ l, Tr.okE a) ∧ EntsAt w A l := by
  obtain ⟨l, ⟨A', cap', hc, h1, h2, h3⟩, hB⟩ := (opens_slice (P := Tryd.prog) Tryd.underlying42 opens_ent (by kernel_rfl)).value ht
  have hc' : A = A' ∧ len = l.length ∧ cap = cap' := by
    have : [Value.slice A len cap] = [.slice A' l.length cap'] := hc
    simpa using this
  obtain ⟨rfl, hl, rfl⟩ := hc'
  refine ⟨l, hl, by omega, hB, ?_⟩
  by_cases h0 : l.length = 0
  · exact .inl (List.length_eq_zero_iff.1 h0)
  · obtain ⟨a, rfl, hx⟩ := h3 (by omega)
    obtain ⟨b, off, spot⟩ := a
    have hcell : ∀ i (h : i < l.length) j u, (trC l[i])[j]? = some u → w.cell? ((⟨b, off, spot⟩ : Addr).add (i * 9 + j)) = some u := fun i hi j u hu => by
      obtain ⟨c, _, hk, hj⟩ := hx i l[i] (by simp [hi])
      have hk' : c = trC l[i] := hk
      subst hk'
      exact hj j u hu
    obtain rfl : spot = none := by
      have := hcell 0 (by omega) 0 _ rfl
      simpa [Addr.add] using World.cell?_spot this
    refine .inr ⟨b, off, rfl, fun i hi => ?_⟩
    have h : ∀ j u, (trC l[i])[j]? = some u → w.cell? ⟨b, off + i * 9 + j, none⟩ = some u := fun j u hu => by
      have := hcell i hi j u hu
      rw [addr_mid] at this
      rw [show off + i * 9 + j = off + (i * 9 + j) by omega]; exact this
    exact ⟨h 0 _ rfl, h 1 _ rfl, h 2 _ rfl, h 3 _ rfl, h 4 _ rfl, h 5 _ rfl, h 6 _ rfl, h 7 _ rfl, h 8 _ rfl⟩
set_option maxRecDepth 100000 in
theorem evs_value {H : Type} {enc : TypeId × Value → H} {w : World} {base : Nat} {spare : Nat → Bool} {held : Bool} {A : Option Addr} {len cap : Nat} {x : DataW H} {p : List MemPlace}
    (ht : DataW.Trod enc Tryd.prog w base spare held 43 (.slice A len cap) x p) : ∃ l : List Tr.Ev, len = l.length ∧ l.length ≤ 9223372036854775807 ∧ (∀ a ∈ l, a.ok) ∧ EvsAt w A l := by
  obtain ⟨l, ⟨A', cap', hc, h1, h2, h3⟩, hB⟩ := (opens_slice (P := Tryd.prog) Tryd.underlying43 opens_ev (by kernel_rfl)).value ht
  have hc' : A = A' ∧ len = l.length ∧ cap = cap' := by
    have : [Value.slice A len cap] = [.slice A' l.length cap'] := hc
    simpa using this
  obtain ⟨rfl, hl, rfl⟩ := hc'
  refine ⟨l, hl, by omega, hB, ?_⟩
  by_cases h0 : l.length = 0
  · exact .inl (List.length_eq_zero_iff.1 h0)
  · obtain ⟨a, rfl, hx⟩ := h3 (by omega)
    obtain ⟨b, off, spot⟩ := a
    have hcell : ∀ i (h : i < l.length) j u, ([.int .i64 l[i].kind, .int .u16 (l[i].src.1 : Int), .int .u16 (l[i].src.2 : Int), .int .u16 (l[i].dst.1 : Int), .int .u16 (l[i].dst.2 : Int), .int .i64 l[i].epoch, .int .i64 l[i].role, .int .u16 (l[i].under.1 : Int), .int .u16 (l[i].under.2 : Int), .int .u16 (l[i].used : Int)] : List Value)[j]? = some u → w.cell? ((⟨b, off, spot⟩ : Addr).add (i * 10 + j)) = some u := fun i hi j u hu => by
      obtain ⟨c, _, hk, hj⟩ := hx i l[i] (by simp [hi])
      have hk' : c = _ := hk
      subst hk'
      exact hj j u hu
    obtain rfl : spot = none := by
      have := hcell 0 (by omega) 0 _ rfl
      simpa [Addr.add] using World.cell?_spot this
    refine .inr ⟨b, off, rfl, fun i hi => ?_⟩
    have h : ∀ j u, ([.int .i64 l[i].kind, .int .u16 (l[i].src.1 : Int), .int .u16 (l[i].src.2 : Int), .int .u16 (l[i].dst.1 : Int), .int .u16 (l[i].dst.2 : Int), .int .i64 l[i].epoch, .int .i64 l[i].role, .int .u16 (l[i].under.1 : Int), .int .u16 (l[i].under.2 : Int), .int .u16 (l[i].used : Int)] : List Value)[j]? = some u → w.cell? ⟨b, off + i * 10 + j, none⟩ = some u := fun j u hu => by
      have := hcell i hi j u hu
      rw [addr_mid] at this
      rw [show off + i * 10 + j = off + (i * 10 + j) by omega]; exact this
    exact ⟨h 0 _ rfl, h 1 _ rfl, h 2 _ rfl, h 3 _ rfl, h 4 _ rfl, h 5 _ rfl, h 6 _ rfl, h 7 _ rfl, h 8 _ rfl, h 9 _ rfl⟩
end Go.Proofs.YtdjndnoiankicaaDoor
namespace Go.Proofs.YtdjndnoiankicaaDoor
open Go.RowKit
theorem trmore_ok (A : Option Addr) (c : Nat) (l : List Tr.E) (hok : ∀ x ∈ l, Tr.okE x) (a b : Lab.L) (ha : Lab.ok a) (hb : Lab.ok b) (e : Tr.Ev) (he : e.ok) (w : World) (hL : LaidAt w) (hA : EntsAt w A l) :
    Calls Tryd.prog 9 #[.slice A l.length c, labV a, labV b, evV e] w fun r w' => r = .returned (.bool true) ∧ Below w.heap.size w w' := by
  by_cases h : l.length ≤ 60
  · exact trmore_few A c l h (fun x hx => (hok x hx).2.2.1) a b ha hb e he w hL hA
  · exact trmore_big A c l.length (by omega) a b e w hL
end Go.Proofs.YtdjndnoiankicaaDoor
