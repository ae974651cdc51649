/- The document's names: their texts. No conditions. -/
import Derived.Test.YtdjndnoiankicaaGreatDoorRidb
namespace Go.Proofs.YtdjndnoiankicaaGreatDoor
open Go.RowKit Go.Shelf
set_option linter.unusedSimpArgs false
set_option linter.unusedVariables false
attribute [local go_sem] cell_over frozen_over

theorem rnum_small (t : Nat) (h : t < 10) (w : World) : Calls Tryz.prog 113 #[.int .i64 (t : Int)] w fun e w' => e = .returned (.string ⟨(Tag.dig t).toArray⟩) ∧ w' = w := by
  have hn : ¬ (9 : Int) < (t : Int) := by omega
  have h1 : (t : Int) ≤ (t : Int) + 1 := by omega
  have h2 : (t : Int) + 1 ≤ 10 := by omega
  have hd := num_small ⟨t, h⟩
  simp only at hd
  rw [hd]
  clear hd
  go_enter Tryz.func113, Tryz.ntmps113
  go_wp2_with fail
  go_ret
  exact ⟨rfl, rfl⟩
theorem rnum_ok (t : Nat) (h : t < 16) (w : World) : Calls Tryz.prog 113 #[.int .i64 (t : Int)] w fun e w' => e = .returned (.string ⟨(Tag.dig t).toArray⟩) ∧ w' = w := by
  by_cases h9 : t < 10
  · exact rnum_small t h9 w
  · have hn : (9 : Int) < (t : Int) := by omega
    have HS := Lib.hid (fun w => rnum_small (t - 10) (by omega) w)
    have hd := num_big ⟨t, h⟩ (by simp; omega)
    simp only at hd
    rw [← hd]
    obtain ⟨j, rfl⟩ : ∃ j, t = j + 10 := ⟨t - 10, by omega⟩
    rw [Nat.add_sub_cancel] at HS ⊢
    have he : (j : Int) + 10 - 10 = (j : Int) := by omega
    have hn9 : (9 : Int) < (j : Int) + 10 := by omega
    rw [show ((j + 10 : Nat) : Int) = (j : Int) + 10 by omega]
    have hj : j < 6 := by omega
    have hj2 : (j : Int) < 6 := by omega
    have hcc : ¬ 9223372036854775807 < 1 + (Tag.dig j).length := by have := (Tag.dig_len j).2; omega
    clear hd hn h h9
    go_enter Tryz.func113, Tryz.ntmps113
    go_wp2_with (go_at_call 113; refine (HS.out _).mono ?_; rintro e w1 ⟨rfl, hw1⟩; obtain rfl := hw1.symm)
    go_ret
    exact ⟨rfl, rfl⟩
def Fact.rowb (n : Nat) (o : Obj) : Fact := ⟨fun v w => ∃ g, v = .slice (some ⟨g, 0, none⟩) n n ∧ w.heap[g]? = some o, fun _ _ _ ⟨g, h1, h2⟩ hb => ⟨g, h1, block_below hb h2⟩⟩
def Fact.ptr (u : Value) : Fact := ⟨fun v w => ∃ a : Nat × Nat, v = .pointer (some ⟨a.1, a.2, none⟩) ∧ w.cell? ⟨a.1, a.2, none⟩ = some u, fun _ _ _ ⟨a, h1, h2⟩ hb => ⟨a, h1, cell_on h2 hb⟩⟩
abbrev ltrs : Obj := .cells #[.string ⟨#[]⟩, .string ⟨#[112]⟩, .string ⟨#[109]⟩, .string ⟨#[102]⟩] 9 (0, 0)
theorem dig_char : ∀ n : Fin 4, Tag.dig n.val = [(48 + ((n.val : Nat) : Int).toNat).toUInt8] := by decide
set_option maxRecDepth 100000 in
set_option maxHeartbeats 4000000 in
theorem ridtext_ok (x : Idn.I) (hx : Lab.ok x.1) (w : World) : Calls Tryz.prog 47 #[idV x] w fun e w' => e = .returned (.string ⟨(Idn.text x).toArray⟩) ∧ Below w.heap.size w w' := by
  have HF := Lib.hid (fun w => rfine_ok x w)
  have HB := Lib.hid (below_fresh w (.cells #[.int .u16 (x.1.1 : Int), .int .u16 (x.1.2 : Int), .int .i64 x.2.1, .int .i64 x.2.2] 26))
  have HI := Lib.hid (heap_alloc_new w (.cells #[.int .u16 (x.1.1 : Int), .int .u16 (x.1.2 : Int), .int .i64 x.2.1, .int .i64 x.2.2] 26))
  by_cases hf : Idn.fine x = true
  · rw [hf] at HF
    have HT := Lib.hid (fun w => rltext_ok x.1 hx w)
    have hlz := labtext_size x.1
    have htx := Idn.text_fine hf
    obtain ⟨h1, h2, h3, h4⟩ := Idn.fine_iff.1 hf
    obtain ⟨⟨a, b⟩, k, n'⟩ := x
    simp only at h1 h2 h3 h4 HT hlz htx HB HI
    obtain ⟨n, rfl⟩ : ∃ n : Nat, n' = (n : Int) := ⟨n'.toNat, by omega⟩
    have hn : n < 4 := by omega
    have HN := Lib.hid (fun w => rnum_small n (by omega) w)
    rw [dig_char ⟨n, hn⟩] at HN
    have HS := Lib.hid (itext_bytes (Idn.letter k) (Lab.text (a, b)) (48 + ((n : Nat) : Int).toNat).toUInt8)
    rw [← htx] at HS
    generalize Idn.text ((a, b), k, (n : Int)) = TX at HS
    generalize (⟨(Lab.text (a, b)).toArray⟩ : ByteArray) = LT at HT HS hlz
    have hnz : (⟨[(48 + ((n : Nat) : Int).toNat).toUInt8].toArray⟩ : ByteArray).size = 1 := rfl
    generalize (⟨[(48 + ((n : Nat) : Int).toNat).toUInt8].toArray⟩ : ByteArray) = NT at HN HS hnz
    have hc1 : ¬ 9223372036854775807 < 1 + LT.size := by omega
    have hc2 : ¬ 9223372036854775807 < 1 + LT.size + 1 := by omega
    have hc3 : ¬ 9223372036854775807 < 1 + LT.size + 1 + 1 := by omega
    obtain hk : k = 1 ∨ k = 2 ∨ k = 3 := by omega
    clear hf hx h1 h2 h3 h4 htx
    rcases hk with rfl | rfl | rfl
    · have hlet : Idn.letter 1 = 112 := by decide
      rw [hlet] at HS
      clear hlet
      obtain ⟨⟨x0, x1, x2, x3⟩, x4, x5, x6, x7, x8⟩ := quad_cells HI.out
      go_enter Tryz.func47, Tryz.ntmps47
      go_upto_region 3 with (go_at_call 18; refine (HF.out _).mono ?_; rintro e w9 ⟨rfl, hb1⟩; have hi9 := block_below hb1 HI.out; have HB9 := Lib.hid (below_here HB.out hb1); clear x0 x1 x2 x3 x4 x5 x6 x7 x8 hb1; obtain ⟨⟨x0, x1, x2, x3⟩, x4, x5, x6, x7, x8⟩ := quad_cells hi9; clear hi9)
      refine wp_region_freeA 14 [some 6, some 7, some 8, some 9, some 10, some 11, some 12, some 13, some 14, some 15, some 16, some 17, some 18, some 19] (fun W => ∃ X, W = over w9 X) [Fact.rowb 4 ltrs, Fact.is (.pointer (some ⟨w.heap.size, 2, none⟩)), Fact.is (.int .i64 1), Fact.ptr (.string ⟨#[112]⟩), Fact.is (.string ⟨#[112]⟩), Fact.is (.pointer (some ⟨w.heap.size, 0, none⟩)), Fact.is (.agg #[.int .u16 (a : Int), .int .u16 (b : Int)]), Fact.is (.string LT), Fact.is (.string ((⟨#[112]⟩ : ByteArray) ++ LT)), Fact.is (.string ((⟨#[112]⟩ : ByteArray) ++ LT ++ ⟨#[46]⟩)), Fact.is (.pointer (some ⟨w.heap.size, 3, none⟩)), Fact.is (.int .i64 (n : Int)), Fact.is (.string NT), Fact.is (.string ((⟨#[112]⟩ : ByteArray) ++ LT ++ ⟨#[46]⟩ ++ NT))] [] (by kernel_rfl) (by kernel_rfl) ?same (over_of (Below.refl _ _).drew) ?steps ?fin
      case same => kernel_rfl
      case steps =>
        simp only [List.take_succ_cons, List.take_zero, stepsI]
        refine ⟨⟨fun v u => by kernel_rfl, ?s0⟩, ⟨fun v u => by kernel_rfl, ?s1⟩, ⟨fun v u => by kernel_rfl, ?s2⟩, ⟨fun v u => by kernel_rfl, ?s3⟩, ⟨fun v u => by kernel_rfl, ?s4⟩, ⟨fun v u => by kernel_rfl, ?s5⟩, ⟨fun v u => by kernel_rfl, ?s6⟩, ⟨fun v u => by kernel_rfl, ?s7⟩, ⟨fun v u => by kernel_rfl, ?s8⟩, ⟨fun v u => by kernel_rfl, ?s9⟩, ⟨fun v u => by kernel_rfl, ?s10⟩, ⟨fun v u => by kernel_rfl, ?s11⟩, ⟨fun v u => by kernel_rfl, ?s12⟩, ⟨fun v u => by kernel_rfl, ?s13⟩, trivial⟩
        case s0 =>
          intro v W hW hp
          obtain ⟨X, rfl⟩ := hW
          clear hp
          simp only [mkA, setAll, List.setIfInBounds_toArray, List.set_cons_succ, List.set_cons_zero]
          refine .inl ⟨rfl, ?_⟩
          go_simp
          first | exact ⟨over_of (below_new (over_below _ _) _), below_fresh _ _, ⟨_, rfl, heap_alloc_new _ _⟩⟩ | exact ⟨over_of (below_new (over_below _ _) _), below_fresh _ _, ⟨_, rfl, heap_alloc_new _ _⟩, fun h => by cases h⟩
        case s1 =>
          intro v W hW hp
          obtain ⟨X, rfl⟩ := hW
          clear hp
          simp only [mkA, setAll, List.setIfInBounds_toArray, List.set_cons_succ, List.set_cons_zero]
          refine .inl ⟨rfl, ?_⟩
          go_simp
          first | exact ⟨⟨X, rfl⟩, Below.refl _ _, rfl⟩ | exact ⟨⟨X, rfl⟩, Below.refl _ _, rfl, fun h => by cases h⟩
        case s2 =>
          intro v W hW hp
          obtain ⟨X, rfl⟩ := hW
          have g1 : v 1 = .pointer (some ⟨w.heap.size, 2, none⟩) := hp ⟨1, .data⟩ (by simp) rfl
          clear hp
          simp only [mkA, setAll, List.setIfInBounds_toArray, List.set_cons_succ, List.set_cons_zero]
          refine .inl ⟨rfl, ?_⟩
          go_simp
          first | exact ⟨⟨X, rfl⟩, Below.refl _ _, rfl⟩ | exact ⟨⟨X, rfl⟩, Below.refl _ _, rfl, fun h => by cases h⟩
        case s3 =>
          intro v W hW hp
          obtain ⟨X, rfl⟩ := hW
          obtain ⟨b0, g0, r0⟩ := hp ⟨0, .data⟩ (by simp) rfl
          have g2 : v 2 = .int .i64 1 := hp ⟨2, .data⟩ (by simp) rfl
          clear hp
          simp only [mkA, setAll, List.setIfInBounds_toArray, List.set_cons_succ, List.set_cons_zero]
          refine .inl ⟨rfl, ?_⟩
          go_simp
          first | exact ⟨⟨X, rfl⟩, Below.refl _ _, ⟨(_, _), rfl, (quad_cells r0).1.2.1⟩⟩ | exact ⟨⟨X, rfl⟩, Below.refl _ _, ⟨(_, _), rfl, (quad_cells r0).1.2.1⟩, fun h => by cases h⟩
        case s4 =>
          intro v W hW hp
          obtain ⟨X, rfl⟩ := hW
          obtain ⟨b3, g3, r3⟩ := hp ⟨3, .data⟩ (by simp) rfl
          clear hp
          simp only [mkA, setAll, List.setIfInBounds_toArray, List.set_cons_succ, List.set_cons_zero]
          refine .inl ⟨rfl, ?_⟩
          go_simp
          first | exact ⟨⟨X, rfl⟩, Below.refl _ _, rfl⟩ | exact ⟨⟨X, rfl⟩, Below.refl _ _, rfl, fun h => by cases h⟩
        case s5 =>
          intro v W hW hp
          obtain ⟨X, rfl⟩ := hW
          clear hp
          simp only [mkA, setAll, List.setIfInBounds_toArray, List.set_cons_succ, List.set_cons_zero]
          refine .inl ⟨rfl, ?_⟩
          go_simp
          first | exact ⟨⟨X, rfl⟩, Below.refl _ _, rfl⟩ | exact ⟨⟨X, rfl⟩, Below.refl _ _, rfl, fun h => by cases h⟩
        case s6 =>
          intro v W hW hp
          obtain ⟨X, rfl⟩ := hW
          have g5 : v 5 = .pointer (some ⟨w.heap.size, 0, none⟩) := hp ⟨5, .data⟩ (by simp) rfl
          clear hp
          simp only [mkA, setAll, List.setIfInBounds_toArray, List.set_cons_succ, List.set_cons_zero]
          refine .inl ⟨rfl, ?_⟩
          go_simp
          first | exact ⟨⟨X, rfl⟩, Below.refl _ _, rfl⟩ | exact ⟨⟨X, rfl⟩, Below.refl _ _, rfl, fun h => by cases h⟩
        case s7 =>
          intro v W hW hp
          obtain ⟨X, rfl⟩ := hW
          have g6 : v 6 = .agg #[.int .u16 (a : Int), .int .u16 (b : Int)] := hp ⟨6, .data⟩ (by simp) rfl
          clear hp
          simp only [mkA, setAll, List.setIfInBounds_toArray, List.set_cons_succ, List.set_cons_zero]
          refine .inl ⟨rfl, ?_⟩
          go_simp
          refine (HT.out _).mono ?_
          rintro e W2 ⟨rfl, hb2⟩
          first | exact ⟨_, rfl, over_of (below_here (over_below _ _) hb2), hb2, rfl⟩ | exact ⟨_, rfl, over_of (below_here (over_below _ _) hb2), hb2, rfl, fun h => by cases h⟩
        case s8 =>
          intro v W hW hp
          obtain ⟨X, rfl⟩ := hW
          have g4 : v 4 = .string ⟨#[112]⟩ := hp ⟨4, .data⟩ (by simp) rfl
          have g7 : v 7 = .string LT := hp ⟨7, .data⟩ (by simp) rfl
          clear hp
          simp only [mkA, setAll, List.setIfInBounds_toArray, List.set_cons_succ, List.set_cons_zero]
          refine .inl ⟨rfl, ?_⟩
          go_simp
          first | exact ⟨⟨X, rfl⟩, Below.refl _ _, rfl⟩ | exact ⟨⟨X, rfl⟩, Below.refl _ _, rfl, fun h => by cases h⟩
        case s9 =>
          intro v W hW hp
          obtain ⟨X, rfl⟩ := hW
          have g8 : v 8 = .string ((⟨#[112]⟩ : ByteArray) ++ LT) := hp ⟨8, .data⟩ (by simp) rfl
          clear hp
          simp only [mkA, setAll, List.setIfInBounds_toArray, List.set_cons_succ, List.set_cons_zero]
          refine .inl ⟨rfl, ?_⟩
          go_simp
          first | exact ⟨⟨X, rfl⟩, Below.refl _ _, rfl⟩ | exact ⟨⟨X, rfl⟩, Below.refl _ _, rfl, fun h => by cases h⟩
        case s10 =>
          intro v W hW hp
          obtain ⟨X, rfl⟩ := hW
          clear hp
          simp only [mkA, setAll, List.setIfInBounds_toArray, List.set_cons_succ, List.set_cons_zero]
          refine .inl ⟨rfl, ?_⟩
          go_simp
          first | exact ⟨⟨X, rfl⟩, Below.refl _ _, rfl⟩ | exact ⟨⟨X, rfl⟩, Below.refl _ _, rfl, fun h => by cases h⟩
        case s11 =>
          intro v W hW hp
          obtain ⟨X, rfl⟩ := hW
          have g10 : v 10 = .pointer (some ⟨w.heap.size, 3, none⟩) := hp ⟨10, .data⟩ (by simp) rfl
          clear hp
          simp only [mkA, setAll, List.setIfInBounds_toArray, List.set_cons_succ, List.set_cons_zero]
          refine .inl ⟨rfl, ?_⟩
          go_simp
          first | exact ⟨⟨X, rfl⟩, Below.refl _ _, rfl⟩ | exact ⟨⟨X, rfl⟩, Below.refl _ _, rfl, fun h => by cases h⟩
        case s12 =>
          intro v W hW hp
          obtain ⟨X, rfl⟩ := hW
          have g11 : v 11 = .int .i64 (n : Int) := hp ⟨11, .data⟩ (by simp) rfl
          clear hp
          simp only [mkA, setAll, List.setIfInBounds_toArray, List.set_cons_succ, List.set_cons_zero]
          refine .inl ⟨rfl, ?_⟩
          go_simp
          refine (HN.out _).mono ?_
          rintro e W2 ⟨rfl, hw2⟩
          obtain rfl := hw2.symm
          first | exact ⟨_, rfl, ⟨X, rfl⟩, Below.refl _ _, rfl⟩ | exact ⟨_, rfl, ⟨X, rfl⟩, Below.refl _ _, rfl, fun h => by cases h⟩
        case s13 =>
          intro v W hW hp
          obtain ⟨X, rfl⟩ := hW
          have g9 : v 9 = .string ((⟨#[112]⟩ : ByteArray) ++ LT ++ ⟨#[46]⟩) := hp ⟨9, .data⟩ (by simp) rfl
          have g12 : v 12 = .string NT := hp ⟨12, .data⟩ (by simp) rfl
          clear hp
          simp only [mkA, setAll, List.setIfInBounds_toArray, List.set_cons_succ, List.set_cons_zero]
          refine .inl ⟨rfl, ?_⟩
          go_simp
          first | exact ⟨⟨X, rfl⟩, Below.refl _ _, rfl⟩ | exact ⟨⟨X, rfl⟩, Below.refl _ _, rfl, fun h => by cases h⟩
      case fin =>
        intro v W hW hR hD
        have hbW := below_of_over hW
        have g13 : v 13 = _ := hR 13 (by omega)
        simp only [List.drop_succ_cons, List.drop_zero, mkA, setAll, List.setIfInBounds_toArray, List.set_cons_succ, List.set_cons_zero, g13]
        generalize v 0 = q0
        generalize v 1 = q1
        generalize v 2 = q2
        generalize v 3 = q3
        generalize v 4 = q4
        generalize v 5 = q5
        generalize v 6 = q6
        generalize v 7 = q7
        generalize v 8 = q8
        generalize v 9 = q9
        generalize v 10 = q10
        generalize v 11 = q11
        generalize v 12 = q12
        clear hR hD hW g13
        go_wp2_with fail
        go_ret
        exact ⟨by rw [← HS.out]; rfl, below_here HB9.out hbW⟩
    · have hlet : Idn.letter 2 = 109 := by decide
      rw [hlet] at HS
      clear hlet
      obtain ⟨⟨x0, x1, x2, x3⟩, x4, x5, x6, x7, x8⟩ := quad_cells HI.out
      go_enter Tryz.func47, Tryz.ntmps47
      go_upto_region 3 with (go_at_call 18; refine (HF.out _).mono ?_; rintro e w9 ⟨rfl, hb1⟩; have hi9 := block_below hb1 HI.out; have HB9 := Lib.hid (below_here HB.out hb1); clear x0 x1 x2 x3 x4 x5 x6 x7 x8 hb1; obtain ⟨⟨x0, x1, x2, x3⟩, x4, x5, x6, x7, x8⟩ := quad_cells hi9; clear hi9)
      refine wp_region_freeA 14 [some 6, some 7, some 8, some 9, some 10, some 11, some 12, some 13, some 14, some 15, some 16, some 17, some 18, some 19] (fun W => ∃ X, W = over w9 X) [Fact.rowb 4 ltrs, Fact.is (.pointer (some ⟨w.heap.size, 2, none⟩)), Fact.is (.int .i64 2), Fact.ptr (.string ⟨#[109]⟩), Fact.is (.string ⟨#[109]⟩), Fact.is (.pointer (some ⟨w.heap.size, 0, none⟩)), Fact.is (.agg #[.int .u16 (a : Int), .int .u16 (b : Int)]), Fact.is (.string LT), Fact.is (.string ((⟨#[109]⟩ : ByteArray) ++ LT)), Fact.is (.string ((⟨#[109]⟩ : ByteArray) ++ LT ++ ⟨#[46]⟩)), Fact.is (.pointer (some ⟨w.heap.size, 3, none⟩)), Fact.is (.int .i64 (n : Int)), Fact.is (.string NT), Fact.is (.string ((⟨#[109]⟩ : ByteArray) ++ LT ++ ⟨#[46]⟩ ++ NT))] [] (by kernel_rfl) (by kernel_rfl) ?same (over_of (Below.refl _ _).drew) ?steps ?fin
      case same => kernel_rfl
      case steps =>
        simp only [List.take_succ_cons, List.take_zero, stepsI]
        refine ⟨⟨fun v u => by kernel_rfl, ?s0⟩, ⟨fun v u => by kernel_rfl, ?s1⟩, ⟨fun v u => by kernel_rfl, ?s2⟩, ⟨fun v u => by kernel_rfl, ?s3⟩, ⟨fun v u => by kernel_rfl, ?s4⟩, ⟨fun v u => by kernel_rfl, ?s5⟩, ⟨fun v u => by kernel_rfl, ?s6⟩, ⟨fun v u => by kernel_rfl, ?s7⟩, ⟨fun v u => by kernel_rfl, ?s8⟩, ⟨fun v u => by kernel_rfl, ?s9⟩, ⟨fun v u => by kernel_rfl, ?s10⟩, ⟨fun v u => by kernel_rfl, ?s11⟩, ⟨fun v u => by kernel_rfl, ?s12⟩, ⟨fun v u => by kernel_rfl, ?s13⟩, trivial⟩
        case s0 =>
          intro v W hW hp
          obtain ⟨X, rfl⟩ := hW
          clear hp
          simp only [mkA, setAll, List.setIfInBounds_toArray, List.set_cons_succ, List.set_cons_zero]
          refine .inl ⟨rfl, ?_⟩
          go_simp
          first | exact ⟨over_of (below_new (over_below _ _) _), below_fresh _ _, ⟨_, rfl, heap_alloc_new _ _⟩⟩ | exact ⟨over_of (below_new (over_below _ _) _), below_fresh _ _, ⟨_, rfl, heap_alloc_new _ _⟩, fun h => by cases h⟩
        case s1 =>
          intro v W hW hp
          obtain ⟨X, rfl⟩ := hW
          clear hp
          simp only [mkA, setAll, List.setIfInBounds_toArray, List.set_cons_succ, List.set_cons_zero]
          refine .inl ⟨rfl, ?_⟩
          go_simp
          first | exact ⟨⟨X, rfl⟩, Below.refl _ _, rfl⟩ | exact ⟨⟨X, rfl⟩, Below.refl _ _, rfl, fun h => by cases h⟩
        case s2 =>
          intro v W hW hp
          obtain ⟨X, rfl⟩ := hW
          have g1 : v 1 = .pointer (some ⟨w.heap.size, 2, none⟩) := hp ⟨1, .data⟩ (by simp) rfl
          clear hp
          simp only [mkA, setAll, List.setIfInBounds_toArray, List.set_cons_succ, List.set_cons_zero]
          refine .inl ⟨rfl, ?_⟩
          go_simp
          first | exact ⟨⟨X, rfl⟩, Below.refl _ _, rfl⟩ | exact ⟨⟨X, rfl⟩, Below.refl _ _, rfl, fun h => by cases h⟩
        case s3 =>
          intro v W hW hp
          obtain ⟨X, rfl⟩ := hW
          obtain ⟨b0, g0, r0⟩ := hp ⟨0, .data⟩ (by simp) rfl
          have g2 : v 2 = .int .i64 2 := hp ⟨2, .data⟩ (by simp) rfl
          clear hp
          simp only [mkA, setAll, List.setIfInBounds_toArray, List.set_cons_succ, List.set_cons_zero]
          refine .inl ⟨rfl, ?_⟩
          go_simp
          first | exact ⟨⟨X, rfl⟩, Below.refl _ _, ⟨(_, _), rfl, (quad_cells r0).1.2.2.1⟩⟩ | exact ⟨⟨X, rfl⟩, Below.refl _ _, ⟨(_, _), rfl, (quad_cells r0).1.2.2.1⟩, fun h => by cases h⟩
        case s4 =>
          intro v W hW hp
          obtain ⟨X, rfl⟩ := hW
          obtain ⟨b3, g3, r3⟩ := hp ⟨3, .data⟩ (by simp) rfl
          clear hp
          simp only [mkA, setAll, List.setIfInBounds_toArray, List.set_cons_succ, List.set_cons_zero]
          refine .inl ⟨rfl, ?_⟩
          go_simp
          first | exact ⟨⟨X, rfl⟩, Below.refl _ _, rfl⟩ | exact ⟨⟨X, rfl⟩, Below.refl _ _, rfl, fun h => by cases h⟩
        case s5 =>
          intro v W hW hp
          obtain ⟨X, rfl⟩ := hW
          clear hp
          simp only [mkA, setAll, List.setIfInBounds_toArray, List.set_cons_succ, List.set_cons_zero]
          refine .inl ⟨rfl, ?_⟩
          go_simp
          first | exact ⟨⟨X, rfl⟩, Below.refl _ _, rfl⟩ | exact ⟨⟨X, rfl⟩, Below.refl _ _, rfl, fun h => by cases h⟩
        case s6 =>
          intro v W hW hp
          obtain ⟨X, rfl⟩ := hW
          have g5 : v 5 = .pointer (some ⟨w.heap.size, 0, none⟩) := hp ⟨5, .data⟩ (by simp) rfl
          clear hp
          simp only [mkA, setAll, List.setIfInBounds_toArray, List.set_cons_succ, List.set_cons_zero]
          refine .inl ⟨rfl, ?_⟩
          go_simp
          first | exact ⟨⟨X, rfl⟩, Below.refl _ _, rfl⟩ | exact ⟨⟨X, rfl⟩, Below.refl _ _, rfl, fun h => by cases h⟩
        case s7 =>
          intro v W hW hp
          obtain ⟨X, rfl⟩ := hW
          have g6 : v 6 = .agg #[.int .u16 (a : Int), .int .u16 (b : Int)] := hp ⟨6, .data⟩ (by simp) rfl
          clear hp
          simp only [mkA, setAll, List.setIfInBounds_toArray, List.set_cons_succ, List.set_cons_zero]
          refine .inl ⟨rfl, ?_⟩
          go_simp
          refine (HT.out _).mono ?_
          rintro e W2 ⟨rfl, hb2⟩
          first | exact ⟨_, rfl, over_of (below_here (over_below _ _) hb2), hb2, rfl⟩ | exact ⟨_, rfl, over_of (below_here (over_below _ _) hb2), hb2, rfl, fun h => by cases h⟩
        case s8 =>
          intro v W hW hp
          obtain ⟨X, rfl⟩ := hW
          have g4 : v 4 = .string ⟨#[109]⟩ := hp ⟨4, .data⟩ (by simp) rfl
          have g7 : v 7 = .string LT := hp ⟨7, .data⟩ (by simp) rfl
          clear hp
          simp only [mkA, setAll, List.setIfInBounds_toArray, List.set_cons_succ, List.set_cons_zero]
          refine .inl ⟨rfl, ?_⟩
          go_simp
          first | exact ⟨⟨X, rfl⟩, Below.refl _ _, rfl⟩ | exact ⟨⟨X, rfl⟩, Below.refl _ _, rfl, fun h => by cases h⟩
        case s9 =>
          intro v W hW hp
          obtain ⟨X, rfl⟩ := hW
          have g8 : v 8 = .string ((⟨#[109]⟩ : ByteArray) ++ LT) := hp ⟨8, .data⟩ (by simp) rfl
          clear hp
          simp only [mkA, setAll, List.setIfInBounds_toArray, List.set_cons_succ, List.set_cons_zero]
          refine .inl ⟨rfl, ?_⟩
          go_simp
          first | exact ⟨⟨X, rfl⟩, Below.refl _ _, rfl⟩ | exact ⟨⟨X, rfl⟩, Below.refl _ _, rfl, fun h => by cases h⟩
        case s10 =>
          intro v W hW hp
          obtain ⟨X, rfl⟩ := hW
          clear hp
          simp only [mkA, setAll, List.setIfInBounds_toArray, List.set_cons_succ, List.set_cons_zero]
          refine .inl ⟨rfl, ?_⟩
          go_simp
          first | exact ⟨⟨X, rfl⟩, Below.refl _ _, rfl⟩ | exact ⟨⟨X, rfl⟩, Below.refl _ _, rfl, fun h => by cases h⟩
        case s11 =>
          intro v W hW hp
          obtain ⟨X, rfl⟩ := hW
          have g10 : v 10 = .pointer (some ⟨w.heap.size, 3, none⟩) := hp ⟨10, .data⟩ (by simp) rfl
          clear hp
          simp only [mkA, setAll, List.setIfInBounds_toArray, List.set_cons_succ, List.set_cons_zero]
          refine .inl ⟨rfl, ?_⟩
          go_simp
          first | exact ⟨⟨X, rfl⟩, Below.refl _ _, rfl⟩ | exact ⟨⟨X, rfl⟩, Below.refl _ _, rfl, fun h => by cases h⟩
        case s12 =>
          intro v W hW hp
          obtain ⟨X, rfl⟩ := hW
          have g11 : v 11 = .int .i64 (n : Int) := hp ⟨11, .data⟩ (by simp) rfl
          clear hp
          simp only [mkA, setAll, List.setIfInBounds_toArray, List.set_cons_succ, List.set_cons_zero]
          refine .inl ⟨rfl, ?_⟩
          go_simp
          refine (HN.out _).mono ?_
          rintro e W2 ⟨rfl, hw2⟩
          obtain rfl := hw2.symm
          first | exact ⟨_, rfl, ⟨X, rfl⟩, Below.refl _ _, rfl⟩ | exact ⟨_, rfl, ⟨X, rfl⟩, Below.refl _ _, rfl, fun h => by cases h⟩
        case s13 =>
          intro v W hW hp
          obtain ⟨X, rfl⟩ := hW
          have g9 : v 9 = .string ((⟨#[109]⟩ : ByteArray) ++ LT ++ ⟨#[46]⟩) := hp ⟨9, .data⟩ (by simp) rfl
          have g12 : v 12 = .string NT := hp ⟨12, .data⟩ (by simp) rfl
          clear hp
          simp only [mkA, setAll, List.setIfInBounds_toArray, List.set_cons_succ, List.set_cons_zero]
          refine .inl ⟨rfl, ?_⟩
          go_simp
          first | exact ⟨⟨X, rfl⟩, Below.refl _ _, rfl⟩ | exact ⟨⟨X, rfl⟩, Below.refl _ _, rfl, fun h => by cases h⟩
      case fin =>
        intro v W hW hR hD
        have hbW := below_of_over hW
        have g13 : v 13 = _ := hR 13 (by omega)
        simp only [List.drop_succ_cons, List.drop_zero, mkA, setAll, List.setIfInBounds_toArray, List.set_cons_succ, List.set_cons_zero, g13]
        generalize v 0 = q0
        generalize v 1 = q1
        generalize v 2 = q2
        generalize v 3 = q3
        generalize v 4 = q4
        generalize v 5 = q5
        generalize v 6 = q6
        generalize v 7 = q7
        generalize v 8 = q8
        generalize v 9 = q9
        generalize v 10 = q10
        generalize v 11 = q11
        generalize v 12 = q12
        clear hR hD hW g13
        go_wp2_with fail
        go_ret
        exact ⟨by rw [← HS.out]; rfl, below_here HB9.out hbW⟩
    · have hlet : Idn.letter 3 = 102 := by decide
      rw [hlet] at HS
      clear hlet
      obtain ⟨⟨x0, x1, x2, x3⟩, x4, x5, x6, x7, x8⟩ := quad_cells HI.out
      go_enter Tryz.func47, Tryz.ntmps47
      go_upto_region 3 with (go_at_call 18; refine (HF.out _).mono ?_; rintro e w9 ⟨rfl, hb1⟩; have hi9 := block_below hb1 HI.out; have HB9 := Lib.hid (below_here HB.out hb1); clear x0 x1 x2 x3 x4 x5 x6 x7 x8 hb1; obtain ⟨⟨x0, x1, x2, x3⟩, x4, x5, x6, x7, x8⟩ := quad_cells hi9; clear hi9)
      refine wp_region_freeA 14 [some 6, some 7, some 8, some 9, some 10, some 11, some 12, some 13, some 14, some 15, some 16, some 17, some 18, some 19] (fun W => ∃ X, W = over w9 X) [Fact.rowb 4 ltrs, Fact.is (.pointer (some ⟨w.heap.size, 2, none⟩)), Fact.is (.int .i64 3), Fact.ptr (.string ⟨#[102]⟩), Fact.is (.string ⟨#[102]⟩), Fact.is (.pointer (some ⟨w.heap.size, 0, none⟩)), Fact.is (.agg #[.int .u16 (a : Int), .int .u16 (b : Int)]), Fact.is (.string LT), Fact.is (.string ((⟨#[102]⟩ : ByteArray) ++ LT)), Fact.is (.string ((⟨#[102]⟩ : ByteArray) ++ LT ++ ⟨#[46]⟩)), Fact.is (.pointer (some ⟨w.heap.size, 3, none⟩)), Fact.is (.int .i64 (n : Int)), Fact.is (.string NT), Fact.is (.string ((⟨#[102]⟩ : ByteArray) ++ LT ++ ⟨#[46]⟩ ++ NT))] [] (by kernel_rfl) (by kernel_rfl) ?same (over_of (Below.refl _ _).drew) ?steps ?fin
      case same => kernel_rfl
      case steps =>
        simp only [List.take_succ_cons, List.take_zero, stepsI]
        refine ⟨⟨fun v u => by kernel_rfl, ?s0⟩, ⟨fun v u => by kernel_rfl, ?s1⟩, ⟨fun v u => by kernel_rfl, ?s2⟩, ⟨fun v u => by kernel_rfl, ?s3⟩, ⟨fun v u => by kernel_rfl, ?s4⟩, ⟨fun v u => by kernel_rfl, ?s5⟩, ⟨fun v u => by kernel_rfl, ?s6⟩, ⟨fun v u => by kernel_rfl, ?s7⟩, ⟨fun v u => by kernel_rfl, ?s8⟩, ⟨fun v u => by kernel_rfl, ?s9⟩, ⟨fun v u => by kernel_rfl, ?s10⟩, ⟨fun v u => by kernel_rfl, ?s11⟩, ⟨fun v u => by kernel_rfl, ?s12⟩, ⟨fun v u => by kernel_rfl, ?s13⟩, trivial⟩
        case s0 =>
          intro v W hW hp
          obtain ⟨X, rfl⟩ := hW
          clear hp
          simp only [mkA, setAll, List.setIfInBounds_toArray, List.set_cons_succ, List.set_cons_zero]
          refine .inl ⟨rfl, ?_⟩
          go_simp
          first | exact ⟨over_of (below_new (over_below _ _) _), below_fresh _ _, ⟨_, rfl, heap_alloc_new _ _⟩⟩ | exact ⟨over_of (below_new (over_below _ _) _), below_fresh _ _, ⟨_, rfl, heap_alloc_new _ _⟩, fun h => by cases h⟩
        case s1 =>
          intro v W hW hp
          obtain ⟨X, rfl⟩ := hW
          clear hp
          simp only [mkA, setAll, List.setIfInBounds_toArray, List.set_cons_succ, List.set_cons_zero]
          refine .inl ⟨rfl, ?_⟩
          go_simp
          first | exact ⟨⟨X, rfl⟩, Below.refl _ _, rfl⟩ | exact ⟨⟨X, rfl⟩, Below.refl _ _, rfl, fun h => by cases h⟩
        case s2 =>
          intro v W hW hp
          obtain ⟨X, rfl⟩ := hW
          have g1 : v 1 = .pointer (some ⟨w.heap.size, 2, none⟩) := hp ⟨1, .data⟩ (by simp) rfl
          clear hp
          simp only [mkA, setAll, List.setIfInBounds_toArray, List.set_cons_succ, List.set_cons_zero]
          refine .inl ⟨rfl, ?_⟩
          go_simp
          first | exact ⟨⟨X, rfl⟩, Below.refl _ _, rfl⟩ | exact ⟨⟨X, rfl⟩, Below.refl _ _, rfl, fun h => by cases h⟩
        case s3 =>
          intro v W hW hp
          obtain ⟨X, rfl⟩ := hW
          obtain ⟨b0, g0, r0⟩ := hp ⟨0, .data⟩ (by simp) rfl
          have g2 : v 2 = .int .i64 3 := hp ⟨2, .data⟩ (by simp) rfl
          clear hp
          simp only [mkA, setAll, List.setIfInBounds_toArray, List.set_cons_succ, List.set_cons_zero]
          refine .inl ⟨rfl, ?_⟩
          go_simp
          first | exact ⟨⟨X, rfl⟩, Below.refl _ _, ⟨(_, _), rfl, (quad_cells r0).1.2.2.2⟩⟩ | exact ⟨⟨X, rfl⟩, Below.refl _ _, ⟨(_, _), rfl, (quad_cells r0).1.2.2.2⟩, fun h => by cases h⟩
        case s4 =>
          intro v W hW hp
          obtain ⟨X, rfl⟩ := hW
          obtain ⟨b3, g3, r3⟩ := hp ⟨3, .data⟩ (by simp) rfl
          clear hp
          simp only [mkA, setAll, List.setIfInBounds_toArray, List.set_cons_succ, List.set_cons_zero]
          refine .inl ⟨rfl, ?_⟩
          go_simp
          first | exact ⟨⟨X, rfl⟩, Below.refl _ _, rfl⟩ | exact ⟨⟨X, rfl⟩, Below.refl _ _, rfl, fun h => by cases h⟩
        case s5 =>
          intro v W hW hp
          obtain ⟨X, rfl⟩ := hW
          clear hp
          simp only [mkA, setAll, List.setIfInBounds_toArray, List.set_cons_succ, List.set_cons_zero]
          refine .inl ⟨rfl, ?_⟩
          go_simp
          first | exact ⟨⟨X, rfl⟩, Below.refl _ _, rfl⟩ | exact ⟨⟨X, rfl⟩, Below.refl _ _, rfl, fun h => by cases h⟩
        case s6 =>
          intro v W hW hp
          obtain ⟨X, rfl⟩ := hW
          have g5 : v 5 = .pointer (some ⟨w.heap.size, 0, none⟩) := hp ⟨5, .data⟩ (by simp) rfl
          clear hp
          simp only [mkA, setAll, List.setIfInBounds_toArray, List.set_cons_succ, List.set_cons_zero]
          refine .inl ⟨rfl, ?_⟩
          go_simp
          first | exact ⟨⟨X, rfl⟩, Below.refl _ _, rfl⟩ | exact ⟨⟨X, rfl⟩, Below.refl _ _, rfl, fun h => by cases h⟩
        case s7 =>
          intro v W hW hp
          obtain ⟨X, rfl⟩ := hW
          have g6 : v 6 = .agg #[.int .u16 (a : Int), .int .u16 (b : Int)] := hp ⟨6, .data⟩ (by simp) rfl
          clear hp
          simp only [mkA, setAll, List.setIfInBounds_toArray, List.set_cons_succ, List.set_cons_zero]
          refine .inl ⟨rfl, ?_⟩
          go_simp
          refine (HT.out _).mono ?_
          rintro e W2 ⟨rfl, hb2⟩
          first | exact ⟨_, rfl, over_of (below_here (over_below _ _) hb2), hb2, rfl⟩ | exact ⟨_, rfl, over_of (below_here (over_below _ _) hb2), hb2, rfl, fun h => by cases h⟩
        case s8 =>
          intro v W hW hp
          obtain ⟨X, rfl⟩ := hW
          have g4 : v 4 = .string ⟨#[102]⟩ := hp ⟨4, .data⟩ (by simp) rfl
          have g7 : v 7 = .string LT := hp ⟨7, .data⟩ (by simp) rfl
          clear hp
          simp only [mkA, setAll, List.setIfInBounds_toArray, List.set_cons_succ, List.set_cons_zero]
          refine .inl ⟨rfl, ?_⟩
          go_simp
          first | exact ⟨⟨X, rfl⟩, Below.refl _ _, rfl⟩ | exact ⟨⟨X, rfl⟩, Below.refl _ _, rfl, fun h => by cases h⟩
        case s9 =>
          intro v W hW hp
          obtain ⟨X, rfl⟩ := hW
          have g8 : v 8 = .string ((⟨#[102]⟩ : ByteArray) ++ LT) := hp ⟨8, .data⟩ (by simp) rfl
          clear hp
          simp only [mkA, setAll, List.setIfInBounds_toArray, List.set_cons_succ, List.set_cons_zero]
          refine .inl ⟨rfl, ?_⟩
          go_simp
          first | exact ⟨⟨X, rfl⟩, Below.refl _ _, rfl⟩ | exact ⟨⟨X, rfl⟩, Below.refl _ _, rfl, fun h => by cases h⟩
        case s10 =>
          intro v W hW hp
          obtain ⟨X, rfl⟩ := hW
          clear hp
          simp only [mkA, setAll, List.setIfInBounds_toArray, List.set_cons_succ, List.set_cons_zero]
          refine .inl ⟨rfl, ?_⟩
          go_simp
          first | exact ⟨⟨X, rfl⟩, Below.refl _ _, rfl⟩ | exact ⟨⟨X, rfl⟩, Below.refl _ _, rfl, fun h => by cases h⟩
        case s11 =>
          intro v W hW hp
          obtain ⟨X, rfl⟩ := hW
          have g10 : v 10 = .pointer (some ⟨w.heap.size, 3, none⟩) := hp ⟨10, .data⟩ (by simp) rfl
          clear hp
          simp only [mkA, setAll, List.setIfInBounds_toArray, List.set_cons_succ, List.set_cons_zero]
          refine .inl ⟨rfl, ?_⟩
          go_simp
          first | exact ⟨⟨X, rfl⟩, Below.refl _ _, rfl⟩ | exact ⟨⟨X, rfl⟩, Below.refl _ _, rfl, fun h => by cases h⟩
        case s12 =>
          intro v W hW hp
          obtain ⟨X, rfl⟩ := hW
          have g11 : v 11 = .int .i64 (n : Int) := hp ⟨11, .data⟩ (by simp) rfl
          clear hp
          simp only [mkA, setAll, List.setIfInBounds_toArray, List.set_cons_succ, List.set_cons_zero]
          refine .inl ⟨rfl, ?_⟩
          go_simp
          refine (HN.out _).mono ?_
          rintro e W2 ⟨rfl, hw2⟩
          obtain rfl := hw2.symm
          first | exact ⟨_, rfl, ⟨X, rfl⟩, Below.refl _ _, rfl⟩ | exact ⟨_, rfl, ⟨X, rfl⟩, Below.refl _ _, rfl, fun h => by cases h⟩
        case s13 =>
          intro v W hW hp
          obtain ⟨X, rfl⟩ := hW
          have g9 : v 9 = .string ((⟨#[102]⟩ : ByteArray) ++ LT ++ ⟨#[46]⟩) := hp ⟨9, .data⟩ (by simp) rfl
          have g12 : v 12 = .string NT := hp ⟨12, .data⟩ (by simp) rfl
          clear hp
          simp only [mkA, setAll, List.setIfInBounds_toArray, List.set_cons_succ, List.set_cons_zero]
          refine .inl ⟨rfl, ?_⟩
          go_simp
          first | exact ⟨⟨X, rfl⟩, Below.refl _ _, rfl⟩ | exact ⟨⟨X, rfl⟩, Below.refl _ _, rfl, fun h => by cases h⟩
      case fin =>
        intro v W hW hR hD
        have hbW := below_of_over hW
        have g13 : v 13 = _ := hR 13 (by omega)
        simp only [List.drop_succ_cons, List.drop_zero, mkA, setAll, List.setIfInBounds_toArray, List.set_cons_succ, List.set_cons_zero, g13]
        generalize v 0 = q0
        generalize v 1 = q1
        generalize v 2 = q2
        generalize v 3 = q3
        generalize v 4 = q4
        generalize v 5 = q5
        generalize v 6 = q6
        generalize v 7 = q7
        generalize v 8 = q8
        generalize v 9 = q9
        generalize v 10 = q10
        generalize v 11 = q11
        generalize v 12 = q12
        clear hR hD hW g13
        go_wp2_with fail
        go_ret
        exact ⟨by rw [← HS.out]; rfl, below_here HB9.out hbW⟩
  · have hf' : Idn.fine x = false := by simpa using hf
    rw [hf'] at HF
    have ht : Idn.text x = [] := by unfold Idn.text; rw [hf']; rfl
    rw [ht]
    clear hf hf' ht
    obtain ⟨⟨x0, x1, x2, x3⟩, x4, x5, x6, x7, x8⟩ := quad_cells HI.out
    go_enter Tryz.func47, Tryz.ntmps47
    go_wp2_with (go_at_call 18; refine (HF.out _).mono ?_; rintro e w1 ⟨rfl, hb1⟩)
    go_ret
    exact ⟨rfl, below_here HB.out hb1⟩
end Go.Proofs.YtdjndnoiankicaaGreatDoor
