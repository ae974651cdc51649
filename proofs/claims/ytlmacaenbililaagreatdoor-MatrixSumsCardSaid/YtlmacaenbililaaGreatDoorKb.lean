/- The document's names: which there are, their lanes, their texts. The document's names: lanes and texts. The document's names: their texts. No conditions. -/
import Derived.Test.YtlmacaenbililaaGreatDoorIparse
import Derived.Test.YtlmacaenbililaaGreatDoorLref
import Derived.Test.YtlmacaenbililaaGreatDoorFree
namespace Go.Proofs.YtlmacaenbililaaGreatDoor
open Go.RowKit Go.Shelf
set_option linter.unusedSimpArgs false
set_option linter.unusedVariables false
attribute [local go_sem] cell_over frozen_over

set_option maxRecDepth 100000 in
set_option maxHeartbeats 4000000 in
theorem rfine_ok (x : Idn.I) (w : World) : Calls Tryz.prog 32 #[idV x] w fun e w' => e = .returned (.bool (Idn.fine x)) ∧ Below w.heap.size w w' := by
  obtain ⟨⟨a, b⟩, k, n⟩ := x
  have HB := Lib.hid (below_fresh w (.cells #[.int .u16 (a : Int), .int .u16 (b : Int), .int .i64 k, .int .i64 n] 64))
  have hk : k = 1 ∨ k = 2 ∨ k = 3 ∨ (¬ k = 1 ∧ ¬ k = 2 ∧ ¬ k = 3) := by omega
  have hn : n = 0 ∨ n = 1 ∨ n = 2 ∨ n = 3 ∨ (¬ n = 0 ∧ ¬ n = 1 ∧ ¬ n = 2 ∧ ¬ n = 3) := by omega
  rcases hk with rfl | rfl | rfl | ⟨k1, k2, k3⟩
  case inr.inr.inr =>
    have hf : Idn.fine ((a, b), k, n) = false := by unfold Idn.fine; simp; omega
    rw [hf]
    clear hf hn
    go_enter Tryz.func32, Tryz.ntmps32
    go_wp2_with fail
    go_ret
    exact ⟨rfl, HB.out⟩
  all_goals
    rcases hn with rfl | rfl | rfl | rfl | ⟨n1, n2, n3, n4⟩
    case inr.inr.inr.inr =>
      have hf : ∀ k : Int, Idn.fine ((a, b), k, n) = false := fun k => by unfold Idn.fine; simp; omega
      rw [hf]
      clear hf
      go_enter Tryz.func32, Tryz.ntmps32
      go_wp2_with fail
      go_ret
      exact ⟨by simp [n1, n2, n3, n4], HB.out⟩
    all_goals
      go_enter Tryz.func32, Tryz.ntmps32
      go_wp2_with fail
      go_ret
      exact ⟨rfl, HB.out⟩
end Go.Proofs.YtlmacaenbililaaGreatDoor
namespace Go.Proofs.YtlmacaenbililaaGreatDoor
open Go.RowKit Go.Shelf
set_option linter.unusedSimpArgs false
set_option linter.unusedVariables false
attribute [local go_sem] cell_over frozen_over

theorem quad_set1 {W : World} {b : Nat} {t : TypeId} {x0 x1 x2 x3 : Value} (v : Value) (h : W.heap[b]? = some (.cells #[x0, x1, x2, x3] t (0, 0))) : (W.setCell ⟨b, 1, none⟩ v).heap[b]? = some (.cells #[x0, v, x2, x3] t (0, 0)) := by
  simp [World.setCell, Array.getElem?_modify, h]
theorem quad_set2 {W : World} {b : Nat} {t : TypeId} {x0 x1 x2 x3 : Value} (v : Value) (h : W.heap[b]? = some (.cells #[x0, x1, x2, x3] t (0, 0))) : (W.setCell ⟨b, 2, none⟩ v).heap[b]? = some (.cells #[x0, x1, v, x3] t (0, 0)) := by
  simp [World.setCell, Array.getElem?_modify, h]
theorem quad_set3 {W : World} {b : Nat} {t : TypeId} {x0 x1 x2 x3 : Value} (v : Value) (h : W.heap[b]? = some (.cells #[x0, x1, x2, x3] t (0, 0))) : (W.setCell ⟨b, 3, none⟩ v).heap[b]? = some (.cells #[x0, x1, x2, v] t (0, 0)) := by
  simp [World.setCell, Array.getElem?_modify, h]
/-- Four cells of a name in a block. -/
def IdIn (b : Nat) (x : Idn.I) (W : World) : Prop := W.heap[b]? = some (.cells #[.int .u16 (x.1.1 : Int), .int .u16 (x.1.2 : Int), .int .i64 x.2.1, .int .i64 x.2.2] 64 (0, 0))
theorem IdIn.below {b : Nat} {x : Idn.I} {W W' : World} (h : IdIn b x W) (hb : Below W.heap.size W W') : IdIn b x W' := block_below hb h
set_option maxRecDepth 100000 in
set_option maxHeartbeats 4000000 in
theorem rat_ok (b : Lab.L) (j : Int) (hjb : -9223372036854775808 ≤ j ∧ j ≤ 9223372036854775807) (w : World) : Calls Tryz.prog 36 #[labV b, .int .i64 j] w fun e w' => e = .returned (idV (Idn.mk b j)) ∧ Below w.heap.size w w' := by
  have hb0 := below_new (below_new (below_fresh w (.cells #[.int .u16 (b.1 : Int), .int .u16 (b.2 : Int)] 25)) (.cells #[.int .u16 0, .int .u16 0, .int .i64 0, .int .i64 0] 64)) (.cells #[.int .u16 (b.1 : Int), .int .u16 (b.2 : Int), .int .i64 1, .int .i64 j] 64)
  have hr0 : IdIn (w.heap.size + 1) Idn.zero (((w.alloc (.cells #[.int .u16 (b.1 : Int), .int .u16 (b.2 : Int)] 25)).alloc (.cells #[.int .u16 0, .int .u16 0, .int .i64 0, .int .i64 0] 64)).alloc (.cells #[.int .u16 (b.1 : Int), .int .u16 (b.2 : Int), .int .i64 1, .int .i64 j] 64)) := by
    have := block_below (below_fresh _ (.cells #[.int .u16 (b.1 : Int), .int .u16 (b.2 : Int), .int .i64 1, .int .i64 j] 64)) (heap_alloc_new (w.alloc (.cells #[.int .u16 (b.1 : Int), .int .u16 (b.2 : Int)] 25)) (.cells #[.int .u16 0, .int .u16 0, .int .i64 0, .int .i64 0] 64))
    rwa [World.size_alloc] at this
  have hp0 : IdIn (w.heap.size + 1 + 1) (b, 1, j) (((w.alloc (.cells #[.int .u16 (b.1 : Int), .int .u16 (b.2 : Int)] 25)).alloc (.cells #[.int .u16 0, .int .u16 0, .int .i64 0, .int .i64 0] 64)).alloc (.cells #[.int .u16 (b.1 : Int), .int .u16 (b.2 : Int), .int .i64 1, .int .i64 j] 64)) := by
    have := heap_alloc_new ((w.alloc (.cells #[.int .u16 (b.1 : Int), .int .u16 (b.2 : Int)] 25)).alloc (.cells #[.int .u16 0, .int .u16 0, .int .i64 0, .int .i64 0] 64)) (.cells #[.int .u16 (b.1 : Int), .int .u16 (b.2 : Int), .int .i64 1, .int .i64 j] 64)
    rwa [World.size_alloc, World.size_alloc] at this
  have HB0 := Lib.hid hb0
  have HR0 := Lib.hid hr0
  have HP0 := Lib.hid hp0
  clear hb0 hr0 hp0
  go_enter Tryz.func36, Tryz.ntmps36
  go_wp2_with fail
  go_loopw [] (fun wr => ∃ (q : Nat), Hid (IdIn (w.heap.size + 1 + 1) (b, 1 + (q : Int), j - 4 * (q : Int)) wr) ∧ Hid (IdIn (w.heap.size + 1) Idn.zero wr) ∧ Hid (Below w.heap.size w wr) ∧ (q = 0 ∨ (0 ≤ j - 4 * (q : Int) ∧ j < 12))) (fun wr => (match wr.cell? ⟨w.heap.size + 1 + 1, 3, none⟩ with | some (.int .i64 n) => n.toNat | _ => 0))
  case atStart => exact ⟨0, by simpa using HP0, HR0, HB0, .inl rfl⟩
  case round =>
    obtain ⟨q, hp, hr, hW, hq⟩ := hrel
    obtain ⟨⟨x0, x1, x2, x3⟩, x4, x5, x6, x7, x8⟩ := quad_cells hp.out
    obtain ⟨kk, hkk⟩ : ∃ kk : Int, kk = 1 + (q : Int) := ⟨_, rfl⟩
    obtain ⟨mm, hmm⟩ : ∃ mm : Int, mm = j - 4 * (q : Int) := ⟨_, rfl⟩
    simp only [← hkk, ← hmm] at x0 x1 x2 x3 hp hq
    have hj : -9223372036854775808 ≤ j ∧ j ≤ 9223372036854775807 := hjb
    by_cases hin : 3 < mm ∧ mm < 12
    · obtain ⟨h1, h2⟩ := hin
      have hq3 : q ≤ 2 := by omega
      have hw1 : IntKind.i64.wrap (kk + 1) = kk + 1 := IntWalk.i64_in _ (by omega)
      have hw2 : IntKind.i64.wrap (mm - 4) = mm - 4 := IntWalk.i64_in _ (by omega)
      obtain ⟨W2, hW2⟩ : ∃ W2, W2 = (wr.setCell ⟨w.heap.size + 1 + 1, 2, none⟩ (.int .i64 (kk + 1))).setCell ⟨w.heap.size + 1 + 1, 3, none⟩ (.int .i64 (mm - 4)) := ⟨_, rfl⟩
      have hp2 : IdIn (w.heap.size + 1 + 1) (b, kk + 1, mm - 4) W2 := by rw [hW2]; exact quad_set3 _ (quad_set2 _ hp.out)
      have hr2 : IdIn (w.heap.size + 1) Idn.zero W2 := by
        rw [hW2]
        exact (Below.heap_setCell _ ⟨w.heap.size + 1 + 1, 3, none⟩ _ _ (by simp)).trans ((Below.heap_setCell _ ⟨w.heap.size + 1 + 1, 2, none⟩ _ _ (by simp)).trans hr.out)
      have hb2 : Below w.heap.size w W2 := by
        rw [hW2]
        exact (hW.out.setCell (p := ⟨w.heap.size + 1 + 1, 2, none⟩) (by simp; omega) _).setCell (p := ⟨w.heap.size + 1 + 1, 3, none⟩) (by simp; omega) _
      have HM : Hid (∀ W, W = W2 → (match W.cell? ⟨w.heap.size + 1 + 1, 3, none⟩ with | some (.int .i64 n) => n.toNat | _ => 0) = (mm - 4).toNat) := Lib.hid (fun W e => by rw [e, (quad_cells hp2).1.2.2.2])
      have HM0 : Hid ((match wr.cell? ⟨w.heap.size + 1 + 1, 3, none⟩ with | some (.int .i64 n) => n.toNat | _ => 0) = mm.toNat) := Lib.hid (by rw [x3])
      have HP2 := Lib.hid hp2
      have HR2 := Lib.hid hr2
      have HB2 := Lib.hid hb2
      have HWW := Lib.hid hW2
      have HE1 : Hid (1 + ((q + 1 : Nat) : Int) = kk + 1 ∧ j - 4 * ((q + 1 : Nat) : Int) = mm - 4 ∧ ((q + 1 : Nat) = 0 ∨ (0 ≤ j - 4 * ((q + 1 : Nat) : Int) ∧ j < 12))) := Lib.hid ⟨by omega, by omega, .inr (by omega)⟩
      clear hp2 hr2 hb2 hW2 hp hr hW hkk hmm hq
      go_wp2_with fail
      rw [← HWW.out]
      go_roundw
      case rel => exact ⟨q + 1, by rw [HE1.out.1, HE1.out.2.1]; exact HP2, HR2, HB2, HE1.out.2.2⟩
      case measure => rw [HM.out _ rfl, HM0.out]; omega
    · have hmk : Idn.mk b j = if Idn.fine (b, kk, mm) = true then (b, kk, mm) else Idn.zero := by
        by_cases hr : 0 ≤ j ∧ j < 12
        · have e1 : kk = j / 4 + 1 := by omega
          have e2 : mm = j % 4 := by omega
          rw [Idn.mk_in b hr.1 hr.2, if_pos (Idn.fine_iff.2 (by simp only; omega)), e1, e2]
        · have e : Idn.mk b j = Idn.zero := if_neg hr
          rw [e, if_neg (fun h => by have := Idn.fine_iff.1 h; simp only at this; omega)]
      have HF := Lib.hid (fun w => rfine_ok (b, kk, mm) w)
      have HMK := Lib.hid hmk
      have hways : mm ≤ 3 ∨ (3 < mm ∧ 12 ≤ mm) := by omega
      generalize Idn.fine (b, kk, mm) = d at HF HMK
      clear hmk hin hq hjb hj hkk hmm
      rcases hways with h1 | ⟨h1, h2⟩ <;> cases d
      all_goals
        go_wp2_with (go_at_call 32; refine (HF.out _).mono ?_; rintro e w1 ⟨rfl, hb1⟩; have hp1 := hp.out.below hb1; have hr1 := hr.out.below hb1; clear x0 x1 x2 x3 x4 x5 x6 x7 x8; obtain ⟨⟨x0, x1, x2, x3⟩, x4, x5, x6, x7, x8⟩ := quad_cells hp1; obtain ⟨⟨y0, y1, y2, y3⟩, y4, y5, y6, y7, y8⟩ := quad_cells hr1; have HR1 := Lib.hid hr1; have HB1 := Lib.hid (below_here hW.out hb1); clear hp1 hr1 hb1)
        rw [HMK.out]
        first
          | exact id_ret Tryz.results36 (w.heap.size + 1) rfl (b, kk, mm) (set_quad' _ _ _ _ _ _ _ _ _ _ _ HR1.out) rfl ⟨rfl, below_quad HB1.out (by omega) _ _ _ _⟩
          | exact id_ret Tryz.results36 (w.heap.size + 1) rfl Idn.zero (set_quad' _ _ _ _ _ _ _ _ _ _ _ HR1.out) rfl ⟨rfl, below_quad HB1.out (by omega) _ _ _ _⟩
end Go.Proofs.YtlmacaenbililaaGreatDoor
namespace Go.Proofs.YtlmacaenbililaaGreatDoor
open Go.RowKit Go.Shelf
set_option linter.unusedSimpArgs false
set_option linter.unusedVariables false
attribute [local go_sem] cell_over frozen_over

theorem rnum_small (t : Nat) (h : t < 10) (w : World) : Calls Tryz.prog 94 #[.int .i64 (t : Int)] w fun e w' => e = .returned (.string ⟨(Tag.dig t).toArray⟩) ∧ w' = w := by
  have hn : ¬ (9 : Int) < (t : Int) := by omega
  have h1 : (t : Int) ≤ (t : Int) + 1 := by omega
  have h2 : (t : Int) + 1 ≤ 10 := by omega
  have hd := num_small ⟨t, h⟩
  simp only at hd
  rw [hd]
  clear hd
  go_enter Tryz.func94, Tryz.ntmps94
  go_wp2_with fail
  go_ret
  exact ⟨rfl, rfl⟩
theorem rnum_ok (t : Nat) (h : t < 16) (w : World) : Calls Tryz.prog 94 #[.int .i64 (t : Int)] w fun e w' => e = .returned (.string ⟨(Tag.dig t).toArray⟩) ∧ w' = w := by
  by_cases h9 : t < 10
  · exact rnum_small t h9 w
  · have hn : (9 : Int) < (t : Int) := by omega
    have HS := Lib.hid (fun w => rnum_small (t - 10) (by omega) w)
    have hd := num_big ⟨t, h⟩ (by simp; omega)
    simp only at hd
    rw [← hd]
    obtain ⟨j, rfl⟩ : ∃ j, t = j + 10 := ⟨t - 10, by omega⟩
    rw [Nat.add_sub_cancel] at HS ⊢
    have he : (j : Int) + 10 - 10 = (j : Int) := by omega
    have hn9 : (9 : Int) < (j : Int) + 10 := by omega
    rw [show ((j + 10 : Nat) : Int) = (j : Int) + 10 by omega]
    have hj : j < 6 := by omega
    have hj2 : (j : Int) < 6 := by omega
    have hcc : ¬ 9223372036854775807 < 1 + (Tag.dig j).length := by have := (Tag.dig_len j).2; omega
    clear hd hn h h9
    go_enter Tryz.func94, Tryz.ntmps94
    go_wp2_with (go_at_call 94; refine (HS.out _).mono ?_; rintro e w1 ⟨rfl, hw1⟩; obtain rfl := hw1.symm)
    go_ret
    exact ⟨rfl, rfl⟩
def Fact.rowb (n : Nat) (o : Obj) : Fact := ⟨fun v w => ∃ g, v = .slice (some ⟨g, 0, none⟩) n n ∧ w.heap[g]? = some o, fun _ _ _ ⟨g, h1, h2⟩ hb => ⟨g, h1, block_below hb h2⟩⟩
def Fact.ptr (u : Value) : Fact := ⟨fun v w => ∃ a : Nat × Nat, v = .pointer (some ⟨a.1, a.2, none⟩) ∧ w.cell? ⟨a.1, a.2, none⟩ = some u, fun _ _ _ ⟨a, h1, h2⟩ hb => ⟨a, h1, cell_on h2 hb⟩⟩
abbrev ltrs : Obj := .cells #[.string ⟨#[]⟩, .string ⟨#[112]⟩, .string ⟨#[109]⟩, .string ⟨#[102]⟩] 9 (0, 0)
theorem dig_char : ∀ n : Fin 4, Tag.dig n.val = [(48 + ((n.val : Nat) : Int).toNat).toUInt8] := by decide
set_option maxRecDepth 100000 in
set_option maxHeartbeats 4000000 in
theorem ridtext_ok (x : Idn.I) (hx : Lab.ok x.1) (w : World) : Calls Tryz.prog 38 #[idV x] w fun e w' => e = .returned (.string ⟨(Idn.text x).toArray⟩) ∧ Below w.heap.size w w' := by
  have HF := Lib.hid (fun w => rfine_ok x w)
  have HB := Lib.hid (below_fresh w (.cells #[.int .u16 (x.1.1 : Int), .int .u16 (x.1.2 : Int), .int .i64 x.2.1, .int .i64 x.2.2] 64))
  have HI := Lib.hid (heap_alloc_new w (.cells #[.int .u16 (x.1.1 : Int), .int .u16 (x.1.2 : Int), .int .i64 x.2.1, .int .i64 x.2.2] 64))
  by_cases hf : Idn.fine x = true
  · rw [hf] at HF
    have HT := Lib.hid (fun w => rltext_ok x.1 hx w)
    have hlz := labtext_size x.1
    have htx := Idn.text_fine hf
    obtain ⟨h1, h2, h3, h4⟩ := Idn.fine_iff.1 hf
    obtain ⟨⟨a, b⟩, k, n'⟩ := x
    simp only at h1 h2 h3 h4 HT hlz htx HB HI
    obtain ⟨n, rfl⟩ : ∃ n : Nat, n' = (n : Int) := ⟨n'.toNat, by omega⟩
    have hn : n < 4 := by omega
    have HN := Lib.hid (fun w => rnum_small n (by omega) w)
    rw [dig_char ⟨n, hn⟩] at HN
    have HS := Lib.hid (itext_bytes (Idn.letter k) (Lab.text (a, b)) (48 + ((n : Nat) : Int).toNat).toUInt8)
    rw [← htx] at HS
    generalize Idn.text ((a, b), k, (n : Int)) = TX at HS
    generalize (⟨(Lab.text (a, b)).toArray⟩ : ByteArray) = LT at HT HS hlz
    have hnz : (⟨[(48 + ((n : Nat) : Int).toNat).toUInt8].toArray⟩ : ByteArray).size = 1 := rfl
    generalize (⟨[(48 + ((n : Nat) : Int).toNat).toUInt8].toArray⟩ : ByteArray) = NT at HN HS hnz
    have hc1 : ¬ 9223372036854775807 < 1 + LT.size := by omega
    have hc2 : ¬ 9223372036854775807 < 1 + LT.size + 1 := by omega
    have hc3 : ¬ 9223372036854775807 < 1 + LT.size + 1 + 1 := by omega
    obtain hk : k = 1 ∨ k = 2 ∨ k = 3 := by omega
    clear hf hx h1 h2 h3 h4 htx
    rcases hk with rfl | rfl | rfl
    · have hlet : Idn.letter 1 = 112 := by decide
      rw [hlet] at HS
      clear hlet
      obtain ⟨⟨x0, x1, x2, x3⟩, x4, x5, x6, x7, x8⟩ := quad_cells HI.out
      go_enter Tryz.func38, Tryz.ntmps38
      go_upto_region 3 with (go_at_call 32; refine (HF.out _).mono ?_; rintro e w9 ⟨rfl, hb1⟩; have hi9 := block_below hb1 HI.out; have HB9 := Lib.hid (below_here HB.out hb1); clear x0 x1 x2 x3 x4 x5 x6 x7 x8 hb1; obtain ⟨⟨x0, x1, x2, x3⟩, x4, x5, x6, x7, x8⟩ := quad_cells hi9; clear hi9)
      refine wp_region_freeA 14 [some 6, some 7, some 8, some 9, some 10, some 11, some 12, some 13, some 14, some 15, some 16, some 17, some 18, some 19] (fun W => ∃ X, W = over w9 X) [Fact.rowb 4 ltrs, Fact.is (.pointer (some ⟨w.heap.size, 2, none⟩)), Fact.is (.int .i64 1), Fact.ptr (.string ⟨#[112]⟩), Fact.is (.string ⟨#[112]⟩), Fact.is (.pointer (some ⟨w.heap.size, 0, none⟩)), Fact.is (.agg #[.int .u16 (a : Int), .int .u16 (b : Int)]), Fact.is (.string LT), Fact.is (.string ((⟨#[112]⟩ : ByteArray) ++ LT)), Fact.is (.string ((⟨#[112]⟩ : ByteArray) ++ LT ++ ⟨#[46]⟩)), Fact.is (.pointer (some ⟨w.heap.size, 3, none⟩)), Fact.is (.int .i64 (n : Int)), Fact.is (.string NT), Fact.is (.string ((⟨#[112]⟩ : ByteArray) ++ LT ++ ⟨#[46]⟩ ++ NT))] [] (by kernel_rfl) (by kernel_rfl) ?same (over_of (Below.refl _ _).drew) ?steps ?fin
      case same => kernel_rfl
      case steps =>
        simp only [List.take_succ_cons, List.take_zero, stepsI]
        refine ⟨⟨fun v u => by kernel_rfl, ?s0⟩, ⟨fun v u => by kernel_rfl, ?s1⟩, ⟨fun v u => by kernel_rfl, ?s2⟩, ⟨fun v u => by kernel_rfl, ?s3⟩, ⟨fun v u => by kernel_rfl, ?s4⟩, ⟨fun v u => by kernel_rfl, ?s5⟩, ⟨fun v u => by kernel_rfl, ?s6⟩, ⟨fun v u => by kernel_rfl, ?s7⟩, ⟨fun v u => by kernel_rfl, ?s8⟩, ⟨fun v u => by kernel_rfl, ?s9⟩, ⟨fun v u => by kernel_rfl, ?s10⟩, ⟨fun v u => by kernel_rfl, ?s11⟩, ⟨fun v u => by kernel_rfl, ?s12⟩, ⟨fun v u => by kernel_rfl, ?s13⟩, trivial⟩
        case s0 =>
          intro v W hW hp
          obtain ⟨X, rfl⟩ := hW
          clear hp
          simp only [mkA, setAll, List.setIfInBounds_toArray, List.set_cons_succ, List.set_cons_zero]
          refine .inl ⟨rfl, ?_⟩
          go_simp
          first | exact ⟨over_of (below_new (over_below _ _) _), below_fresh _ _, ⟨_, rfl, heap_alloc_new _ _⟩⟩ | exact ⟨over_of (below_new (over_below _ _) _), below_fresh _ _, ⟨_, rfl, heap_alloc_new _ _⟩, fun h => by cases h⟩
        case s1 =>
          intro v W hW hp
          obtain ⟨X, rfl⟩ := hW
          clear hp
          simp only [mkA, setAll, List.setIfInBounds_toArray, List.set_cons_succ, List.set_cons_zero]
          refine .inl ⟨rfl, ?_⟩
          go_simp
          first | exact ⟨⟨X, rfl⟩, Below.refl _ _, rfl⟩ | exact ⟨⟨X, rfl⟩, Below.refl _ _, rfl, fun h => by cases h⟩
        case s2 =>
          intro v W hW hp
          obtain ⟨X, rfl⟩ := hW
          have g1 : v 1 = .pointer (some ⟨w.heap.size, 2, none⟩) := hp ⟨1, .data⟩ (by simp) rfl
          clear hp
          simp only [mkA, setAll, List.setIfInBounds_toArray, List.set_cons_succ, List.set_cons_zero]
          refine .inl ⟨rfl, ?_⟩
          go_simp
          first | exact ⟨⟨X, rfl⟩, Below.refl _ _, rfl⟩ | exact ⟨⟨X, rfl⟩, Below.refl _ _, rfl, fun h => by cases h⟩
        case s3 =>
          intro v W hW hp
          obtain ⟨X, rfl⟩ := hW
          obtain ⟨b0, g0, r0⟩ := hp ⟨0, .data⟩ (by simp) rfl
          have g2 : v 2 = .int .i64 1 := hp ⟨2, .data⟩ (by simp) rfl
          clear hp
          simp only [mkA, setAll, List.setIfInBounds_toArray, List.set_cons_succ, List.set_cons_zero]
          refine .inl ⟨rfl, ?_⟩
          go_simp
          first | exact ⟨⟨X, rfl⟩, Below.refl _ _, ⟨(_, _), rfl, (quad_cells r0).1.2.1⟩⟩ | exact ⟨⟨X, rfl⟩, Below.refl _ _, ⟨(_, _), rfl, (quad_cells r0).1.2.1⟩, fun h => by cases h⟩
        case s4 =>
          intro v W hW hp
          obtain ⟨X, rfl⟩ := hW
          obtain ⟨b3, g3, r3⟩ := hp ⟨3, .data⟩ (by simp) rfl
          clear hp
          simp only [mkA, setAll, List.setIfInBounds_toArray, List.set_cons_succ, List.set_cons_zero]
          refine .inl ⟨rfl, ?_⟩
          go_simp
          first | exact ⟨⟨X, rfl⟩, Below.refl _ _, rfl⟩ | exact ⟨⟨X, rfl⟩, Below.refl _ _, rfl, fun h => by cases h⟩
        case s5 =>
          intro v W hW hp
          obtain ⟨X, rfl⟩ := hW
          clear hp
          simp only [mkA, setAll, List.setIfInBounds_toArray, List.set_cons_succ, List.set_cons_zero]
          refine .inl ⟨rfl, ?_⟩
          go_simp
          first | exact ⟨⟨X, rfl⟩, Below.refl _ _, rfl⟩ | exact ⟨⟨X, rfl⟩, Below.refl _ _, rfl, fun h => by cases h⟩
        case s6 =>
          intro v W hW hp
          obtain ⟨X, rfl⟩ := hW
          have g5 : v 5 = .pointer (some ⟨w.heap.size, 0, none⟩) := hp ⟨5, .data⟩ (by simp) rfl
          clear hp
          simp only [mkA, setAll, List.setIfInBounds_toArray, List.set_cons_succ, List.set_cons_zero]
          refine .inl ⟨rfl, ?_⟩
          go_simp
          first | exact ⟨⟨X, rfl⟩, Below.refl _ _, rfl⟩ | exact ⟨⟨X, rfl⟩, Below.refl _ _, rfl, fun h => by cases h⟩
        case s7 =>
          intro v W hW hp
          obtain ⟨X, rfl⟩ := hW
          have g6 : v 6 = .agg #[.int .u16 (a : Int), .int .u16 (b : Int)] := hp ⟨6, .data⟩ (by simp) rfl
          clear hp
          simp only [mkA, setAll, List.setIfInBounds_toArray, List.set_cons_succ, List.set_cons_zero]
          refine .inl ⟨rfl, ?_⟩
          go_simp
          refine (HT.out _).mono ?_
          rintro e W2 ⟨rfl, hb2⟩
          first | exact ⟨_, rfl, over_of (below_here (over_below _ _) hb2), hb2, rfl⟩ | exact ⟨_, rfl, over_of (below_here (over_below _ _) hb2), hb2, rfl, fun h => by cases h⟩
        case s8 =>
          intro v W hW hp
          obtain ⟨X, rfl⟩ := hW
          have g4 : v 4 = .string ⟨#[112]⟩ := hp ⟨4, .data⟩ (by simp) rfl
          have g7 : v 7 = .string LT := hp ⟨7, .data⟩ (by simp) rfl
          clear hp
          simp only [mkA, setAll, List.setIfInBounds_toArray, List.set_cons_succ, List.set_cons_zero]
          refine .inl ⟨rfl, ?_⟩
          go_simp
          first | exact ⟨⟨X, rfl⟩, Below.refl _ _, rfl⟩ | exact ⟨⟨X, rfl⟩, Below.refl _ _, rfl, fun h => by cases h⟩
        case s9 =>
          intro v W hW hp
          obtain ⟨X, rfl⟩ := hW
          have g8 : v 8 = .string ((⟨#[112]⟩ : ByteArray) ++ LT) := hp ⟨8, .data⟩ (by simp) rfl
          clear hp
          simp only [mkA, setAll, List.setIfInBounds_toArray, List.set_cons_succ, List.set_cons_zero]
          refine .inl ⟨rfl, ?_⟩
          go_simp
          first | exact ⟨⟨X, rfl⟩, Below.refl _ _, rfl⟩ | exact ⟨⟨X, rfl⟩, Below.refl _ _, rfl, fun h => by cases h⟩
        case s10 =>
          intro v W hW hp
          obtain ⟨X, rfl⟩ := hW
          clear hp
          simp only [mkA, setAll, List.setIfInBounds_toArray, List.set_cons_succ, List.set_cons_zero]
          refine .inl ⟨rfl, ?_⟩
          go_simp
          first | exact ⟨⟨X, rfl⟩, Below.refl _ _, rfl⟩ | exact ⟨⟨X, rfl⟩, Below.refl _ _, rfl, fun h => by cases h⟩
        case s11 =>
          intro v W hW hp
          obtain ⟨X, rfl⟩ := hW
          have g10 : v 10 = .pointer (some ⟨w.heap.size, 3, none⟩) := hp ⟨10, .data⟩ (by simp) rfl
          clear hp
          simp only [mkA, setAll, List.setIfInBounds_toArray, List.set_cons_succ, List.set_cons_zero]
          refine .inl ⟨rfl, ?_⟩
          go_simp
          first | exact ⟨⟨X, rfl⟩, Below.refl _ _, rfl⟩ | exact ⟨⟨X, rfl⟩, Below.refl _ _, rfl, fun h => by cases h⟩
        case s12 =>
          intro v W hW hp
          obtain ⟨X, rfl⟩ := hW
          have g11 : v 11 = .int .i64 (n : Int) := hp ⟨11, .data⟩ (by simp) rfl
          clear hp
          simp only [mkA, setAll, List.setIfInBounds_toArray, List.set_cons_succ, List.set_cons_zero]
          refine .inl ⟨rfl, ?_⟩
          go_simp
          refine (HN.out _).mono ?_
          rintro e W2 ⟨rfl, hw2⟩
          obtain rfl := hw2.symm
          first | exact ⟨_, rfl, ⟨X, rfl⟩, Below.refl _ _, rfl⟩ | exact ⟨_, rfl, ⟨X, rfl⟩, Below.refl _ _, rfl, fun h => by cases h⟩
        case s13 =>
          intro v W hW hp
          obtain ⟨X, rfl⟩ := hW
          have g9 : v 9 = .string ((⟨#[112]⟩ : ByteArray) ++ LT ++ ⟨#[46]⟩) := hp ⟨9, .data⟩ (by simp) rfl
          have g12 : v 12 = .string NT := hp ⟨12, .data⟩ (by simp) rfl
          clear hp
          simp only [mkA, setAll, List.setIfInBounds_toArray, List.set_cons_succ, List.set_cons_zero]
          refine .inl ⟨rfl, ?_⟩
          go_simp
          first | exact ⟨⟨X, rfl⟩, Below.refl _ _, rfl⟩ | exact ⟨⟨X, rfl⟩, Below.refl _ _, rfl, fun h => by cases h⟩
      case fin =>
        intro v W hW hR hD
        have hbW := below_of_over hW
        have g13 : v 13 = _ := hR 13 (by omega)
        simp only [List.drop_succ_cons, List.drop_zero, mkA, setAll, List.setIfInBounds_toArray, List.set_cons_succ, List.set_cons_zero, g13]
        generalize v 0 = q0
        generalize v 1 = q1
        generalize v 2 = q2
        generalize v 3 = q3
        generalize v 4 = q4
        generalize v 5 = q5
        generalize v 6 = q6
        generalize v 7 = q7
        generalize v 8 = q8
        generalize v 9 = q9
        generalize v 10 = q10
        generalize v 11 = q11
        generalize v 12 = q12
        clear hR hD hW g13
        go_wp2_with fail
        go_ret
        exact ⟨by rw [← HS.out]; rfl, below_here HB9.out hbW⟩
    · have hlet : Idn.letter 2 = 109 := by decide
      rw [hlet] at HS
      clear hlet
      obtain ⟨⟨x0, x1, x2, x3⟩, x4, x5, x6, x7, x8⟩ := quad_cells HI.out
      go_enter Tryz.func38, Tryz.ntmps38
      go_upto_region 3 with (go_at_call 32; refine (HF.out _).mono ?_; rintro e w9 ⟨rfl, hb1⟩; have hi9 := block_below hb1 HI.out; have HB9 := Lib.hid (below_here HB.out hb1); clear x0 x1 x2 x3 x4 x5 x6 x7 x8 hb1; obtain ⟨⟨x0, x1, x2, x3⟩, x4, x5, x6, x7, x8⟩ := quad_cells hi9; clear hi9)
      refine wp_region_freeA 14 [some 6, some 7, some 8, some 9, some 10, some 11, some 12, some 13, some 14, some 15, some 16, some 17, some 18, some 19] (fun W => ∃ X, W = over w9 X) [Fact.rowb 4 ltrs, Fact.is (.pointer (some ⟨w.heap.size, 2, none⟩)), Fact.is (.int .i64 2), Fact.ptr (.string ⟨#[109]⟩), Fact.is (.string ⟨#[109]⟩), Fact.is (.pointer (some ⟨w.heap.size, 0, none⟩)), Fact.is (.agg #[.int .u16 (a : Int), .int .u16 (b : Int)]), Fact.is (.string LT), Fact.is (.string ((⟨#[109]⟩ : ByteArray) ++ LT)), Fact.is (.string ((⟨#[109]⟩ : ByteArray) ++ LT ++ ⟨#[46]⟩)), Fact.is (.pointer (some ⟨w.heap.size, 3, none⟩)), Fact.is (.int .i64 (n : Int)), Fact.is (.string NT), Fact.is (.string ((⟨#[109]⟩ : ByteArray) ++ LT ++ ⟨#[46]⟩ ++ NT))] [] (by kernel_rfl) (by kernel_rfl) ?same (over_of (Below.refl _ _).drew) ?steps ?fin
      case same => kernel_rfl
      case steps =>
        simp only [List.take_succ_cons, List.take_zero, stepsI]
        refine ⟨⟨fun v u => by kernel_rfl, ?s0⟩, ⟨fun v u => by kernel_rfl, ?s1⟩, ⟨fun v u => by kernel_rfl, ?s2⟩, ⟨fun v u => by kernel_rfl, ?s3⟩, ⟨fun v u => by kernel_rfl, ?s4⟩, ⟨fun v u => by kernel_rfl, ?s5⟩, ⟨fun v u => by kernel_rfl, ?s6⟩, ⟨fun v u => by kernel_rfl, ?s7⟩, ⟨fun v u => by kernel_rfl, ?s8⟩, ⟨fun v u => by kernel_rfl, ?s9⟩, ⟨fun v u => by kernel_rfl, ?s10⟩, ⟨fun v u => by kernel_rfl, ?s11⟩, ⟨fun v u => by kernel_rfl, ?s12⟩, ⟨fun v u => by kernel_rfl, ?s13⟩, trivial⟩
        case s0 =>
          intro v W hW hp
          obtain ⟨X, rfl⟩ := hW
          clear hp
          simp only [mkA, setAll, List.setIfInBounds_toArray, List.set_cons_succ, List.set_cons_zero]
          refine .inl ⟨rfl, ?_⟩
          go_simp
          first | exact ⟨over_of (below_new (over_below _ _) _), below_fresh _ _, ⟨_, rfl, heap_alloc_new _ _⟩⟩ | exact ⟨over_of (below_new (over_below _ _) _), below_fresh _ _, ⟨_, rfl, heap_alloc_new _ _⟩, fun h => by cases h⟩
        case s1 =>
          intro v W hW hp
          obtain ⟨X, rfl⟩ := hW
          clear hp
          simp only [mkA, setAll, List.setIfInBounds_toArray, List.set_cons_succ, List.set_cons_zero]
          refine .inl ⟨rfl, ?_⟩
          go_simp
          first | exact ⟨⟨X, rfl⟩, Below.refl _ _, rfl⟩ | exact ⟨⟨X, rfl⟩, Below.refl _ _, rfl, fun h => by cases h⟩
        case s2 =>
          intro v W hW hp
          obtain ⟨X, rfl⟩ := hW
          have g1 : v 1 = .pointer (some ⟨w.heap.size, 2, none⟩) := hp ⟨1, .data⟩ (by simp) rfl
          clear hp
          simp only [mkA, setAll, List.setIfInBounds_toArray, List.set_cons_succ, List.set_cons_zero]
          refine .inl ⟨rfl, ?_⟩
          go_simp
          first | exact ⟨⟨X, rfl⟩, Below.refl _ _, rfl⟩ | exact ⟨⟨X, rfl⟩, Below.refl _ _, rfl, fun h => by cases h⟩
        case s3 =>
          intro v W hW hp
          obtain ⟨X, rfl⟩ := hW
          obtain ⟨b0, g0, r0⟩ := hp ⟨0, .data⟩ (by simp) rfl
          have g2 : v 2 = .int .i64 2 := hp ⟨2, .data⟩ (by simp) rfl
          clear hp
          simp only [mkA, setAll, List.setIfInBounds_toArray, List.set_cons_succ, List.set_cons_zero]
          refine .inl ⟨rfl, ?_⟩
          go_simp
          first | exact ⟨⟨X, rfl⟩, Below.refl _ _, ⟨(_, _), rfl, (quad_cells r0).1.2.2.1⟩⟩ | exact ⟨⟨X, rfl⟩, Below.refl _ _, ⟨(_, _), rfl, (quad_cells r0).1.2.2.1⟩, fun h => by cases h⟩
        case s4 =>
          intro v W hW hp
          obtain ⟨X, rfl⟩ := hW
          obtain ⟨b3, g3, r3⟩ := hp ⟨3, .data⟩ (by simp) rfl
          clear hp
          simp only [mkA, setAll, List.setIfInBounds_toArray, List.set_cons_succ, List.set_cons_zero]
          refine .inl ⟨rfl, ?_⟩
          go_simp
          first | exact ⟨⟨X, rfl⟩, Below.refl _ _, rfl⟩ | exact ⟨⟨X, rfl⟩, Below.refl _ _, rfl, fun h => by cases h⟩
        case s5 =>
          intro v W hW hp
          obtain ⟨X, rfl⟩ := hW
          clear hp
          simp only [mkA, setAll, List.setIfInBounds_toArray, List.set_cons_succ, List.set_cons_zero]
          refine .inl ⟨rfl, ?_⟩
          go_simp
          first | exact ⟨⟨X, rfl⟩, Below.refl _ _, rfl⟩ | exact ⟨⟨X, rfl⟩, Below.refl _ _, rfl, fun h => by cases h⟩
        case s6 =>
          intro v W hW hp
          obtain ⟨X, rfl⟩ := hW
          have g5 : v 5 = .pointer (some ⟨w.heap.size, 0, none⟩) := hp ⟨5, .data⟩ (by simp) rfl
          clear hp
          simp only [mkA, setAll, List.setIfInBounds_toArray, List.set_cons_succ, List.set_cons_zero]
          refine .inl ⟨rfl, ?_⟩
          go_simp
          first | exact ⟨⟨X, rfl⟩, Below.refl _ _, rfl⟩ | exact ⟨⟨X, rfl⟩, Below.refl _ _, rfl, fun h => by cases h⟩
        case s7 =>
          intro v W hW hp
          obtain ⟨X, rfl⟩ := hW
          have g6 : v 6 = .agg #[.int .u16 (a : Int), .int .u16 (b : Int)] := hp ⟨6, .data⟩ (by simp) rfl
          clear hp
          simp only [mkA, setAll, List.setIfInBounds_toArray, List.set_cons_succ, List.set_cons_zero]
          refine .inl ⟨rfl, ?_⟩
          go_simp
          refine (HT.out _).mono ?_
          rintro e W2 ⟨rfl, hb2⟩
          first | exact ⟨_, rfl, over_of (below_here (over_below _ _) hb2), hb2, rfl⟩ | exact ⟨_, rfl, over_of (below_here (over_below _ _) hb2), hb2, rfl, fun h => by cases h⟩
        case s8 =>
          intro v W hW hp
          obtain ⟨X, rfl⟩ := hW
          have g4 : v 4 = .string ⟨#[109]⟩ := hp ⟨4, .data⟩ (by simp) rfl
          have g7 : v 7 = .string LT := hp ⟨7, .data⟩ (by simp) rfl
          clear hp
          simp only [mkA, setAll, List.setIfInBounds_toArray, List.set_cons_succ, List.set_cons_zero]
          refine .inl ⟨rfl, ?_⟩
          go_simp
          first | exact ⟨⟨X, rfl⟩, Below.refl _ _, rfl⟩ | exact ⟨⟨X, rfl⟩, Below.refl _ _, rfl, fun h => by cases h⟩
        case s9 =>
          intro v W hW hp
          obtain ⟨X, rfl⟩ := hW
          have g8 : v 8 = .string ((⟨#[109]⟩ : ByteArray) ++ LT) := hp ⟨8, .data⟩ (by simp) rfl
          clear hp
          simp only [mkA, setAll, List.setIfInBounds_toArray, List.set_cons_succ, List.set_cons_zero]
          refine .inl ⟨rfl, ?_⟩
          go_simp
          first | exact ⟨⟨X, rfl⟩, Below.refl _ _, rfl⟩ | exact ⟨⟨X, rfl⟩, Below.refl _ _, rfl, fun h => by cases h⟩
        case s10 =>
          intro v W hW hp
          obtain ⟨X, rfl⟩ := hW
          clear hp
          simp only [mkA, setAll, List.setIfInBounds_toArray, List.set_cons_succ, List.set_cons_zero]
          refine .inl ⟨rfl, ?_⟩
          go_simp
          first | exact ⟨⟨X, rfl⟩, Below.refl _ _, rfl⟩ | exact ⟨⟨X, rfl⟩, Below.refl _ _, rfl, fun h => by cases h⟩
        case s11 =>
          intro v W hW hp
          obtain ⟨X, rfl⟩ := hW
          have g10 : v 10 = .pointer (some ⟨w.heap.size, 3, none⟩) := hp ⟨10, .data⟩ (by simp) rfl
          clear hp
          simp only [mkA, setAll, List.setIfInBounds_toArray, List.set_cons_succ, List.set_cons_zero]
          refine .inl ⟨rfl, ?_⟩
          go_simp
          first | exact ⟨⟨X, rfl⟩, Below.refl _ _, rfl⟩ | exact ⟨⟨X, rfl⟩, Below.refl _ _, rfl, fun h => by cases h⟩
        case s12 =>
          intro v W hW hp
          obtain ⟨X, rfl⟩ := hW
          have g11 : v 11 = .int .i64 (n : Int) := hp ⟨11, .data⟩ (by simp) rfl
          clear hp
          simp only [mkA, setAll, List.setIfInBounds_toArray, List.set_cons_succ, List.set_cons_zero]
          refine .inl ⟨rfl, ?_⟩
          go_simp
          refine (HN.out _).mono ?_
          rintro e W2 ⟨rfl, hw2⟩
          obtain rfl := hw2.symm
          first | exact ⟨_, rfl, ⟨X, rfl⟩, Below.refl _ _, rfl⟩ | exact ⟨_, rfl, ⟨X, rfl⟩, Below.refl _ _, rfl, fun h => by cases h⟩
        case s13 =>
          intro v W hW hp
          obtain ⟨X, rfl⟩ := hW
          have g9 : v 9 = .string ((⟨#[109]⟩ : ByteArray) ++ LT ++ ⟨#[46]⟩) := hp ⟨9, .data⟩ (by simp) rfl
          have g12 : v 12 = .string NT := hp ⟨12, .data⟩ (by simp) rfl
          clear hp
          simp only [mkA, setAll, List.setIfInBounds_toArray, List.set_cons_succ, List.set_cons_zero]
          refine .inl ⟨rfl, ?_⟩
          go_simp
          first | exact ⟨⟨X, rfl⟩, Below.refl _ _, rfl⟩ | exact ⟨⟨X, rfl⟩, Below.refl _ _, rfl, fun h => by cases h⟩
      case fin =>
        intro v W hW hR hD
        have hbW := below_of_over hW
        have g13 : v 13 = _ := hR 13 (by omega)
        simp only [List.drop_succ_cons, List.drop_zero, mkA, setAll, List.setIfInBounds_toArray, List.set_cons_succ, List.set_cons_zero, g13]
        generalize v 0 = q0
        generalize v 1 = q1
        generalize v 2 = q2
        generalize v 3 = q3
        generalize v 4 = q4
        generalize v 5 = q5
        generalize v 6 = q6
        generalize v 7 = q7
        generalize v 8 = q8
        generalize v 9 = q9
        generalize v 10 = q10
        generalize v 11 = q11
        generalize v 12 = q12
        clear hR hD hW g13
        go_wp2_with fail
        go_ret
        exact ⟨by rw [← HS.out]; rfl, below_here HB9.out hbW⟩
    · have hlet : Idn.letter 3 = 102 := by decide
      rw [hlet] at HS
      clear hlet
      obtain ⟨⟨x0, x1, x2, x3⟩, x4, x5, x6, x7, x8⟩ := quad_cells HI.out
      go_enter Tryz.func38, Tryz.ntmps38
      go_upto_region 3 with (go_at_call 32; refine (HF.out _).mono ?_; rintro e w9 ⟨rfl, hb1⟩; have hi9 := block_below hb1 HI.out; have HB9 := Lib.hid (below_here HB.out hb1); clear x0 x1 x2 x3 x4 x5 x6 x7 x8 hb1; obtain ⟨⟨x0, x1, x2, x3⟩, x4, x5, x6, x7, x8⟩ := quad_cells hi9; clear hi9)
      refine wp_region_freeA 14 [some 6, some 7, some 8, some 9, some 10, some 11, some 12, some 13, some 14, some 15, some 16, some 17, some 18, some 19] (fun W => ∃ X, W = over w9 X) [Fact.rowb 4 ltrs, Fact.is (.pointer (some ⟨w.heap.size, 2, none⟩)), Fact.is (.int .i64 3), Fact.ptr (.string ⟨#[102]⟩), Fact.is (.string ⟨#[102]⟩), Fact.is (.pointer (some ⟨w.heap.size, 0, none⟩)), Fact.is (.agg #[.int .u16 (a : Int), .int .u16 (b : Int)]), Fact.is (.string LT), Fact.is (.string ((⟨#[102]⟩ : ByteArray) ++ LT)), Fact.is (.string ((⟨#[102]⟩ : ByteArray) ++ LT ++ ⟨#[46]⟩)), Fact.is (.pointer (some ⟨w.heap.size, 3, none⟩)), Fact.is (.int .i64 (n : Int)), Fact.is (.string NT), Fact.is (.string ((⟨#[102]⟩ : ByteArray) ++ LT ++ ⟨#[46]⟩ ++ NT))] [] (by kernel_rfl) (by kernel_rfl) ?same (over_of (Below.refl _ _).drew) ?steps ?fin
      case same => kernel_rfl
      case steps =>
        simp only [List.take_succ_cons, List.take_zero, stepsI]
        refine ⟨⟨fun v u => by kernel_rfl, ?s0⟩, ⟨fun v u => by kernel_rfl, ?s1⟩, ⟨fun v u => by kernel_rfl, ?s2⟩, ⟨fun v u => by kernel_rfl, ?s3⟩, ⟨fun v u => by kernel_rfl, ?s4⟩, ⟨fun v u => by kernel_rfl, ?s5⟩, ⟨fun v u => by kernel_rfl, ?s6⟩, ⟨fun v u => by kernel_rfl, ?s7⟩, ⟨fun v u => by kernel_rfl, ?s8⟩, ⟨fun v u => by kernel_rfl, ?s9⟩, ⟨fun v u => by kernel_rfl, ?s10⟩, ⟨fun v u => by kernel_rfl, ?s11⟩, ⟨fun v u => by kernel_rfl, ?s12⟩, ⟨fun v u => by kernel_rfl, ?s13⟩, trivial⟩
        case s0 =>
          intro v W hW hp
          obtain ⟨X, rfl⟩ := hW
          clear hp
          simp only [mkA, setAll, List.setIfInBounds_toArray, List.set_cons_succ, List.set_cons_zero]
          refine .inl ⟨rfl, ?_⟩
          go_simp
          first | exact ⟨over_of (below_new (over_below _ _) _), below_fresh _ _, ⟨_, rfl, heap_alloc_new _ _⟩⟩ | exact ⟨over_of (below_new (over_below _ _) _), below_fresh _ _, ⟨_, rfl, heap_alloc_new _ _⟩, fun h => by cases h⟩
        case s1 =>
          intro v W hW hp
          obtain ⟨X, rfl⟩ := hW
          clear hp
          simp only [mkA, setAll, List.setIfInBounds_toArray, List.set_cons_succ, List.set_cons_zero]
          refine .inl ⟨rfl, ?_⟩
          go_simp
          first | exact ⟨⟨X, rfl⟩, Below.refl _ _, rfl⟩ | exact ⟨⟨X, rfl⟩, Below.refl _ _, rfl, fun h => by cases h⟩
        case s2 =>
          intro v W hW hp
          obtain ⟨X, rfl⟩ := hW
          have g1 : v 1 = .pointer (some ⟨w.heap.size, 2, none⟩) := hp ⟨1, .data⟩ (by simp) rfl
          clear hp
          simp only [mkA, setAll, List.setIfInBounds_toArray, List.set_cons_succ, List.set_cons_zero]
          refine .inl ⟨rfl, ?_⟩
          go_simp
          first | exact ⟨⟨X, rfl⟩, Below.refl _ _, rfl⟩ | exact ⟨⟨X, rfl⟩, Below.refl _ _, rfl, fun h => by cases h⟩
        case s3 =>
          intro v W hW hp
          obtain ⟨X, rfl⟩ := hW
          obtain ⟨b0, g0, r0⟩ := hp ⟨0, .data⟩ (by simp) rfl
          have g2 : v 2 = .int .i64 3 := hp ⟨2, .data⟩ (by simp) rfl
          clear hp
          simp only [mkA, setAll, List.setIfInBounds_toArray, List.set_cons_succ, List.set_cons_zero]
          refine .inl ⟨rfl, ?_⟩
          go_simp
          first | exact ⟨⟨X, rfl⟩, Below.refl _ _, ⟨(_, _), rfl, (quad_cells r0).1.2.2.2⟩⟩ | exact ⟨⟨X, rfl⟩, Below.refl _ _, ⟨(_, _), rfl, (quad_cells r0).1.2.2.2⟩, fun h => by cases h⟩
        case s4 =>
          intro v W hW hp
          obtain ⟨X, rfl⟩ := hW
          obtain ⟨b3, g3, r3⟩ := hp ⟨3, .data⟩ (by simp) rfl
          clear hp
          simp only [mkA, setAll, List.setIfInBounds_toArray, List.set_cons_succ, List.set_cons_zero]
          refine .inl ⟨rfl, ?_⟩
          go_simp
          first | exact ⟨⟨X, rfl⟩, Below.refl _ _, rfl⟩ | exact ⟨⟨X, rfl⟩, Below.refl _ _, rfl, fun h => by cases h⟩
        case s5 =>
          intro v W hW hp
          obtain ⟨X, rfl⟩ := hW
          clear hp
          simp only [mkA, setAll, List.setIfInBounds_toArray, List.set_cons_succ, List.set_cons_zero]
          refine .inl ⟨rfl, ?_⟩
          go_simp
          first | exact ⟨⟨X, rfl⟩, Below.refl _ _, rfl⟩ | exact ⟨⟨X, rfl⟩, Below.refl _ _, rfl, fun h => by cases h⟩
        case s6 =>
          intro v W hW hp
          obtain ⟨X, rfl⟩ := hW
          have g5 : v 5 = .pointer (some ⟨w.heap.size, 0, none⟩) := hp ⟨5, .data⟩ (by simp) rfl
          clear hp
          simp only [mkA, setAll, List.setIfInBounds_toArray, List.set_cons_succ, List.set_cons_zero]
          refine .inl ⟨rfl, ?_⟩
          go_simp
          first | exact ⟨⟨X, rfl⟩, Below.refl _ _, rfl⟩ | exact ⟨⟨X, rfl⟩, Below.refl _ _, rfl, fun h => by cases h⟩
        case s7 =>
          intro v W hW hp
          obtain ⟨X, rfl⟩ := hW
          have g6 : v 6 = .agg #[.int .u16 (a : Int), .int .u16 (b : Int)] := hp ⟨6, .data⟩ (by simp) rfl
          clear hp
          simp only [mkA, setAll, List.setIfInBounds_toArray, List.set_cons_succ, List.set_cons_zero]
          refine .inl ⟨rfl, ?_⟩
          go_simp
          refine (HT.out _).mono ?_
          rintro e W2 ⟨rfl, hb2⟩
          first | exact ⟨_, rfl, over_of (below_here (over_below _ _) hb2), hb2, rfl⟩ | exact ⟨_, rfl, over_of (below_here (over_below _ _) hb2), hb2, rfl, fun h => by cases h⟩
        case s8 =>
          intro v W hW hp
          obtain ⟨X, rfl⟩ := hW
          have g4 : v 4 = .string ⟨#[102]⟩ := hp ⟨4, .data⟩ (by simp) rfl
          have g7 : v 7 = .string LT := hp ⟨7, .data⟩ (by simp) rfl
          clear hp
          simp only [mkA, setAll, List.setIfInBounds_toArray, List.set_cons_succ, List.set_cons_zero]
          refine .inl ⟨rfl, ?_⟩
          go_simp
          first | exact ⟨⟨X, rfl⟩, Below.refl _ _, rfl⟩ | exact ⟨⟨X, rfl⟩, Below.refl _ _, rfl, fun h => by cases h⟩
        case s9 =>
          intro v W hW hp
          obtain ⟨X, rfl⟩ := hW
          have g8 : v 8 = .string ((⟨#[102]⟩ : ByteArray) ++ LT) := hp ⟨8, .data⟩ (by simp) rfl
          clear hp
          simp only [mkA, setAll, List.setIfInBounds_toArray, List.set_cons_succ, List.set_cons_zero]
          refine .inl ⟨rfl, ?_⟩
          go_simp
          first | exact ⟨⟨X, rfl⟩, Below.refl _ _, rfl⟩ | exact ⟨⟨X, rfl⟩, Below.refl _ _, rfl, fun h => by cases h⟩
        case s10 =>
          intro v W hW hp
          obtain ⟨X, rfl⟩ := hW
          clear hp
          simp only [mkA, setAll, List.setIfInBounds_toArray, List.set_cons_succ, List.set_cons_zero]
          refine .inl ⟨rfl, ?_⟩
          go_simp
          first | exact ⟨⟨X, rfl⟩, Below.refl _ _, rfl⟩ | exact ⟨⟨X, rfl⟩, Below.refl _ _, rfl, fun h => by cases h⟩
        case s11 =>
          intro v W hW hp
          obtain ⟨X, rfl⟩ := hW
          have g10 : v 10 = .pointer (some ⟨w.heap.size, 3, none⟩) := hp ⟨10, .data⟩ (by simp) rfl
          clear hp
          simp only [mkA, setAll, List.setIfInBounds_toArray, List.set_cons_succ, List.set_cons_zero]
          refine .inl ⟨rfl, ?_⟩
          go_simp
          first | exact ⟨⟨X, rfl⟩, Below.refl _ _, rfl⟩ | exact ⟨⟨X, rfl⟩, Below.refl _ _, rfl, fun h => by cases h⟩
        case s12 =>
          intro v W hW hp
          obtain ⟨X, rfl⟩ := hW
          have g11 : v 11 = .int .i64 (n : Int) := hp ⟨11, .data⟩ (by simp) rfl
          clear hp
          simp only [mkA, setAll, List.setIfInBounds_toArray, List.set_cons_succ, List.set_cons_zero]
          refine .inl ⟨rfl, ?_⟩
          go_simp
          refine (HN.out _).mono ?_
          rintro e W2 ⟨rfl, hw2⟩
          obtain rfl := hw2.symm
          first | exact ⟨_, rfl, ⟨X, rfl⟩, Below.refl _ _, rfl⟩ | exact ⟨_, rfl, ⟨X, rfl⟩, Below.refl _ _, rfl, fun h => by cases h⟩
        case s13 =>
          intro v W hW hp
          obtain ⟨X, rfl⟩ := hW
          have g9 : v 9 = .string ((⟨#[102]⟩ : ByteArray) ++ LT ++ ⟨#[46]⟩) := hp ⟨9, .data⟩ (by simp) rfl
          have g12 : v 12 = .string NT := hp ⟨12, .data⟩ (by simp) rfl
          clear hp
          simp only [mkA, setAll, List.setIfInBounds_toArray, List.set_cons_succ, List.set_cons_zero]
          refine .inl ⟨rfl, ?_⟩
          go_simp
          first | exact ⟨⟨X, rfl⟩, Below.refl _ _, rfl⟩ | exact ⟨⟨X, rfl⟩, Below.refl _ _, rfl, fun h => by cases h⟩
      case fin =>
        intro v W hW hR hD
        have hbW := below_of_over hW
        have g13 : v 13 = _ := hR 13 (by omega)
        simp only [List.drop_succ_cons, List.drop_zero, mkA, setAll, List.setIfInBounds_toArray, List.set_cons_succ, List.set_cons_zero, g13]
        generalize v 0 = q0
        generalize v 1 = q1
        generalize v 2 = q2
        generalize v 3 = q3
        generalize v 4 = q4
        generalize v 5 = q5
        generalize v 6 = q6
        generalize v 7 = q7
        generalize v 8 = q8
        generalize v 9 = q9
        generalize v 10 = q10
        generalize v 11 = q11
        generalize v 12 = q12
        clear hR hD hW g13
        go_wp2_with fail
        go_ret
        exact ⟨by rw [← HS.out]; rfl, below_here HB9.out hbW⟩
  · have hf' : Idn.fine x = false := by simpa using hf
    rw [hf'] at HF
    have ht : Idn.text x = [] := by unfold Idn.text; rw [hf']; rfl
    rw [ht]
    clear hf hf' ht
    obtain ⟨⟨x0, x1, x2, x3⟩, x4, x5, x6, x7, x8⟩ := quad_cells HI.out
    go_enter Tryz.func38, Tryz.ntmps38
    go_wp2_with (go_at_call 32; refine (HF.out _).mono ?_; rintro e w1 ⟨rfl, hb1⟩)
    go_ret
    exact ⟨rfl, below_here HB.out hb1⟩
end Go.Proofs.YtlmacaenbililaaGreatDoor
