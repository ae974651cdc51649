/- Package ident: Fine, Lane, At, Cmp, Text: what they return. No conditions. -/
import Derived.Test.YtlmacaenbililaaGreatDoorIlaw
import Derived.Test.YtlmacaenbililaaGreatDoorShb
namespace Go.Proofs.YtlmacaenbililaaGreatDoor
open Go.RowKit Go.Shelf
set_option linter.unusedSimpArgs false
set_option linter.unusedVariables false

theorem fine_ok (x : Idn.I) (w : World) : Calls Tryz.prog 31 #[idV x] w fun e w' => e = .returned (.bool (Idn.fine x)) ∧ Below w.heap.size w w' := by
  obtain ⟨b, k, n⟩ := x
  by_cases h : Idn.fine (b, k, n) = true
  · rw [h]
    obtain ⟨h1, h2, h3, h4⟩ := Idn.fine_iff.1 h
    simp only at h1 h2 h3 h4
    clear h
    go_enter Tryz.func31, Tryz.ntmps31
    go_wp2_with fail
    go_ret
    exact ⟨rfl, below_new (Below.refl _ _) _⟩
  · have hf : Idn.fine (b, k, n) = false := by simpa using h
    rw [hf]
    have hw : (k < 1) ∨ (1 ≤ k ∧ 3 < k) ∨ (1 ≤ k ∧ k ≤ 3 ∧ n < 0) ∨ (1 ≤ k ∧ k ≤ 3 ∧ 0 ≤ n ∧ 4 ≤ n) := by
      have h' := h
      rw [Idn.fine_iff] at h'
      simp only at h'
      omega
    clear h hf
    rcases hw with h1 | ⟨h1, h2⟩ | ⟨h1, h2, h3⟩ | ⟨h1, h2, h3, h4⟩
    · have g1 : ¬ 1 ≤ k := by omega
      go_enter Tryz.func31, Tryz.ntmps31
      go_wp2_with fail
      go_ret
      exact ⟨rfl, below_new (Below.refl _ _) _⟩
    · have g2 : ¬ k ≤ 3 := by omega
      go_enter Tryz.func31, Tryz.ntmps31
      go_wp2_with fail
      go_ret
      exact ⟨rfl, below_new (Below.refl _ _) _⟩
    · have g3 : ¬ 0 ≤ n := by omega
      go_enter Tryz.func31, Tryz.ntmps31
      go_wp2_with fail
      go_ret
      exact ⟨rfl, below_new (Below.refl _ _) _⟩
    · have g4 : ¬ n < 4 := by omega
      go_enter Tryz.func31, Tryz.ntmps31
      go_wp2_with fail
      go_ret
      exact ⟨rfl, below_new (Below.refl _ _) _⟩
theorem lane_ok (x : Idn.I) (w : World) : Calls Tryz.prog 33 #[idV x] w fun e w' => e = .returned (.int .i64 (Idn.lane x)) ∧ Below w.heap.size w w' := by
  have HF := Lib.hid (fine_ok x)
  by_cases h : Idn.fine x = true
  · rw [h] at HF
    rw [Idn.lane_fine h]
    obtain ⟨b, k, n⟩ := x
    obtain ⟨h1, h2, h3, h4⟩ := Idn.fine_iff.1 h
    simp only at h1 h2 h3 h4
    clear h
    go_enter Tryz.func33, Tryz.ntmps33
    go_wp2_with (go_at_call 31; refine (HF.out _).mono ?_; rintro e w1 ⟨rfl, hb1⟩; obtain ⟨hc, hf⟩ := bcell hb1)
    go_ret
    exact ⟨rfl, below_here (below_new (Below.refl _ _) _) hb1⟩
  · have hf : Idn.fine x = false := by simpa using h
    rw [hf] at HF
    rw [show Idn.lane x = -1 from if_neg h]
    clear h hf
    go_enter Tryz.func33, Tryz.ntmps33
    go_wp2_with (go_at_call 31; refine (HF.out _).mono ?_; rintro e w1 ⟨rfl, hb1⟩; obtain ⟨hc, hf⟩ := bcell hb1)
    go_ret
    exact ⟨rfl, below_here (below_new (Below.refl _ _) _) hb1⟩
theorem info_id : (Tryz.prog.info? 64).map (·.size) = some 4 := by kernel_rfl
theorem id_ret {fn : Func} {a : Act} {W : World} {R : Ending → World → Prop} {p : Tmp} (h : fn.results = #[.cell p 64]) (b : Nat) (hp : a.tmps.getD p undef = .pointer (some ⟨b, 0, none⟩)) (v : Idn.I)
    (hb : W.heap[b]? = some (.cells #[.int .u16 (v.1.1 : Int), .int .u16 (v.1.2 : Int), .int .i64 v.2.1, .int .i64 v.2.2] 64 (0, 0))) (hdf : a.defers = []) (hR : R (.returned (idV v)) W) : bodyPost Tryz.prog fn R .ret a W :=
  ret_cell h b 0 hp (idC v) _ (range_of_block hb 0 _ fun j _ => by rw [Nat.zero_add]) Tryz.underlying64 rfl info_id hdf hR
theorem id_ret2 {fn : Func} {a : Act} {W : World} {R : Ending → World → Prop} {p u : Tmp} (h : fn.results = #[.cell p 64, .tmp u]) (b : Nat) (hp : a.tmps.getD p undef = .pointer (some ⟨b, 0, none⟩)) (v : Idn.I)
    (hb : W.heap[b]? = some (.cells #[.int .u16 (v.1.1 : Int), .int .u16 (v.1.2 : Int), .int .i64 v.2.1, .int .i64 v.2.2] 64 (0, 0))) (hdf : a.defers = []) (hR : R (.returned (.tuple #[idV v, a.tmps.getD u undef])) W) : bodyPost Tryz.prog fn R .ret a W :=
  ret_cell_tmp h b 0 hp (idC v) _ (range_of_block hb 0 _ fun j _ => by rw [Nat.zero_add]) Tryz.underlying64 rfl info_id hdf hR
theorem mk_ok (b : Lab.L) (j : Int) (w : World) : Calls Tryz.prog 35 #[labV b, .int .i64 j] w fun e w' => e = .returned (idV (Idn.mk b j)) ∧ Below w.heap.size w w' := by
  by_cases h : 0 ≤ j ∧ j < 12
  · obtain ⟨h1, h2⟩ := h
    rw [Idn.mk_in b h1 h2]
    go_enter Tryz.func35, Tryz.ntmps35
    go_wp2_with fail
    exact bodyPost_ret (v := idV (b, j / 4 + 1, j % 4)) (by simp [results, Tryz.results35, go_sem]) rfl ⟨rfl, below_new (below_new (Below.refl _ _) _) _⟩
  · rw [show Idn.mk b j = Idn.zero from if_neg h]
    have hw : j < 0 ∨ (0 ≤ j ∧ 12 ≤ j) := by omega
    clear h
    rcases hw with h1 | ⟨h1, h2⟩
    · go_enter Tryz.func35, Tryz.ntmps35
      go_wp2_with fail
      exact bodyPost_ret (v := idV Idn.zero) (by simp [results, Tryz.results35, go_sem]; exact ⟨rfl, rfl, rfl, rfl⟩) rfl ⟨rfl, below_new (below_new (Below.refl _ _) _) _⟩
    · have g : ¬ j < 12 := by omega
      go_enter Tryz.func35, Tryz.ntmps35
      go_wp2_with fail
      exact bodyPost_ret (v := idV Idn.zero) (by simp [results, Tryz.results35, go_sem]; exact ⟨rfl, rfl, rfl, rfl⟩) rfl ⟨rfl, below_new (below_new (Below.refl _ _) _) _⟩
theorem nan64_ok (a : Int) (w : World) : Calls Tryz.prog 166 #[.int .i64 a] w fun e w' => e = .returned (.bool false) ∧ w' = w := by
  go_enter Tryz.func166, Tryz.ntmps166
  go_wp2_with fail
  go_ret
  exact ⟨rfl, rfl⟩
theorem compare64_ok (a b : Int) (w : World) : Calls Tryz.prog 98 #[.int .i64 a, .int .i64 b] w fun e w' => e = .returned (.int .i64 (cmpI a b)) ∧ Below w.heap.size w w' := by
  by_cases h1 : a < b
  · have e : cmpI a b = -1 := if_pos h1
    rw [e]
    clear e
    go_enter Tryz.func98, Tryz.ntmps98
    go_wp2_with (go_at_call 166; refine (nan64_ok _ _).mono ?_; rintro e w1 ⟨rfl, hw1⟩; obtain rfl := hw1.symm)
    go_ret
    exact ⟨rfl, Below.refl _ _⟩
  · by_cases h2 : b < a
    · have e : cmpI a b = 1 := by unfold cmpI; rw [if_neg h1, if_pos h2]
      rw [e]
      clear e
      go_enter Tryz.func98, Tryz.ntmps98
      go_wp2_with (go_at_call 166; refine (nan64_ok _ _).mono ?_; rintro e w1 ⟨rfl, hw1⟩; obtain rfl := hw1.symm)
      go_ret
      exact ⟨rfl, Below.refl _ _⟩
    · have e : cmpI a b = 0 := by unfold cmpI; rw [if_neg h1, if_neg h2]
      rw [e]
      clear e
      go_enter Tryz.func98, Tryz.ntmps98
      go_wp2_with (go_at_call 166; refine (nan64_ok _ _).mono ?_; rintro e w1 ⟨rfl, hw1⟩; obtain rfl := hw1.symm)
      go_ret
      exact ⟨rfl, Below.refl _ _⟩
theorem cells3_new (w : World) (t : TypeId) (x y z : Int) (i : Nat) (hi : i < [x, y, z].length) : (w.alloc (.cells #[.int .i64 x, .int .i64 y, .int .i64 z] t)).cell? ⟨w.heap.size, 0 + i, none⟩ = some (.int .i64 [x, y, z][i]) := by
  rw [cell_of_row _ _ _ _ _ _ (heap_alloc_new w _), Nat.zero_add]
  match i, hi with
  | 0, _ => rfl
  | 1, _ => rfl
  | 2, _ => rfl
attribute [local go_sem] cell_over frozen_over
set_option maxHeartbeats 1000000 in
theorem icmp_ok (x y : Idn.I) (hx : Lab.ok x.1) (hy : Lab.ok y.1) (w : World) : Calls Tryz.prog 41 #[idV x, idV y] w fun e w' => e = .returned (.int .i64 (Idn.cmp x y)) ∧ Below w.heap.size w w' := by
  by_cases hxy : x = y
  · subst hxy
    have e : Idn.cmp x x = 0 := if_pos rfl
    rw [e]
    go_enter Tryz.func41, Tryz.ntmps41
    go_wp2_with fail
    go_ret
    exact ⟨rfl, below_new (below_new (Below.refl _ _) _) _⟩
  · have HL := Lib.hid (fun w => lcmp_ok x.1 y.1 hx hy w)
    have HC : Hid (Idn.cmp x y = orOf [Lab.cmp x.1 y.1, cmpI x.2.1 y.2.1, cmpI x.2.2 y.2.2]) := Lib.hid (if_neg hxy)
    generalize Lab.cmp x.1 y.1 = z at HL HC
    generalize Idn.cmp x y = r at HC
    obtain ⟨⟨a1, a2⟩, k1, n1⟩ := x
    obtain ⟨⟨b1, b2⟩, k2, n2⟩ := y
    simp only at HL HC hx hy
    by_cases h1 : (a1 : Int) = (b1 : Int)
    · obtain rfl : a1 = b1 := by omega
      by_cases h2 : (a2 : Int) = (b2 : Int)
      · obtain rfl : a2 = b2 := by omega
        by_cases h3 : k1 = k2
        · subst h3
          have h4 : ¬ n1 = n2 := fun h => hxy (by rw [h])
          clear hxy h1 h2 hx hy
          go_enter Tryz.func41, Tryz.ntmps41
          go_wp2_with fail
          refine wp_region_over_tail 15 (by kernel_rfl) (by kernel_rfl) ?_
          simp only [List.take_succ_cons, List.take_zero, List.drop_succ_cons, List.drop_zero]
          repeat (go_big_quiet_step (first | ((go_at_call 58; exact Calls.over_of (HL.out _))) | ((go_at_call 98; exact Calls.over_of (compare64_ok _ _ _)))))
          refine wpQuiet_nil ?_
          intro W7 hW7
          have hb7 := below_of_over hW7
          clear hW7
          go_wp2_with (go_at_call 97; refine (or_ok _ _ [z, cmpI k1 k1, cmpI n1 n2] (by simp) _ (.inr ⟨W7.heap.size, 0, rfl, cells3_new W7 _ _ _ _⟩)).mono ?_; rintro e w8 ⟨rfl, hw8⟩; obtain rfl := hw8.symm)
          go_ret
          exact ⟨by rw [HC.out]; rfl, below_new (below_here (below_new (below_new (Below.refl _ _) _) _) hb7) _⟩
        · clear hxy h1 h2 hx hy
          go_enter Tryz.func41, Tryz.ntmps41
          go_wp2_with fail
          refine wp_region_over_tail 15 (by kernel_rfl) (by kernel_rfl) ?_
          simp only [List.take_succ_cons, List.take_zero, List.drop_succ_cons, List.drop_zero]
          repeat (go_big_quiet_step (first | ((go_at_call 58; exact Calls.over_of (HL.out _))) | ((go_at_call 98; exact Calls.over_of (compare64_ok _ _ _)))))
          refine wpQuiet_nil ?_
          intro W7 hW7
          have hb7 := below_of_over hW7
          clear hW7
          go_wp2_with (go_at_call 97; refine (or_ok _ _ [z, cmpI k1 k2, cmpI n1 n2] (by simp) _ (.inr ⟨W7.heap.size, 0, rfl, cells3_new W7 _ _ _ _⟩)).mono ?_; rintro e w8 ⟨rfl, hw8⟩; obtain rfl := hw8.symm)
          go_ret
          exact ⟨by rw [HC.out]; rfl, below_new (below_here (below_new (below_new (Below.refl _ _) _) _) hb7) _⟩
      · clear hxy h1 hx hy
        go_enter Tryz.func41, Tryz.ntmps41
        go_wp2_with fail
        refine wp_region_over_tail 15 (by kernel_rfl) (by kernel_rfl) ?_
        simp only [List.take_succ_cons, List.take_zero, List.drop_succ_cons, List.drop_zero]
        repeat (go_big_quiet_step (first | ((go_at_call 58; exact Calls.over_of (HL.out _))) | ((go_at_call 98; exact Calls.over_of (compare64_ok _ _ _)))))
        refine wpQuiet_nil ?_
        intro W7 hW7
        have hb7 := below_of_over hW7
        clear hW7
        go_wp2_with (go_at_call 97; refine (or_ok _ _ [z, cmpI k1 k2, cmpI n1 n2] (by simp) _ (.inr ⟨W7.heap.size, 0, rfl, cells3_new W7 _ _ _ _⟩)).mono ?_; rintro e w8 ⟨rfl, hw8⟩; obtain rfl := hw8.symm)
        go_ret
        exact ⟨by rw [HC.out]; rfl, below_new (below_here (below_new (below_new (Below.refl _ _) _) _) hb7) _⟩
    · clear hxy hx hy
      go_enter Tryz.func41, Tryz.ntmps41
      go_wp2_with fail
      refine wp_region_over_tail 15 (by kernel_rfl) (by kernel_rfl) ?_
      simp only [List.take_succ_cons, List.take_zero, List.drop_succ_cons, List.drop_zero]
      repeat (go_big_quiet_step (first | ((go_at_call 58; exact Calls.over_of (HL.out _))) | ((go_at_call 98; exact Calls.over_of (compare64_ok _ _ _)))))
      refine wpQuiet_nil ?_
      intro W7 hW7
      have hb7 := below_of_over hW7
      clear hW7
      go_wp2_with (go_at_call 97; refine (or_ok _ _ [z, cmpI k1 k2, cmpI n1 n2] (by simp) _ (.inr ⟨W7.heap.size, 0, rfl, cells3_new W7 _ _ _ _⟩)).mono ?_; rintro e w8 ⟨rfl, hw8⟩; obtain rfl := hw8.symm)
      go_ret
      exact ⟨by rw [HC.out]; rfl, below_new (below_here (below_new (below_new (Below.refl _ _) _) _) hb7) _⟩
theorem dec_digit : ∀ n : Fin 4, Lib.decDigits n.val = [(48 + n.val).toUInt8] := by decide +kernel
theorem itext_bytes (c : UInt8) (l : List UInt8) (d : UInt8) : (⟨#[c]⟩ : ByteArray) ++ (⟨l.toArray⟩ : ByteArray) ++ (⟨#[46]⟩ : ByteArray) ++ (⟨[d].toArray⟩ : ByteArray) = ⟨(c :: (l ++ [46, d])).toArray⟩ := by
  apply ByteArray.ext
  apply Array.toList_inj.1
  simp [ByteArray.data_append]
theorem labtext_size (a : Lab.L) : (⟨(Lab.text a).toArray⟩ : ByteArray).size ≤ 99 := by
  have h1 := text_size a.1
  have h2 := text_size a.2
  have e1 : (Tag.text a.1).length ≤ 49 := by simpa [ByteArray.size] using h1
  have e2 : (Tag.text a.2).length ≤ 49 := by simpa [ByteArray.size] using h2
  have : (Lab.text a).length ≤ 99 := by unfold Lab.text; simp; omega
  simpa [ByteArray.size] using this
set_option maxRecDepth 100000 in
set_option maxHeartbeats 1000000 in
theorem itext_ok (x : Idn.I) (hx : Lab.ok x.1) (w : World) (hT : TabAt w) (hW : PowAt w) : Calls Tryz.prog 37 #[idV x] w fun e w' => e = .returned (.string ⟨(Idn.text x).toArray⟩) ∧ Below w.heap.size w w' := by
  have HF := Lib.hid (fine_ok x)
  by_cases h : Idn.fine x = true
  · rw [h] at HF
    obtain ⟨h1, h2, h3, h4⟩ := Idn.fine_iff.1 h
    have HT := Lib.hid hT
    have HW := Lib.hid hW
    have HX := Lib.hid (fun w => ltext_ok x.1 hx w)
    have hsz := labtext_size x.1
    have HS := Lib.hid (itext_bytes (Idn.letter x.2.1) (Lab.text x.1) (48 + x.2.2.toNat).toUInt8)
    rw [Idn.text_fine h]
    have hdd := dec_digit ⟨x.2.2.toNat, by omega⟩
    have HI := Lib.hid (fun w => (Tryz.strconv_Itoa_small x.2.2.toNat (by omega) w).mono fun (e : Ending) w' ⟨he, hw⟩ => (⟨he, by rw [hw]; exact Below.refl _ _⟩ : e = Ending.returned (.string ⟨(Lib.decDigits x.2.2.toNat).toArray⟩) ∧ Below w.heap.size w w'))
    rw [show Lib.decDigits x.2.2.toNat = [(48 + x.2.2.toNat).toUInt8] from hdd, show ((x.2.2.toNat : Nat) : Int) = x.2.2 by omega] at HI
    have hds : (⟨[(48 + x.2.2.toNat).toUInt8].toArray⟩ : ByteArray).size = 1 := rfl
    generalize (⟨[(48 + x.2.2.toNat).toUInt8].toArray⟩ : ByteArray) = d at HI HS hds
    generalize (Idn.letter x.2.1 :: (Lab.text x.1 ++ [46, (48 + x.2.2.toNat).toUInt8])).toArray = res at HS
    generalize (⟨(Lab.text x.1).toArray⟩ : ByteArray) = t at HX HS hsz
    obtain ⟨b, k, n⟩ := x
    simp only at h1 h2 h3 h4 HX HI HF HS
    have hc1 : ¬ 9223372036854775807 < 1 + t.size := by omega
    have hc2 : ¬ 9223372036854775807 < 1 + t.size + 1 := by omega
    have hc3 : ¬ 9223372036854775807 < 1 + t.size + 1 + d.size := by omega
    have HDS := Lib.hid hds
    clear h hdd hT hW hx hsz hds
    obtain rfl | rfl | rfl : k = 1 ∨ k = 2 ∨ k = 3 := by omega
    all_goals
      go_enter Tryz.func37, Tryz.ntmps37
      go_wp2_with (go_at_call 31; refine (HF.out _).mono ?_; rintro e w1 ⟨rfl, hb1⟩; obtain ⟨hc, hf⟩ := bcell hb1; have hz1 : w.heap.size < w1.heap.size := by (have := hb1.size; simp at this; omega))
      refine wp_region_over (by kernel_rfl) (by kernel_rfl) ?_
      repeat (go_big_quiet_step (first
        | ((go_at_call 82; exact Calls.over_of (HX.out _ (HT.out.below (below_here (below_here (below_new (Below.refl _ _) _) hb1) (over_below _ _))) (HW.out.below (below_here (below_here (below_new (Below.refl _ _) _) hb1) (over_below _ _))))))
        | ((go_at_call 79; exact Calls.over_of (HI.out _)))))
      refine wpQuiet_nil ?_
      intro W7 hW7
      have hb7 := below_of_over hW7
      clear hW7
      go_wp2_with fail
      go_ret
      exact ⟨by show Ending.returned (.string ((⟨#[32, 112, 109, 102]⟩ : ByteArray).extract _ _ ++ t ++ ⟨#[46]⟩ ++ d)) = _; rw [← HS.out]; rfl, below_here (below_here (below_new (Below.refl _ _) _) hb1) hb7⟩
  · have hf : Idn.fine x = false := by simpa using h
    rw [hf] at HF
    rw [show Idn.text x = [] from if_neg h]
    clear h hf
    go_enter Tryz.func37, Tryz.ntmps37
    go_wp2_with (go_at_call 31; refine (HF.out _).mono ?_; rintro e w1 ⟨rfl, hb1⟩; obtain ⟨hc, hf⟩ := bcell hb1)
    go_ret
    exact ⟨rfl, below_here (below_new (Below.refl _ _) _) hb1⟩
end Go.Proofs.YtlmacaenbililaaGreatDoor
