/- The reference's labels (package forepeakref02): Flows, Join, Meet: what they return. The reference's labels (package forepeakref02): Join, Meet: what they return. The reference's labels (package forepeakref02): Parse: what it returns. No conditions. -/
import Derived.Test.YtlmacaenbililaaGreatDoorLref
namespace Go.Proofs.YtlmacaenbililaaGreatDoor
open Go.RowKit Go.Shelf
set_option linter.unusedSimpArgs false
set_option linter.unusedVariables false
attribute [local go_sem] cell_over frozen_over

namespace Lab
/-- Does a tag stand in the way? -/
def bars (a b : L) (k : Nat) : Bool := (a.1.testBit k && !b.1.testBit k) || (b.2.testBit k && !a.2.testBit k)
def flowsTo (a b : L) (k : Nat) : Bool := (List.range k).all fun t => !bars a b t
theorem flowsTo_all (a b : L) : flowsTo a b 16 = flows a b := by
  rw [Bool.eq_iff_iff, flows_spec]
  unfold flowsTo bars
  rw [List.all_eq_true]
  constructor
  · intro h
    refine ⟨fun t ht x => ?_, fun t ht x => ?_⟩
    · have := h t (List.mem_range.2 ht)
      simp only [x, Bool.true_and, Bool.not_or, Bool.not_not, Bool.and_eq_true] at this
      exact this.1
    · have := h t (List.mem_range.2 ht)
      simp only [x, Bool.true_and, Bool.not_or, Bool.not_not, Bool.and_eq_true] at this
      exact this.2
  · rintro ⟨h1, h2⟩ t ht
    have ht := List.mem_range.1 ht
    have k1 := h1 t ht
    have k2 := h2 t ht
    revert k1 k2
    cases a.1.testBit t <;> cases b.1.testBit t <;> cases b.2.testBit t <;> cases a.2.testBit t <;> simp
theorem flowsTo_succ (a b : L) (k : Nat) : flowsTo a b (k + 1) = (flowsTo a b k && !bars a b k) := by
  unfold flowsTo
  rw [List.range_succ, List.all_append]
  simp
theorem flows_stop {a b : L} {k : Nat} (hk : k < 16) (h : bars a b k = true) : flows a b = false := by
  cases hf : flows a b with
  | false => rfl
  | true =>
    rw [← flowsTo_all] at hf
    have := List.all_eq_true.1 hf k (List.mem_range.2 hk)
    rw [h] at this
    cases this
end Lab
set_option maxRecDepth 100000 in
set_option maxHeartbeats 2000000 in
theorem rflows_ok (a b : Lab.L) (ha : Lab.ok a) (hb : Lab.ok b) (w : World) : Calls Tryz.prog 173 #[labV a, labV b] w fun e w' => e = .returned (.bool (Lab.flows a b)) ∧ Below w.heap.size w w' := by
  go_enter Tryz.func173, Tryz.ntmps173
  go_wp2_with fail
  obtain ⟨w0, hw0⟩ : ∃ w0, w0 = (w.alloc (.cells #[.int .u16 (a.1 : Int), .int .u16 (a.2 : Int)] 25)).alloc (.cells #[.int .u16 (b.1 : Int), .int .u16 (b.2 : Int)] 25) := ⟨_, rfl⟩
  have HB : Hid (Below w.heap.size w w0) := Lib.hid (by rw [hw0]; exact below_new (below_new (Below.refl _ _) _) _)
  have h1 : w0.heap[w.heap.size]? = some (.cells #[.int .u16 (a.1 : Int), .int .u16 (a.2 : Int)] 25 (0, 0)) := by
    rw [hw0, Below.heap_alloc _ _ _ (by simp)]; exact heap_alloc_new _ _
  have h2 : w0.heap[w.heap.size + 1]? = some (.cells #[.int .u16 (b.1 : Int), .int .u16 (b.2 : Int)] 25 (0, 0)) := by
    have := heap_alloc_new (w.alloc (.cells #[.int .u16 (a.1 : Int), .int .u16 (a.2 : Int)] 25)) (.cells #[.int .u16 (b.1 : Int), .int .u16 (b.2 : Int)] 25)
    rw [World.size_alloc] at this
    rw [hw0]; exact this
  obtain ⟨a0, a1, _, _⟩ := pair_cells h1
  obtain ⟨b0, b1, _, _⟩ := pair_cells h2
  rw [← hw0]
  clear hw0 h1 h2
  go_loopw [5] (fun i wr => ∃ (k : Nat), i = .int .i64 (k : Int) ∧ k ≤ 16 ∧ Hid (Lab.flowsTo a b k = true) ∧ wr = w0) (fun i _ => 16 - (intOf i).toNat)
  case atStart => exact ⟨0, rfl, by omega, Lib.hid rfl, rfl⟩
  case round =>
    obtain ⟨k, rfl, hk, hf, rfl⟩ := hrel
    by_cases hk16 : k = 16
    · subst hk16
      go_wp2_with fail
      go_ret
      exact ⟨by rw [← Lab.flowsTo_all, hf.out]; rfl, HB.out⟩
    · have hkl : k < 16 := by omega
      have hki : (k : Int) < 16 := by omega
      have HS := Lib.hid (Lab.flowsTo_succ a b k)
      have HT := Lib.hid (fun h => Lab.flows_stop (a := a) (b := b) hkl h)
      rw [hf.out] at HS
      have HBA : Hid (Lab.bars a b k = ((a.1.testBit k && !b.1.testBit k) || (b.2.testBit k && !a.2.testBit k))) := Lib.hid rfl
      obtain ⟨ha1, ha2⟩ := ha
      obtain ⟨hb1, hb2⟩ := hb
      have HX := Lib.hid (fun w => hasb_ok a.1 ha1 k hkl w)
      have HY := Lib.hid (fun w => hasb_ok b.1 hb1 k hkl w)
      have HZ := Lib.hid (fun w => hasb_ok b.2 hb2 k hkl w)
      have HU := Lib.hid (fun w => hasb_ok a.2 ha2 k hkl w)
      generalize a.1.testBit k = x at HX HBA
      generalize b.1.testBit k = y at HY HBA
      generalize b.2.testBit k = z at HZ HBA
      generalize a.2.testBit k = u at HU HBA
      clear hk16
      cases x <;> cases y <;> cases z <;> cases u
      all_goals
        go_wp2_with (first
          | (go_at_call 100; ((with_reducible refine (HX.out _).mono ?_); rintro e w1 ⟨rfl, hw1⟩; obtain rfl := hw1.symm))
          | (go_at_call 100; ((with_reducible refine (HY.out _).mono ?_); rintro e w1 ⟨rfl, hw1⟩; obtain rfl := hw1.symm))
          | (go_at_call 100; ((with_reducible refine (HZ.out _).mono ?_); rintro e w1 ⟨rfl, hw1⟩; obtain rfl := hw1.symm))
          | (go_at_call 100; ((with_reducible refine (HU.out _).mono ?_); rintro e w1 ⟨rfl, hw1⟩; obtain rfl := hw1.symm)))
        first
          | (go_ret; exact ⟨by rw [HT.out (by rw [HBA.out]; rfl)]; rfl, HB.out⟩)
          | (go_roundw
             case rel => exact ⟨k + 1, by go_num, by omega, Lib.hid (by rw [HS.out, HBA.out]; rfl), trivial⟩
             case measure => simp [intOf]; omega)
end Go.Proofs.YtlmacaenbililaaGreatDoor
namespace Go.Proofs.YtlmacaenbililaaGreatDoor
open Go.RowKit Go.Shelf
set_option linter.unusedSimpArgs false
set_option linter.unusedVariables false
attribute [local go_sem] cell_over frozen_over

theorem ror_b (a b : Nat) (ha : a < 65536) (hb : b < 65536) (w : World) : Calls Tryz.prog 220 #[.int .u16 (a : Int), .int .u16 (b : Int)] w fun e w' => e = .returned (.int .u16 ((a ||| b : Nat) : Int)) ∧ Below w.heap.size w w' :=
  (ror_ok a b ha hb w).mono fun _ _ ⟨h1, h2⟩ => ⟨h1, by rw [h2]; exact Below.refl _ _⟩
theorem rand_b (a b : Nat) (ha : a < 65536) (hb : b < 65536) (w : World) : Calls Tryz.prog 101 #[.int .u16 (a : Int), .int .u16 (b : Int)] w fun e w' => e = .returned (.int .u16 ((a &&& b : Nat) : Int)) ∧ Below w.heap.size w w' :=
  (rand_ok a b ha hb w).mono fun _ _ ⟨h1, h2⟩ => ⟨h1, by rw [h2]; exact Below.refl _ _⟩
theorem LabsAt.get {w : World} {A : Option Addr} {l : List Lab.L} (h : LabsAt w A l) {k : Nat} (hk : k < l.length) : ∃ b off, A = some ⟨b, off, none⟩ ∧ w.cell? ⟨b, off + k * 2, none⟩ = some (.int .u16 (l[k].1 : Int)) ∧ w.cell? ⟨b, off + k * 2 + 1, none⟩ = some (.int .u16 (l[k].2 : Int)) := by
  rcases h with h | ⟨b, off, h1, h2⟩
  · rw [h] at hk; simp at hk
  · exact ⟨b, off, h1, h2 k hk⟩
end Go.Proofs.YtlmacaenbililaaGreatDoor
namespace Go.Proofs.YtlmacaenbililaaGreatDoor
open Go.RowKit Go.Shelf
set_option linter.unusedSimpArgs false
set_option linter.unusedVariables false

theorem bytes_split (s : ByteArray) (k : Nat) (h : k < s.size) : s.data.toList = s.data.toList.take k ++ s[k] :: s.data.toList.drop (k + 1) := by
  have hk : k < s.data.toList.length := by rw [Array.length_toList]; exact h
  rw [show s[k] = s.data.toList[k] from rfl, List.getElem_cons_drop, List.take_append_drop]
theorem extract_take (s : ByteArray) (k : Nat) : (s.extract 0 k).data.toList = s.data.toList.take k := by simp [ByteArray.data_extract]
theorem extract_drop (s : ByteArray) (k : Nat) : (s.extract k s.size).data.toList = s.data.toList.drop k := by
  have : s.data.toList.length = s.size := by rw [Array.length_toList]; rfl
  simp [ByteArray.data_extract]
  rw [List.take_of_length_le]
  rw [List.length_drop, this]
  exact Nat.le_refl _
set_option maxRecDepth 100000 in
set_option maxHeartbeats 2000000 in
theorem rlparse_ok (s : ByteArray) (hs : s.size ≤ 1000) (w : World) :
    Calls Tryz.prog 81 #[.string s] w fun e w' => e = .returned (match Lab.rparse s.data.toList with | some a => .tuple #[labV a, .bool true] | none => .tuple #[labV (0, 0), .bool false]) ∧ Below w.heap.size w w' := by
  obtain ⟨res, hres⟩ : ∃ res, res = Lab.rparse s.data.toList := ⟨_, rfl⟩
  rw [← hres]
  have HRES := Lib.hid hres
  clear hres
  go_enter Tryz.func81, Tryz.ntmps81
  go_wp2_with fail
  go_loopw [4, 5, 6, 7, 8] (fun i _ _ _ _ wr => ∃ (k : Nat), i = .int .i64 (k : Int) ∧ k ≤ s.size ∧ Hid (∀ b ∈ s.data.toList.take k, b ≠ 47) ∧ wr = w.alloc (.cells #[.int .u16 0, .int .u16 0] 25)) (fun i _ _ _ _ _ => s.size - (intOf i).toNat)
  case atStart => exact ⟨0, rfl, by omega, Lib.hid (by simp), rfl⟩
  case round =>
    obtain ⟨k, rfl, hk, hf, rfl⟩ := hrel
    by_cases hkl : k = s.size
    · have hno : Lab.rparse s.data.toList = none := by
        have h := hf.out
        have hl : s.data.toList.length = s.size := by rw [Array.length_toList]; rfl
        rw [List.take_of_length_le (by omega)] at h
        unfold Lab.rparse
        rw [Lab.cut_no 47 _ h]; rfl
      have hr : res = none := by rw [HRES.out, hno]
      subst hr
      clear hno
      subst hkl
      go_wp2_with fail
      exact bodyPost_ret (v := .tuple #[labV (0, 0), .bool false]) (by simp [results, Tryz.results81, go_sem]) rfl ⟨rfl, below_new (Below.refl _ _) _⟩
    · have hkn : k < s.size := by omega
      have hki : (k : Int) < (s.size : Int) := by omega
      have hsp := bytes_split s k hkn
      have htk : s.data.toList.take (k + 1) = s.data.toList.take k ++ [s[k]] := by
        have hk : k < s.data.toList.length := by rw [Array.length_toList]; exact hkn
        rw [List.take_succ_eq_append_getElem hk]; rfl
      by_cases hc : s[k] = 47
      · have hcb : ((s[k].toNat : Int) == 47) = true := by rw [hc]; rfl
        rw [hc] at hsp
        have hr : res = (match Tag.rparse (s.data.toList.take k), Tag.rparse (s.data.toList.drop (k + 1)) with | some a, some b => some (a, b) | _, _ => none) := by
          rw [HRES.out]
          unfold Lab.rparse
          rw [hsp, Lab.cut_at 47 _ _ hf.out]
          simp only [if_true]
          rw [← hsp]
          rfl
        have HX := Lib.hid (fun w => rparse_ok (s.extract 0 k) (by rw [ByteArray.size_extract]; omega) w)
        have HY := Lib.hid (fun w => rparse_ok (s.extract (k + 1) s.size) (by rw [ByteArray.size_extract]; omega) w)
        rw [extract_take] at HX
        rw [extract_drop] at HY
        generalize Tag.rparse (s.data.toList.take k) = rx at HX hr
        generalize Tag.rparse (s.data.toList.drop (k + 1)) = ry at HY hr
        have HAB := Lib.hid (show ∀ w : World, True from fun _ => trivial)
        have hk1 : (0 : Int) ≤ (k : Int) + 1 := by omega
        have hk2 : (k : Int) + 1 ≤ (s.size : Int) := by omega
        subst hr
        clear hc hsp htk hkl HRES hf
        cases rx <;> cases ry
        all_goals
          go_wp2_with (first
            | (go_at_call 125; have _h := HAB; refine (HX.out _).mono ?_; rintro e w1 ⟨rfl, hw1⟩; obtain rfl := hw1.symm; clear HAB)
            | (go_at_call 125; refine (HY.out _).mono ?_; rintro e w1 ⟨rfl, hw1⟩; obtain rfl := hw1.symm))
          first
            | exact bodyPost_ret (v := .tuple #[labV (0, 0), .bool false]) (by simp [results, Tryz.results81, go_sem]) rfl ⟨rfl, below_new (Below.refl _ _) _⟩
            | exact bodyPost_ret (v := .tuple #[labV (_, _), .bool true]) (by simp [results, Tryz.results81, go_sem]) rfl ⟨rfl, below_new (Below.refl _ _) _⟩
      · have hcb : ((s[k].toNat : Int) == 47) = false := by
          rw [beq_eq_false_iff_ne]
          intro h
          exact hc (UInt8.toNat_inj.1 (by have : (47 : UInt8).toNat = 47 := rfl; omega))
        have HN : Hid (∀ b ∈ s.data.toList.take (k + 1), b ≠ 47) := Lib.hid (by
          rw [htk]
          intro b hb
          rcases List.mem_append.1 hb with h | h
          · exact hf.out b h
          · rw [List.mem_singleton.1 h]; exact hc)
        clear hc hsp htk hkl
        go_wp2_with fail
        go_roundw
        case rel => exact ⟨k + 1, by go_num, by omega, HN, trivial⟩
        case measure => simp [intOf]; omega
end Go.Proofs.YtlmacaenbililaaGreatDoor
