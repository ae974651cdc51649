/- The reference's labels (package forepeakref02): Flows, Join, Meet: what they return. No conditions. -/
import Derived.Test.YtdjndnoiankicaaGreatDoorLref
namespace Go.Proofs.YtdjndnoiankicaaGreatDoor
open Go.RowKit Go.Shelf
set_option linter.unusedSimpArgs false
set_option linter.unusedVariables false
attribute [local go_sem] cell_over frozen_over

namespace Lab
/-- Does a tag stand in the way? -/
def bars (a b : L) (k : Nat) : Bool := (a.1.testBit k && !b.1.testBit k) || (b.2.testBit k && !a.2.testBit k)
def flowsTo (a b : L) (k : Nat) : Bool := (List.range k).all fun t => !bars a b t
theorem flowsTo_all (a b : L) : flowsTo a b 16 = flows a b := by
  rw [Bool.eq_iff_iff, flows_spec]
  unfold flowsTo bars
  rw [List.all_eq_true]
  constructor
  · intro h
    refine ⟨fun t ht x => ?_, fun t ht x => ?_⟩
    · have := h t (List.mem_range.2 ht)
      simp only [x, Bool.true_and, Bool.not_or, Bool.not_not, Bool.and_eq_true] at this
      exact this.1
    · have := h t (List.mem_range.2 ht)
      simp only [x, Bool.true_and, Bool.not_or, Bool.not_not, Bool.and_eq_true] at this
      exact this.2
  · rintro ⟨h1, h2⟩ t ht
    have ht := List.mem_range.1 ht
    have k1 := h1 t ht
    have k2 := h2 t ht
    revert k1 k2
    cases a.1.testBit t <;> cases b.1.testBit t <;> cases b.2.testBit t <;> cases a.2.testBit t <;> simp
theorem flowsTo_succ (a b : L) (k : Nat) : flowsTo a b (k + 1) = (flowsTo a b k && !bars a b k) := by
  unfold flowsTo
  rw [List.range_succ, List.all_append]
  simp
theorem flows_stop {a b : L} {k : Nat} (hk : k < 16) (h : bars a b k = true) : flows a b = false := by
  cases hf : flows a b with
  | false => rfl
  | true =>
    rw [← flowsTo_all] at hf
    have := List.all_eq_true.1 hf k (List.mem_range.2 hk)
    rw [h] at this
    cases this
end Lab
set_option maxRecDepth 100000 in
set_option maxHeartbeats 2000000 in
theorem rflows_ok (a b : Lab.L) (ha : Lab.ok a) (hb : Lab.ok b) (w : World) : Calls Tryz.prog 196 #[labV a, labV b] w fun e w' => e = .returned (.bool (Lab.flows a b)) ∧ Below w.heap.size w w' := by
  go_enter Tryz.func196, Tryz.ntmps196
  go_wp2_with fail
  obtain ⟨w0, hw0⟩ : ∃ w0, w0 = (w.alloc (.cells #[.int .u16 (a.1 : Int), .int .u16 (a.2 : Int)] 24)).alloc (.cells #[.int .u16 (b.1 : Int), .int .u16 (b.2 : Int)] 24) := ⟨_, rfl⟩
  have HB : Hid (Below w.heap.size w w0) := Lib.hid (by rw [hw0]; exact below_new (below_new (Below.refl _ _) _) _)
  have h1 : w0.heap[w.heap.size]? = some (.cells #[.int .u16 (a.1 : Int), .int .u16 (a.2 : Int)] 24 (0, 0)) := by
    rw [hw0, Below.heap_alloc _ _ _ (by simp)]; exact heap_alloc_new _ _
  have h2 : w0.heap[w.heap.size + 1]? = some (.cells #[.int .u16 (b.1 : Int), .int .u16 (b.2 : Int)] 24 (0, 0)) := by
    have := heap_alloc_new (w.alloc (.cells #[.int .u16 (a.1 : Int), .int .u16 (a.2 : Int)] 24)) (.cells #[.int .u16 (b.1 : Int), .int .u16 (b.2 : Int)] 24)
    rw [World.size_alloc] at this
    rw [hw0]; exact this
  obtain ⟨a0, a1, _, _⟩ := pair_cells h1
  obtain ⟨b0, b1, _, _⟩ := pair_cells h2
  rw [← hw0]
  clear hw0 h1 h2
  go_loopw [5] (fun i wr => ∃ (k : Nat), i = .int .i64 (k : Int) ∧ k ≤ 16 ∧ Hid (Lab.flowsTo a b k = true) ∧ wr = w0) (fun i _ => 16 - (intOf i).toNat)
  case atStart => exact ⟨0, rfl, by omega, Lib.hid rfl, rfl⟩
  case round =>
    obtain ⟨k, rfl, hk, hf, rfl⟩ := hrel
    by_cases hk16 : k = 16
    · subst hk16
      go_wp2_with fail
      go_ret
      exact ⟨by rw [← Lab.flowsTo_all, hf.out]; rfl, HB.out⟩
    · have hkl : k < 16 := by omega
      have hki : (k : Int) < 16 := by omega
      have HS := Lib.hid (Lab.flowsTo_succ a b k)
      have HT := Lib.hid (fun h => Lab.flows_stop (a := a) (b := b) hkl h)
      rw [hf.out] at HS
      have HBA : Hid (Lab.bars a b k = ((a.1.testBit k && !b.1.testBit k) || (b.2.testBit k && !a.2.testBit k))) := Lib.hid rfl
      obtain ⟨ha1, ha2⟩ := ha
      obtain ⟨hb1, hb2⟩ := hb
      have HX := Lib.hid (fun w => hasb_ok a.1 ha1 k hkl w)
      have HY := Lib.hid (fun w => hasb_ok b.1 hb1 k hkl w)
      have HZ := Lib.hid (fun w => hasb_ok b.2 hb2 k hkl w)
      have HU := Lib.hid (fun w => hasb_ok a.2 ha2 k hkl w)
      generalize a.1.testBit k = x at HX HBA
      generalize b.1.testBit k = y at HY HBA
      generalize b.2.testBit k = z at HZ HBA
      generalize a.2.testBit k = u at HU HBA
      clear hk16
      cases x <;> cases y <;> cases z <;> cases u
      all_goals
        go_wp2_with (first
          | (go_at_call 119; ((with_reducible refine (HX.out _).mono ?_); rintro e w1 ⟨rfl, hw1⟩; obtain rfl := hw1.symm))
          | (go_at_call 119; ((with_reducible refine (HY.out _).mono ?_); rintro e w1 ⟨rfl, hw1⟩; obtain rfl := hw1.symm))
          | (go_at_call 119; ((with_reducible refine (HZ.out _).mono ?_); rintro e w1 ⟨rfl, hw1⟩; obtain rfl := hw1.symm))
          | (go_at_call 119; ((with_reducible refine (HU.out _).mono ?_); rintro e w1 ⟨rfl, hw1⟩; obtain rfl := hw1.symm)))
        first
          | (go_ret; exact ⟨by rw [HT.out (by rw [HBA.out]; rfl)]; rfl, HB.out⟩)
          | (go_roundw
             case rel => exact ⟨k + 1, by go_num, by omega, Lib.hid (by rw [HS.out, HBA.out]; rfl), trivial⟩
             case measure => simp [intOf]; omega)
end Go.Proofs.YtdjndnoiankicaaGreatDoor
