/- Package tagset: Each, as an iterator. No conditions. -/
import Derived.Test.YtlmacaenbililaaGreatDoorTbits
import Derived.Test.YtlmacaenbililaaGreatDoorIn
namespace Go.Proofs.YtlmacaenbililaaGreatDoor
open Go.RowKit
set_option linter.unusedSimpArgs false
set_option linter.unusedVariables false
attribute [local go_sem] Oper.semAt_some

/-- The first N blocks lie as they lay. -/
def KeepsLow (N : Nat) (A B : World) : Prop := ∀ k, k < N → B.heap[k]? = A.heap[k]?
theorem keepsLow_t {N : Nat} {A B C : World} (h : KeepsLow N A B) (k : KeepsLow N B C) : KeepsLow N A C := fun q hq => (k q hq).trans (h q hq)
theorem keepsLow_b {N : Nat} {w : World} (hN : N ≤ w.heap.size) (W : World) (l : Nat) (o o' : Obj) (hl : w.heap.size ≤ l) (_ : W.heap[l]? = some o) (_ : o.isCells = false) (_ : o.isWalk = false) : KeepsLow N W (W.putObj l o') := fun q hq => by
  show (W.heap.setIfInBounds l o')[q]? = _
  rw [Array.getElem?_setIfInBounds_ne (by omega)]
theorem keepsLow_below {N : Nat} {A B : World} (hN : N ≤ A.heap.size) (h : Below A.heap.size A B) : KeepsLow N A B := fun q hq => h.block q (by omega)
theorem TabAt.keep {N : Nat} {A B : World} (hN : 0 < N) (hT : TabAt A) (h : KeepsLow N A B) : TabAt B := fun i hi => by
  rw [World.cell?_of_block (w := A) (a := ⟨0, i, none⟩) (h _ hN)]
  exact hT i hi
theorem TabAt.below {A B : World} (hT : TabAt A) (h : Below A.heap.size A B) : TabAt B := fun i hi => by
  have := hT i hi
  exact (h.cell (p := ⟨0, i, none⟩) (World.block_lt_of_cell? A _ this)).trans this
theorem u16_and (a b : Nat) (ha : a < 65536) (hb : b < 65536) : bits .and .u16 (a : Int) (b : Int) = ((a &&& b : Nat) : Int) := (bits_nat .u16 16 (by decide) wraps_u16 a b (by omega) (by omega)).1
set_option maxRecDepth 100000 in
set_option maxHeartbeats 1000000 in
theorem each1_in (n : Nat) (l b s N : Nat) (hs : s < 65536) (hN : 0 < N) (J Jx : List Nat → World → Prop)
    (hY : ∀ (pre : List Nat) (x : Nat) (W : World), J pre W → pre.length < (Tag.tags s).length → x < 16 → YieldAt Fence.wide (n - 1) Tryz.prog l #[.int .i64 (x : Int)] W fun e W' =>
      (e = .returned (.bool true) ∧ J (pre ++ [x]) W' ∧ KeepsLow N W W') ∨ (e = .returned (.bool false) ∧ Jx (pre ++ [x]) W'))
    (W : World) (hb : W.heap[b]? = some (.cells #[.int .u16 (s : Int)] 23 (0, 0))) (hT : TabAt W) (h0 : J [] W) :
    CallsIn Fence.wide n Tryz.prog 168 #[.func (.yield l) #[] #[], .pointer (some ⟨b, 0, none⟩)] W fun e W' => (∃ v, e = .returned v) ∧
      ((∃ ys, ys = Tag.tags s ∧ J ys W') ∨ (∃ pre, pre <+: Tag.tags s ∧ Jx pre W')) := by
  refine callsIn_of_wp Tryz.func168 rfl trivial ?_ rfl
  simp only [Tryz.ntmps168, List.size_toArray, List.length_cons, List.length_nil, Nat.reduceAdd, Nat.reduceSub, Array.replicate_succ, Array.replicate_zero, List.push_toArray, List.append_toArray, List.nil_append, List.cons_append]
  have hc := cell_of_one hb
  have HT := Lib.hid hT
  have HJ := Lib.hid h0
  clear hT h0
  gi_wp2
  gi_loopw [3] (fun i wr => ∃ (pre : List Nat) (t : Nat), i = .int .u16 (t : Int) ∧ Hid (Tag.tags s = pre ++ Tag.tags t) ∧ t < 65536 ∧ Hid (TabAt wr) ∧ Hid (J pre wr)) (fun i _ => (intOf i).toNat)
  case atStart => exact ⟨[], s, rfl, Lib.hid rfl, hs, HT, HJ⟩
  case round =>
    obtain ⟨pre, t, rfl, hp, ht, HT1, HJ1⟩ := hrel
    by_cases ht0 : t = 0
    · subst ht0
      gi_wp2
      go_end0
      refine ⟨⟨_, rfl⟩, .inl ⟨_, rfl, ?_⟩⟩
      have := hp.out
      rw [Tag.tags_zero, List.append_nil] at this
      rw [this]
      exact HJ1.out
    · have ht1 : 0 < t := by omega
      have hti : (0 : Int) < (t : Int) := by omega
      have hnz : ((t : Int) == 0) = false := by simp; omega
      obtain ⟨hz, hst, hlt⟩ := Tag.step ht1 ht
      have HG := Lib.hid (tz16 t wr ht1 ht HT1.out)
      obtain ⟨x, hx⟩ : ∃ x, x = Tag.tz t := ⟨_, rfl⟩
      rw [← hx] at HG hst
      have hx16 : x < 16 := by rw [hx]; exact hz
      have hlen : pre.length < (Tag.tags s).length := by rw [hp.out, hst, List.length_append, List.length_cons]; omega
      have hand := u16_and t (t - 1) ht (by omega)
      obtain ⟨t', ht'⟩ : ∃ t', t' = t &&& (t - 1) := ⟨_, rfl⟩
      rw [← ht'] at hst hlt hand
      have HST := Lib.hid hst
      have hw1 : ((t - 1 : Nat) : Int) = (t : Int) - 1 := by omega
      rw [hw1] at hand
      clear hx ht' hst ht0 hw1 hz
      gi_wp2_with (first | (refine ⟨trivial, (fun h => by cases h), ?_⟩; refine (callsIn_wide.2 HG.out).mono ?_; rintro e w1 ⟨rfl, rfl⟩))
      obtain ⟨fn, tmps, assign, body, hy, hR⟩ := hY pre x _ HJ1.out hlen hx16
      rw [hy, Oper.uponIn_round]
      refine ⟨(fun h => by cases h), ?_⟩
      refine hR.mono ?_
      rintro e W3 (⟨rfl, hJ3, hk3⟩ | ⟨rfl, hJx3⟩)
      · clear hy hR
        have HT3 := Lib.hid (TabAt.keep hN HT1.out hk3)
        have HJ3 := Lib.hid hJ3
        clear hJ3 hk3
        gi_wp2
        go_roundw
        case rel => exact ⟨pre ++ [x], t', rfl, Lib.hid (by rw [hp.out, HST.out]; simp), by omega, HT3, HJ3⟩
        case measure => simp [intOf]; omega
      · clear hy hR
        gi_wp2
        refine bodyPost_ret (results_none rfl _ _ _) rfl ?_
        refine ⟨⟨_, rfl⟩, .inr ⟨_, ?_, hJx3⟩⟩
        rw [hp.out, HST.out]
        exact ⟨Tag.tags t', by simp⟩
theorem each_ok (s : Nat) (w : World) : Calls Tryz.prog 105 #[.int .u16 (s : Int)] w fun e w' => e = .returned (.func (.func 168) #[] #[.pointer (some ⟨w.heap.size, 0, none⟩)]) ∧ w' = w.alloc (.cells #[.int .u16 (s : Int)] 23) := by
  go_enter Tryz.func105, Tryz.ntmps105
  go_wp2_with fail
  go_ret
  exact ⟨rfl, rfl⟩
theorem each_seq (n : Nat) (b s N : Nat) (hs : s < 65536) (w : World) (hN : 0 < N) (hb : w.heap[b]? = some (.cells #[.int .u16 (s : Int)] 23 (0, 0))) (hT : TabAt w) :
    SeqStopsK Fence.wide n Tryz.prog 168 #[.pointer (some ⟨b, 0, none⟩)] (fun x : Nat => #[.int .i64 (x : Int)]) (KeepsLow N) (fun ys => ys = Tag.tags s) (fun pre => pre <+: Tag.tags s) (Tag.tags s).length w := fun l J Jx W hW hJ _ hY h0 =>
  each1_in n l b s N hs hN J Jx (fun pre x W hj hl _ => hY pre x W hj hl) W (block_below hW hb) (hT.below hW) h0
/-- .. told with the bound on each tag. -/
theorem each_seqF (n : Nat) (b s N : Nat) (hs : s < 65536) (w : World) (hN : 0 < N) (hb : w.heap[b]? = some (.cells #[.int .u16 (s : Int)] 23 (0, 0))) (hT : TabAt w) :
    SeqStopsK Fence.wide n Tryz.prog 168 #[.pointer (some ⟨b, 0, none⟩)] (fun x : Fin 16 => #[.int .i64 (x.val : Int)]) (KeepsLow N) (fun ys => ys.map (·.val) = Tag.tags s) (fun pre => pre.map (·.val) <+: Tag.tags s) (Tag.tags s).length w := fun l J Jx W hW hJ _ hY h0 => by
  refine (each1_in n l b s N hs hN (fun pre W => ∃ p : List (Fin 16), p.map (·.val) = pre ∧ J p W) (fun pre W => ∃ p : List (Fin 16), p.map (·.val) = pre ∧ Jx p W) ?_ W (block_below hW hb) (hT.below hW) ⟨[], rfl, h0⟩).mono ?_
  · rintro pre x W ⟨p, rfl, hj⟩ hl hx
    rw [List.length_map] at hl
    obtain ⟨fn, tmps, assign, body, hy, hR⟩ := hY p ⟨x, hx⟩ W hj hl
    refine ⟨fn, tmps, assign, body, hy, hR.mono ?_⟩
    rintro e W' (⟨h1, h2, h3⟩ | ⟨h1, h2⟩)
    · exact .inl ⟨h1, ⟨p ++ [⟨x, hx⟩], by simp, h2⟩, h3⟩
    · exact .inr ⟨h1, p ++ [⟨x, hx⟩], by simp, h2⟩
  · rintro e W' ⟨h1, ⟨ys, rfl, p, hp, hj⟩ | ⟨pre, hpre, p, rfl, hj⟩⟩
    · exact ⟨h1, .inl ⟨p, hp, hj⟩⟩
    · exact ⟨h1, .inr ⟨p, hpre, hj⟩⟩
end Go.Proofs.YtlmacaenbililaaGreatDoor
