/- Package wire and ident.Write: a name written; what is done; a reader; numbers read. No conditions. -/
import Derived.Test.YtdjndnoiankicaaGreatDoorWire
import Derived.Outline
namespace Go.Proofs.YtdjndnoiankicaaGreatDoor
open Go.RowKit Go.Shelf
set_option linter.unusedSimpArgs false
set_option linter.unusedVariables false
attribute [local go_sem] cell_over frozen_over

namespace Idn
/-- A name's bytes. -/
def bytes (x : I) : List Int := [((x.1.1 / 256 : Nat) : Int), ((x.1.1 % 256 : Nat) : Int), ((x.1.2 / 256 : Nat) : Int), ((x.1.2 % 256 : Nat) : Int), x.2.1, x.2.2]
end Idn
theorem KeptU.box {p q : Nat} {w w' : World} {c : Array Value} {t : TypeId} (h : KeptU p w w') (hq : w.heap[q]? = some (.cells c t (0, 0))) (hne : q ≠ p) (ht : t ≠ 5) : w'.heap[q]? = some (.cells c t (0, 0)) :=
  h.2.2 q _ hne hq (fun c' fz e => by injection e with e1 e2; exact ht e2)
set_option maxRecDepth 100000 in
set_option maxHeartbeats 2000000 in
theorem iwrite_ok (p : Nat) (x : Idn.I) (hx : Lab.ok x.1) (hf : Idn.fine x = true) (bs : List Int) (hbs : bs.length ≤ 1000) (w : World) (hW : WrAt p bs w) :
    Calls Tryz.prog 93 #[.pointer (some ⟨p, 0, none⟩), idV x] w fun e w' => e = .returned (.tuple #[]) ∧ WrAt p (bs ++ Idn.bytes x) w' ∧ KeptU p w w' := by
  obtain ⟨⟨a, b⟩, k, n⟩ := x
  obtain ⟨ha, hb⟩ := hx
  obtain ⟨h1, h2, h3, h4⟩ := Idn.fine_iff.1 hf
  simp only at h1 h2 h3 h4 ha hb
  have HW := Lib.hid (hW.below (below_new (Below.refl _ _) (.cells #[.int .u16 (a : Int), .int .u16 (b : Int), .int .i64 k, .int .i64 n] 26)))
  have hpl : p < w.heap.size := by obtain ⟨v, h1, _⟩ := hW; exact (Array.getElem?_eq_some_iff.1 h1).1
  have HK := Lib.hid (KeptU.of_below (below_new (Below.refl w.heap.size w) (.cells #[.int .u16 (a : Int), .int .u16 (b : Int), .int .i64 k, .int .i64 n] 26)) (Nat.le_of_lt hpl))
  have HQ := Lib.hid (heap_alloc_new w (.cells #[.int .u16 (a : Int), .int .u16 (b : Int), .int .i64 k, .int .i64 n] 26))
  obtain ⟨k', rfl⟩ : ∃ k' : Nat, k = k' := ⟨k.toNat, by omega⟩
  obtain ⟨n', rfl⟩ : ∃ n' : Nat, n = n' := ⟨n.toNat, by omega⟩
  have N1 := Lib.hid (fun bs h w hW => wnum2_ok p a ha bs h w hW)
  have N2 := Lib.hid (fun bs h w hW => wnum2_ok p b hb bs h w hW)
  have N3 := Lib.hid (fun bs h w hW => wnum1_ok p k' (by omega) bs h w hW)
  have N4 := Lib.hid (fun bs h w hW => wnum1_ok p n' (by omega) bs h w hW)
  have HBL := Lib.hid hbs
  clear hW hf hbs
  have hq : w.heap.size ≠ p := by omega
  have HNE := Lib.hid hq
  clear hq
  have HR : Hid (bs ++ [((a / 256 : Nat) : Int)] ++ [((a % 256 : Nat) : Int)] ++ [((b / 256 : Nat) : Int)] ++ [((b % 256 : Nat) : Int)] ++ [(k' : Int)] ++ [(n' : Int)] = bs ++ Idn.bytes ((a, b), (k' : Int), (n' : Int))) := Lib.hid (by simp [Idn.bytes])
  have HW0 := HW
  have h16a : ¬ (65535 : Int) < a := by omega
  go_enter Tryz.func93, Tryz.ntmps93
  go_wp2_with fail
  refine (N1.out bs (by have := HBL.out; omega) _ HW.out).mono ?_
  rintro e w1 ⟨rfl, hW1, hK1⟩
  have hq1 := hK1.box HQ.out HNE.out (by decide)
  obtain ⟨⟨x0, x1, x2, x3⟩, y0, y1, y2, y3, hpl1⟩ := quad_cells hq1
  have HQ1 := Lib.hid hq1
  have HW1 := Lib.hid hW1
  have HK1 := Lib.hid (HK.out.trans hK1)
  clear hq1 hW1 hK1
  go_wp2_with fail
  refine (N2.out _ (by have := HBL.out; simp; omega) _ HW1.out).mono ?_
  rintro e w2 ⟨rfl, hW2, hK2⟩
  clear x0 x1 x2 x3 y0 y1 y2 y3 hpl1
  have hq2 := hK2.box HQ1.out HNE.out (by decide)
  obtain ⟨⟨x0, x1, x2, x3⟩, y0, y1, y2, y3, hpl1⟩ := quad_cells hq2
  have HQ2 := Lib.hid hq2
  have HW2 := Lib.hid hW2
  have HK2 := Lib.hid (HK1.out.trans hK2)
  clear hq2 hW2 hK2
  go_wp2_with fail
  refine (N3.out _ (by have := HBL.out; simp; omega) _ HW2.out).mono ?_
  rintro e w3 ⟨rfl, hW3, hK3⟩
  clear x0 x1 x2 x3 y0 y1 y2 y3 hpl1
  have hq3 := hK3.box HQ2.out HNE.out (by decide)
  obtain ⟨⟨x0, x1, x2, x3⟩, y0, y1, y2, y3, hpl1⟩ := quad_cells hq3
  have HW3 := Lib.hid hW3
  have HK3 := Lib.hid (HK2.out.trans hK3)
  clear hq3 hW3 hK3
  go_wp2_with fail
  refine (N4.out _ (by have := HBL.out; simp; omega) _ HW3.out).mono ?_
  rintro e w4 ⟨rfl, hW4, hK4⟩
  have HW4 := Lib.hid hW4
  have HK4 := Lib.hid (HK3.out.trans hK4)
  clear hW4 hK4
  go_wp2_with fail
  go_end0
  exact ⟨rfl, by rw [← HR.out]; exact HW4.out, HK4.out⟩
set_option maxRecDepth 100000 in
theorem done_ok (p : Nat) (bs : List Int) (hbs : bs.length ≤ 1000) (h0 : bs ≠ []) (w : World) (hW : WrAt p bs w) :
    Calls Tryz.prog 94 #[.pointer (some ⟨p, 0, none⟩)] w fun e w' => ∃ g cap, e = .returned (.tuple #[.slice (some ⟨g, 0, none⟩) bs.length cap, .int .i64 0]) ∧ w'.ownsRow w.heap.size 5 1 (.slice (some ⟨g, 0, none⟩) bs.length cap) bs.length (u8s bs) ∧ Below w.heap.size w w' := by
  obtain ⟨v, hv, hown⟩ := hW
  obtain ⟨q0, q1, q2, q3⟩ := pair_cells hv
  obtain ⟨l0, hl0⟩ : ∃ m, bs.length = m + 1 := by cases bs with | nil => exact absurd rfl h0 | cons a l => exact ⟨l.length, rfl⟩
  obtain ⟨g, cap, rfl⟩ : ∃ g cap, v = .slice (some ⟨g, 0, none⟩) bs.length cap := by
    rw [hl0] at hown ⊢; exact own_succ hown
  have HC := Lib.hid (fun W (hb : Below w.heap.size w W) => Tryz.bytes_Clone_at ⟨g, 0, none⟩ bs.length cap bs W rfl (by omega) (fun i hi => (own_below hown hb).cells (g := g) (by simp [Value.ownBlock]) i _ (by simp [u8s, List.getD_eq_getElem?_getD, hi])))
  have HL := Lib.hid hl0
  clear hown hv h0 hl0
  go_enter Tryz.func94, Tryz.ntmps94
  go_wp2_with (go_at_call 175; refine (HC.out _ (Below.refl _ _)).mono ?_; rintro e w1 ⟨v', rfl, ho, hn, hb⟩; have HO := Lib.hid ho; have HB := Lib.hid hb; clear ho hn hb)
  obtain ⟨g', cap', rfl⟩ : ∃ g' cap', v' = .slice (some ⟨g', 0, none⟩) bs.length cap' := by
    have h := HO.out; rw [HL.out] at h ⊢; exact own_succ h
  go_ret2
  exact ⟨g', cap', rfl, HO.out, HB.out⟩
end Go.Proofs.YtdjndnoiankicaaGreatDoor
