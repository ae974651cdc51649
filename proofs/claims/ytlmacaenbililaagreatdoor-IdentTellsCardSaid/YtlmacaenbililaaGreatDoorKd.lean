/- Package wire and ident.Write: a name written; what is done; a reader; numbers read. Package wire: a reader; numbers read; ident.Read; what is left. Package ident: Read, of a name's bytes. No conditions. -/
import Derived.Test.YtlmacaenbililaaGreatDoorWire
import Derived.Outline
import Derived.Test.YtlmacaenbililaaGreatDoorKind
import Derived.WalkSpells
namespace Go.Proofs.YtlmacaenbililaaGreatDoor
open Go.RowKit Go.Shelf
set_option linter.unusedSimpArgs false
set_option linter.unusedVariables false
attribute [local go_sem] cell_over frozen_over

namespace Idn
/-- A name's bytes. -/
def bytes (x : I) : List Int := [((x.1.1 / 256 : Nat) : Int), ((x.1.1 % 256 : Nat) : Int), ((x.1.2 / 256 : Nat) : Int), ((x.1.2 % 256 : Nat) : Int), x.2.1, x.2.2]
end Idn
theorem KeptU.box {p q : Nat} {w w' : World} {c : Array Value} {t : TypeId} (h : KeptU p w w') (hq : w.heap[q]? = some (.cells c t (0, 0))) (hne : q ≠ p) (ht : t ≠ 5) : w'.heap[q]? = some (.cells c t (0, 0)) :=
  h.2.2 q _ hne hq (fun c' fz e => by injection e with e1 e2; exact ht e2)
set_option maxRecDepth 100000 in
set_option maxHeartbeats 2000000 in
theorem iwrite_ok (p : Nat) (x : Idn.I) (hx : Lab.ok x.1) (hf : Idn.fine x = true) (bs : List Int) (hbs : bs.length ≤ 1000) (w : World) (hW : WrAt p bs w) :
    Calls Tryz.prog 87 #[.pointer (some ⟨p, 0, none⟩), idV x] w fun e w' => e = .returned (.tuple #[]) ∧ WrAt p (bs ++ Idn.bytes x) w' ∧ KeptU p w w' := by
  obtain ⟨⟨a, b⟩, k, n⟩ := x
  obtain ⟨ha, hb⟩ := hx
  obtain ⟨h1, h2, h3, h4⟩ := Idn.fine_iff.1 hf
  simp only at h1 h2 h3 h4 ha hb
  have HW := Lib.hid (hW.below (below_new (Below.refl _ _) (.cells #[.int .u16 (a : Int), .int .u16 (b : Int), .int .i64 k, .int .i64 n] 64)))
  have hpl : p < w.heap.size := by obtain ⟨v, h1, _⟩ := hW; exact (Array.getElem?_eq_some_iff.1 h1).1
  have HK := Lib.hid (KeptU.of_below (below_new (Below.refl w.heap.size w) (.cells #[.int .u16 (a : Int), .int .u16 (b : Int), .int .i64 k, .int .i64 n] 64)) (Nat.le_of_lt hpl))
  have HQ := Lib.hid (heap_alloc_new w (.cells #[.int .u16 (a : Int), .int .u16 (b : Int), .int .i64 k, .int .i64 n] 64))
  obtain ⟨k', rfl⟩ : ∃ k' : Nat, k = k' := ⟨k.toNat, by omega⟩
  obtain ⟨n', rfl⟩ : ∃ n' : Nat, n = n' := ⟨n.toNat, by omega⟩
  have N1 := Lib.hid (fun bs h w hW => wnum2_ok p a ha bs h w hW)
  have N2 := Lib.hid (fun bs h w hW => wnum2_ok p b hb bs h w hW)
  have N3 := Lib.hid (fun bs h w hW => wnum1_ok p k' (by omega) bs h w hW)
  have N4 := Lib.hid (fun bs h w hW => wnum1_ok p n' (by omega) bs h w hW)
  have HBL := Lib.hid hbs
  clear hW hf hbs
  have hq : w.heap.size ≠ p := by omega
  have HNE := Lib.hid hq
  clear hq
  have HR : Hid (bs ++ [((a / 256 : Nat) : Int)] ++ [((a % 256 : Nat) : Int)] ++ [((b / 256 : Nat) : Int)] ++ [((b % 256 : Nat) : Int)] ++ [(k' : Int)] ++ [(n' : Int)] = bs ++ Idn.bytes ((a, b), (k' : Int), (n' : Int))) := Lib.hid (by simp [Idn.bytes])
  have HW0 := HW
  have h16a : ¬ (65535 : Int) < a := by omega
  go_enter Tryz.func87, Tryz.ntmps87
  go_wp2_with fail
  refine (N1.out bs (by have := HBL.out; omega) _ HW.out).mono ?_
  rintro e w1 ⟨rfl, hW1, hK1⟩
  have hq1 := hK1.box HQ.out HNE.out (by decide)
  obtain ⟨⟨x0, x1, x2, x3⟩, y0, y1, y2, y3, hpl1⟩ := quad_cells hq1
  have HQ1 := Lib.hid hq1
  have HW1 := Lib.hid hW1
  have HK1 := Lib.hid (HK.out.trans hK1)
  clear hq1 hW1 hK1
  go_wp2_with fail
  refine (N2.out _ (by have := HBL.out; simp; omega) _ HW1.out).mono ?_
  rintro e w2 ⟨rfl, hW2, hK2⟩
  clear x0 x1 x2 x3 y0 y1 y2 y3 hpl1
  have hq2 := hK2.box HQ1.out HNE.out (by decide)
  obtain ⟨⟨x0, x1, x2, x3⟩, y0, y1, y2, y3, hpl1⟩ := quad_cells hq2
  have HQ2 := Lib.hid hq2
  have HW2 := Lib.hid hW2
  have HK2 := Lib.hid (HK1.out.trans hK2)
  clear hq2 hW2 hK2
  go_wp2_with fail
  refine (N3.out _ (by have := HBL.out; simp; omega) _ HW2.out).mono ?_
  rintro e w3 ⟨rfl, hW3, hK3⟩
  clear x0 x1 x2 x3 y0 y1 y2 y3 hpl1
  have hq3 := hK3.box HQ2.out HNE.out (by decide)
  obtain ⟨⟨x0, x1, x2, x3⟩, y0, y1, y2, y3, hpl1⟩ := quad_cells hq3
  have HW3 := Lib.hid hW3
  have HK3 := Lib.hid (HK2.out.trans hK3)
  clear hq3 hW3 hK3
  go_wp2_with fail
  refine (N4.out _ (by have := HBL.out; simp; omega) _ HW3.out).mono ?_
  rintro e w4 ⟨rfl, hW4, hK4⟩
  have HW4 := Lib.hid hW4
  have HK4 := Lib.hid (HK3.out.trans hK4)
  clear hW4 hK4
  go_wp2_with fail
  go_end0
  exact ⟨rfl, by rw [← HR.out]; exact HW4.out, HK4.out⟩
set_option maxRecDepth 100000 in
theorem done_ok (p : Nat) (bs : List Int) (hbs : bs.length ≤ 1000) (h0 : bs ≠ []) (w : World) (hW : WrAt p bs w) :
    Calls Tryz.prog 88 #[.pointer (some ⟨p, 0, none⟩)] w fun e w' => ∃ g cap, e = .returned (.tuple #[.slice (some ⟨g, 0, none⟩) bs.length cap, .int .i64 0]) ∧ w'.ownsRow w.heap.size 5 1 (.slice (some ⟨g, 0, none⟩) bs.length cap) bs.length (u8s bs) ∧ Below w.heap.size w w' := by
  obtain ⟨v, hv, hown⟩ := hW
  obtain ⟨q0, q1, q2, q3⟩ := pair_cells hv
  obtain ⟨l0, hl0⟩ : ∃ m, bs.length = m + 1 := by cases bs with | nil => exact absurd rfl h0 | cons a l => exact ⟨l.length, rfl⟩
  obtain ⟨g, cap, rfl⟩ : ∃ g cap, v = .slice (some ⟨g, 0, none⟩) bs.length cap := by
    rw [hl0] at hown ⊢; exact own_succ hown
  have HC := Lib.hid (fun W (hb : Below w.heap.size w W) => Tryz.bytes_Clone_at ⟨g, 0, none⟩ bs.length cap bs W rfl (by omega) (fun i hi => (own_below hown hb).cells (g := g) (by simp [Value.ownBlock]) i _ (by simp [u8s, List.getD_eq_getElem?_getD, hi])))
  have HL := Lib.hid hl0
  clear hown hv h0 hl0
  go_enter Tryz.func88, Tryz.ntmps88
  go_wp2_with (go_at_call 161; refine (HC.out _ (Below.refl _ _)).mono ?_; rintro e w1 ⟨v', rfl, ho, hn, hb⟩; have HO := Lib.hid ho; have HB := Lib.hid hb; clear ho hn hb)
  obtain ⟨g', cap', rfl⟩ : ∃ g' cap', v' = .slice (some ⟨g', 0, none⟩) bs.length cap' := by
    have h := HO.out; rw [HL.out] at h ⊢; exact own_succ h
  go_ret2
  exact ⟨g', cap', rfl, HO.out, HB.out⟩
end Go.Proofs.YtlmacaenbililaaGreatDoor
namespace Go.Proofs.YtlmacaenbililaaGreatDoor
open Go.RowKit Go.Shelf
set_option linter.unusedSimpArgs false
set_option linter.unusedVariables false
attribute [local go_sem] cell_over frozen_over

/-- A reader without error that has these bytes left. -/
def RdAt (q : Nat) (bs : List Int) (w : World) : Prop := ∃ g off cap, w.heap[q]? = some (.cells #[.int .i64 0, .slice (some ⟨g, off, none⟩) bs.length cap] 225 (0, 0)) ∧ g ≠ q ∧ bs.length ≤ cap ∧ cap ≤ 9223372036854775807 ∧ ∀ i (h : i < bs.length), w.cell? ⟨g, off + i, none⟩ = some (.int .u8 bs[i])
def KeptR (q : Nat) (w w' : World) : Prop := Below q w w' ∧ w.heap.size ≤ w'.heap.size ∧ ∀ k o, k ≠ q → w.heap[k]? = some o → w'.heap[k]? = some o
theorem KeptR.trans {p : Nat} {a b c : World} (h : KeptR p a b) (k : KeptR p b c) : KeptR p a c := ⟨h.1.trans k.1, Nat.le_trans h.2.1 k.2.1, fun x o hx h1 => k.2.2 x o hx (h.2.2 x o hx h1)⟩
theorem KeptR.of_below {p : Nat} {a b : World} (h : Below a.heap.size a b) (hp : p ≤ a.heap.size) : KeptR p a b := ⟨h.mono hp, h.size, fun x o _ h1 => block_below h h1⟩
theorem KeptR.set {p : Nat} {a b : World} (h : KeptR p a b) (o : Nat) (v : Value) : KeptR p a (b.setCell ⟨p, o, none⟩ v) := ⟨h.1.setCell (Nat.le_refl p) v, by simp [World.setCell]; exact h.2.1, fun x y hx h1 => by rw [Below.heap_setCell b ⟨p, o, none⟩ v x hx]; exact h.2.2 x y hx h1⟩
theorem RdAt.below {p : Nat} {bs : List Int} {w w' : World} (h : RdAt p bs w) (hb : Below w.heap.size w w') : RdAt p bs w' := by
  obtain ⟨g, off, cap, h1, h2, h3, h4, h5⟩ := h
  exact ⟨g, off, cap, block_below hb h1, h2, h3, h4, fun i hi => cell_on (h5 i hi) hb⟩
theorem RdAt.lt {p : Nat} {bs : List Int} {w : World} (h : RdAt p bs w) : p < w.heap.size := by
  obtain ⟨g, off, cap, h1, _⟩ := h; exact (Array.getElem?_eq_some_iff.1 h1).1
def TakeP (q n : Nat) (bs : List Int) (w : World) (e : Ending) (w' : World) : Prop := ∃ g off cap, e = .returned (.slice (some ⟨g, off, none⟩) n cap) ∧ (∀ i (h : i < (bs.take n).length), w'.cell? ⟨g, off + i, none⟩ = some (.int .u8 (bs.take n)[i])) ∧ RdAt q (bs.drop n) w' ∧ KeptR q w w'
theorem take_fin {q n g off off' cap : Nat} {bs : List Int} {w : World} (hn : n ≤ bs.length) (hv : w.heap[q]? = some (.cells #[.int .i64 0, .slice (some ⟨g, off, none⟩) bs.length cap] 225 (0, 0))) (hg : g ≠ q) (hlc : bs.length ≤ cap) (hcap : cap ≤ 9223372036854775807)
    (hcell : ∀ i (h : i < bs.length), w.cell? ⟨g, off + i, none⟩ = some (.int .u8 bs[i])) (ho : off' = off + n ∨ n = cap) :
    TakeP q n bs w (.returned (.slice (some ⟨g, off, none⟩) n cap)) (w.setCell ⟨q, 1, none⟩ (.slice (some ⟨g, off', none⟩) (bs.length - n) (cap - n))) := by
  have hq := (Array.getElem?_eq_some_iff.1 hv).1
  have hsame : ∀ o, (w.setCell ⟨q, 1, none⟩ (.slice (some ⟨g, off', none⟩) (bs.length - n) (cap - n))).cell? ⟨g, o, none⟩ = w.cell? ⟨g, o, none⟩ := fun o => World.cell?_of_block (Below.heap_setCell w ⟨q, 1, none⟩ _ g hg)
  refine ⟨g, off, cap, rfl, fun i hi => ?_, ⟨g, off', cap - n, ?_, hg, by rw [List.length_drop]; omega, by omega, fun i hi => ?_⟩, KeptR.set (KeptR.of_below (Below.refl _ _) (Nat.le_of_lt hq)) 1 _⟩
  · rw [List.length_take] at hi
    rw [hsame, hcell i (by omega), List.getElem_take]
  · rw [List.length_drop]; exact pair_set1 hv
  · rw [List.length_drop] at hi
    rcases ho with rfl | rfl
    · rw [hsame, Nat.add_assoc, hcell (n + i) (by omega), List.getElem_drop]
    · omega
set_option maxRecDepth 100000 in
set_option maxHeartbeats 1000000 in
theorem take_ok (q n : Nat) (bs : List Int) (hn : n ≤ bs.length) (w : World) (hW : RdAt q bs w) :
    Calls Tryz.prog 217 #[.pointer (some ⟨q, 0, none⟩), .int .i64 (n : Int)] w (TakeP q n bs w) := by
  have hq := hW.lt
  obtain ⟨g, off, cap, hv, hg, hlc, hcap, hcell⟩ := hW
  obtain ⟨q0, q1, q2, q3⟩ := pair_cells hv
  have HF := Lib.hid (fun off' ho => take_fin (off' := off') hn hv hg hlc hcap hcell ho)
  have hni : ¬ (bs.length : Int) < n := by omega
  have hni' : (n : Int) ≤ bs.length := by omega
  have hnc : (n : Int) ≤ cap := by omega
  have hlc' : (bs.length : Int) ≤ cap := by omega
  clear hv hcell hg hn
  by_cases hcn : n = cap
  · have HCN := Lib.hid (HF.out off (.inr hcn))
    have hcn' : (cap == n) = true := by simpa using hcn.symm
    have hcn2 : cap = n := hcn.symm
    clear hcn
    have hcc : ∀ W, (Instr.slice 144 (.slice (some ⟨g, off, none⟩) bs.length cap) (some (.int .i64 (n : Int))) none none).run Tryz.prog W = .ok (.slice (some ⟨g, off, none⟩) (bs.length - n) (cap - n)) W := fun W => by
      rw [run_slice_l W 144 _ _ _ Tryz.underlying144 .i64 (n : Int) (by omega) hni']
      have hz : (sizeOf (Tryz.prog.elem 144)).run Tryz.prog W = .ok 1 W := by kernel_rfl
      rw [hz]
      simp [Result.andThen, sliced, hcn2]
    clear hcn2 hcn'
    go_enter Tryz.func217, Tryz.ntmps217
    go_wp2_with fail
    go_ret
    exact HCN.out
  · have HCN := Lib.hid (HF.out (off + n) (.inl rfl))
    have hcn' : (cap == n) = false := by simpa using (Ne.symm hcn)
    go_enter Tryz.func217, Tryz.ntmps217
    go_wp2_with fail
    go_ret
    exact HCN.out
theorem newreader_ok (g cap : Nat) (bs : List Int) (hb : bs.length ≤ 1000) (w : World) (ho : w.ownsRow 0 5 1 (.slice (some ⟨g, 0, none⟩) bs.length cap) bs.length (u8s bs)) (hc : cap ≤ 9223372036854775807) :
    Calls Tryz.prog 89 #[.slice (some ⟨g, 0, none⟩) bs.length cap] w fun e w' => ∃ q, e = .returned (.pointer (some ⟨q, 0, none⟩)) ∧ w.heap.size ≤ q ∧ RdAt q bs w' ∧ Below w.heap.size w w' := by
  have hg : g < w.heap.size := (ho.lt g rfl).2
  have hcell : ∀ i (h : i < bs.length), w.cell? ⟨g, 0 + i, none⟩ = some (.int .u8 bs[i]) := fun i hi => by
    have h := ho.cells (g := g) rfl i (.int .u8 bs[i]) (by simp [u8s, hi])
    rw [addr_mid] at h; exact h
  have hcl : bs.length ≤ cap := by
    rcases ho.2 with ⟨h, _⟩ | ⟨g', cap', cur, h, _, _, h4, _⟩
    · cases h
    · simp only [Value.slice.injEq] at h; omega
  have HR : Hid (RdAt w.heap.size bs (w.alloc (.cells #[.int .i64 0, .slice (some ⟨g, 0, none⟩) bs.length cap] 225))) := Lib.hid ⟨g, 0, cap, heap_alloc_new w _, by omega, hcl, hc, fun i hi => cell_on (hcell i hi) (below_fresh w _)⟩
  clear hcell ho
  go_enter Tryz.func89, Tryz.ntmps89
  go_wp2_with fail
  go_ret
  exact ⟨w.heap.size, rfl, Nat.le_refl _, HR.out, below_fresh _ _⟩
theorem left_ok (q : Nat) (bs : List Int) (w : World) (hW : RdAt q bs w) : Calls Tryz.prog 91 #[.pointer (some ⟨q, 0, none⟩)] w fun e w' => e = .returned (.int .i64 (bs.length : Int)) ∧ w' = w := by
  obtain ⟨g, off, cap, hv, hg, hlc, hcap, hcell⟩ := hW
  obtain ⟨q0, q1, q2, q3⟩ := pair_cells hv
  clear hcell hg hv
  go_enter Tryz.func91, Tryz.ntmps91
  go_wp2_with fail
  go_ret
  exact ⟨rfl, rfl⟩
theorem rerr_ok (q : Nat) (bs : List Int) (w : World) (hW : RdAt q bs w) : Calls Tryz.prog 164 #[.pointer (some ⟨q, 0, none⟩)] w fun e w' => e = .returned (.int .i64 0) ∧ w' = w := by
  obtain ⟨g, off, cap, hv, hg, hlc, hcap, hcell⟩ := hW
  obtain ⟨q0, q1, q2, q3⟩ := pair_cells hv
  clear hcell hg hv
  go_enter Tryz.func164, Tryz.ntmps164
  go_wp2_with fail
  go_ret
  exact ⟨rfl, rfl⟩
theorem wraps_i64 (n : Int) (h₀ : 0 ≤ n) (h₁ : n < 2 ^ 62) : IntKind.i64.wrap n = n := IntWalk.i64_in _ (by omega)
theorem i64_or_zero (x : Int) (h0 : 0 ≤ x) (h1 : x ≤ 255) : bits .or .i64 0 x = x := by
  obtain ⟨n, rfl⟩ : ∃ n : Nat, x = n := ⟨x.toNat, by omega⟩
  have h := (bits_nat .i64 62 (by decide) wraps_i64 0 n (by decide) (by omega)).2
  simpa using h
theorem i64_or_byte (x y : Int) (h0 : 0 ≤ x) (h1 : x ≤ 255) (k0 : 0 ≤ y) (k1 : y ≤ 255) : bits .or .i64 (x * 256) y = x * 256 + y := by
  obtain ⟨n, rfl⟩ : ∃ n : Nat, x = n := ⟨x.toNat, by omega⟩
  obtain ⟨m, rfl⟩ : ∃ m : Nat, y = m := ⟨y.toNat, by omega⟩
  have h := (bits_nat .i64 62 (by decide) wraps_i64 (n * 256) m (by omega) (by omega)).2
  rw [show ((n : Int) * 256) = ((n * 256 : Nat) : Int) by omega, h]
  have e : n * 256 ||| m = n * 256 + m := by
    have := Nat.shiftLeft_add_eq_or_of_lt (a := n) (b := m) (i := 8) (by omega)
    rw [Nat.shiftLeft_eq] at this
    exact this.symm
  rw [e]; omega
set_option maxRecDepth 100000 in
set_option maxHeartbeats 1000000 in
theorem rnum1_ok (q : Nat) (x : Int) (bs : List Int) (most : Int) (hx0 : 0 ≤ x) (hx1 : x ≤ 255) (hxm : x ≤ most) (w : World) (hW : RdAt q (x :: bs) w) :
    Calls Tryz.prog 162 #[.pointer (some ⟨q, 0, none⟩), .int .i64 1, .int .i64 most] w fun e w' => e = .returned (.int .i64 x) ∧ RdAt q bs w' ∧ KeptR q w w' := by
  have hq := hW.lt
  have HT := Lib.hid (take_ok q 1 (x :: bs) (by simp) w hW)
  obtain ⟨g, off, cap, hv, hg, hlc, hcap, hcell⟩ := hW
  obtain ⟨q0, q1, q2, q3⟩ := pair_cells hv
  clear hcell hg hv hlc hcap
  have hm : ¬ most < x := by omega
  have hwx : IntKind.i64.wrap x = x := IntWalk.i64_in _ (by omega)
  have hox : bits .or .i64 0 x = x := i64_or_zero x (by omega) (by omega)
  go_enter Tryz.func162, Tryz.ntmps162
  go_wp2_with (go_at_call 217; refine HT.out.mono ?_; rintro e w1 ⟨g1, off1, cap1, rfl, hc1, hR1, hK1⟩; have HR1 := Lib.hid hR1; have HK1 := Lib.hid hK1; have hc0 : w1.cell? ⟨g1, off1, none⟩ = some (.int .u8 x) := hc1 0 (by simp); clear hc1 hR1 hK1 q0 q1 q2 q3)
  go_loopw [7, 32] (fun n i wr => wr = w1 ∧ ((n = .int .i64 0 ∧ i = .int .i64 0) ∨ (n = .int .i64 x ∧ i = .int .i64 1))) (fun _ i _ => (1 - intOf i).toNat)
  case atStart => exact ⟨rfl, .inl ⟨rfl, rfl⟩⟩
  case round =>
    rcases hrel with ⟨rfl, ⟨rfl, rfl⟩ | ⟨rfl, rfl⟩⟩
    · go_wp2_with fail
      go_roundw
      case rel => exact ⟨trivial, (.inr ⟨rfl, rfl⟩)⟩
      case measure => simp [intOf]
    · have hq1 := HR1.out
      obtain ⟨g2, off2, cap2, hv, hg, hlc, hcap, hcell⟩ := hq1
      obtain ⟨q0, q1, q2, q3⟩ := pair_cells hv
      clear hcell hg hv hlc hcap
      go_wp2_with fail
      go_ret
      exact ⟨rfl, HR1.out, HK1.out⟩
set_option maxRecDepth 100000 in
set_option maxHeartbeats 1000000 in
theorem rnum2_ok (q : Nat) (x y : Int) (bs : List Int) (most : Int) (hx0 : 0 ≤ x) (hx1 : x ≤ 255) (hy0 : 0 ≤ y) (hy1 : y ≤ 255) (hxm : (x * 256 + y) ≤ most) (w : World) (hW : RdAt q (x :: y :: bs) w) :
    Calls Tryz.prog 162 #[.pointer (some ⟨q, 0, none⟩), .int .i64 2, .int .i64 most] w fun e w' => e = .returned (.int .i64 (x * 256 + y)) ∧ RdAt q bs w' ∧ KeptR q w w' := by
  have hq := hW.lt
  have HT := Lib.hid (take_ok q 2 (x :: y :: bs) (by simp) w hW)
  obtain ⟨g, off, cap, hv, hg, hlc, hcap, hcell⟩ := hW
  obtain ⟨q0, q1, q2, q3⟩ := pair_cells hv
  clear hcell hg hv hlc hcap
  have hm : ¬ most < (x * 256 + y) := by omega
  have hwx : IntKind.i64.wrap x = x := IntWalk.i64_in _ (by omega)
  have hox : bits .or .i64 0 x = x := i64_or_zero x (by omega) (by omega)
  have hwy : IntKind.i64.wrap y = y := IntWalk.i64_in _ (by omega)
  have hoy : bits .or .i64 0 y = y := i64_or_zero y (by omega) (by omega)
  have hor : bits .or .i64 (x * 256) y = x * 256 + y := i64_or_byte x y (by omega) (by omega) (by omega) (by omega)
  go_enter Tryz.func162, Tryz.ntmps162
  go_wp2_with (go_at_call 217; refine HT.out.mono ?_; rintro e w1 ⟨g1, off1, cap1, rfl, hc1, hR1, hK1⟩; have HR1 := Lib.hid hR1; have HK1 := Lib.hid hK1; have hc0 : w1.cell? ⟨g1, off1, none⟩ = some (.int .u8 x) := hc1 0 (by simp); have hcy : w1.cell? ⟨g1, off1 + 1, none⟩ = some (.int .u8 y) := hc1 1 (by simp); clear hc1 hR1 hK1 q0 q1 q2 q3)
  go_loopw [7, 32] (fun n i wr => wr = w1 ∧ ((n = .int .i64 0 ∧ i = .int .i64 0) ∨ (n = .int .i64 x ∧ i = .int .i64 1) ∨ (n = .int .i64 (x * 256 + y) ∧ i = .int .i64 2))) (fun _ i _ => (2 - intOf i).toNat)
  case atStart => exact ⟨rfl, .inl ⟨rfl, rfl⟩⟩
  case round =>
    rcases hrel with ⟨rfl, ⟨rfl, rfl⟩ | ⟨rfl, rfl⟩ | ⟨rfl, rfl⟩⟩
    · go_wp2_with fail
      go_roundw
      case rel => exact ⟨trivial, (.inr (.inl ⟨rfl, rfl⟩))⟩
      case measure => simp [intOf]
    · go_wp2_with fail
      go_roundw
      case rel => exact ⟨trivial, (.inr (.inr ⟨rfl, rfl⟩))⟩
      case measure => simp [intOf]
    · have hq1 := HR1.out
      obtain ⟨g2, off2, cap2, hv, hg, hlc, hcap, hcell⟩ := hq1
      obtain ⟨q0, q1, q2, q3⟩ := pair_cells hv
      clear hcell hg hv hlc hcap
      go_wp2_with fail
      go_ret
      exact ⟨rfl, HR1.out, HK1.out⟩
end Go.Proofs.YtlmacaenbililaaGreatDoor
namespace Go.Proofs.YtlmacaenbililaaGreatDoor
open Go.RowKit Go.Shelf
set_option linter.unusedSimpArgs false
set_option linter.unusedVariables false
attribute [local go_sem] cell_over frozen_over

theorem KeptR.box {q r : Nat} {w w' : World} {o : Obj} (h : KeptR q w w') (hq : w.heap[r]? = some o) (hne : r ≠ q) : w'.heap[r]? = some o := h.2.2 r o hne hq
theorem KeptR.quad {q r : Nat} {w w' : World} (h : KeptR q w w') (hr : w.heap.size ≤ r) (hq : q ≤ r) (y0 y1 y2 y3 : Value) : KeptR q w ((((w'.setCell ⟨r, 0, none⟩ y0).setCell ⟨r, 1, none⟩ y1).setCell ⟨r, 2, none⟩ y2).setCell ⟨r, 3, none⟩ y3) := by
  refine ⟨below_quad h.1 hq _ _ _ _, ?_, fun k o hk h1 => ?_⟩
  · have := (setCells_rest r [y0, y1, y2, y3] 0 w').2.2.2
    exact Nat.le_trans h.2.1 (Nat.le_of_eq this.symm)
  · have hlt := (Array.getElem?_eq_some_iff.1 h1).1
    exact (heap_setCells_other r [y0, y1, y2, y3] 0 w' k (by omega)).trans (h.2.2 k o hk h1)
theorem RdAt.quad {q r : Nat} {w : World} (h : RdAt q [] w) (hr : r ≠ q) (y0 y1 y2 y3 : Value) : RdAt q [] ((((w.setCell ⟨r, 0, none⟩ y0).setCell ⟨r, 1, none⟩ y1).setCell ⟨r, 2, none⟩ y2).setCell ⟨r, 3, none⟩ y3) := by
  obtain ⟨g, off, cap, h1, h2, h3, h4, h5⟩ := h
  exact ⟨g, off, cap, (heap_setCells_other r [y0, y1, y2, y3] 0 w q (Ne.symm hr)).trans h1, h2, h3, h4, fun i hi => absurd hi (Nat.not_lt_zero _)⟩
set_option maxRecDepth 100000 in
set_option maxHeartbeats 4000000 in
theorem iread_ok (q : Nat) (x : Idn.I) (hx : Lab.ok x.1) (hf : Idn.fine x = true) (w : World) (hW : RdAt q (Idn.bytes x) w) :
    Calls Tryz.prog 90 #[.pointer (some ⟨q, 0, none⟩)] w fun e w' => e = .returned (idV x) ∧ RdAt q [] w' ∧ KeptR q w w' := by
  have hq := hW.lt
  obtain ⟨⟨a, b⟩, k, n⟩ := x
  obtain ⟨ha, hb⟩ := hx
  have HFI := Lib.hid (fine_ok ((a, b), k, n))
  rw [hf] at HFI
  obtain ⟨h1, h2, h3, h4⟩ := Idn.fine_iff.1 hf
  simp only at h1 h2 h3 h4 ha hb
  have hW' := hW
  unfold Idn.bytes at hW'
  simp only at hW'
  have ea : ((a / 256 : Nat) : Int) * 256 + ((a % 256 : Nat) : Int) = (a : Int) := by omega
  have eb : ((b / 256 : Nat) : Int) * 256 + ((b % 256 : Nat) : Int) = (b : Int) := by omega
  have N1 := Lib.hid (fun w h => rnum2_ok q ((a / 256 : Nat) : Int) ((a % 256 : Nat) : Int) [((b / 256 : Nat) : Int), ((b % 256 : Nat) : Int), k, n] 65535 (by omega) (by omega) (by omega) (by omega) (by omega) w h)
  have N2 := Lib.hid (fun w h => rnum2_ok q ((b / 256 : Nat) : Int) ((b % 256 : Nat) : Int) [k, n] 65535 (by omega) (by omega) (by omega) (by omega) (by omega) w h)
  have N3 := Lib.hid (fun w h => rnum1_ok q k [n] 3 (by omega) (by omega) (by omega) w h)
  have N4 := Lib.hid (fun w h => rnum1_ok q n [] 3 (by omega) (by omega) (by omega) w h)
  simp only [ea] at N1
  simp only [eb] at N2
  generalize [((b / 256 : Nat) : Int), ((b % 256 : Nat) : Int), k, n] = l1 at N1 N2 hW'
  have hB0 := below_fresh w (.cells #[.int .u16 0, .int .u16 0, .int .i64 0, .int .i64 0] 64)
  have HW := Lib.hid (hW'.below hB0)
  have HK := Lib.hid (KeptR.of_below hB0 (Nat.le_of_lt hq))
  have HR := Lib.hid (heap_alloc_new w (.cells #[.int .u16 0, .int .u16 0, .int .i64 0, .int .i64 0] 64))
  have hne : w.heap.size ≠ q := by omega
  have HNE := Lib.hid hne
  have hwa : IntKind.u16.wrap (a : Int) = a := wraps_u16 _ (by omega) (by omega)
  have hwb : IntKind.u16.wrap (b : Int) = b := wraps_u16 _ (by omega) (by omega)
  clear hW hW' hB0 hf ea eb hne
  go_enter Tryz.func90, Tryz.ntmps90
  go_wp2_with fail
  refine (N1.out _ HW.out).mono ?_
  rintro e w1 ⟨rfl, hW1, hK1⟩
  have HR1 := Lib.hid (hK1.box HR.out HNE.out)
  have HW1 := Lib.hid hW1
  have HK1 := Lib.hid (HK.out.trans hK1)
  clear hW1 hK1
  go_wp2_with fail
  refine (N2.out _ HW1.out).mono ?_
  rintro e w2 ⟨rfl, hW2, hK2⟩
  have HR2 := Lib.hid (hK2.box HR1.out HNE.out)
  have HW2 := Lib.hid hW2
  have HK2 := Lib.hid (HK1.out.trans hK2)
  clear hW2 hK2
  go_wp2_with fail
  refine (N3.out _ HW2.out).mono ?_
  rintro e w3 ⟨rfl, hW3, hK3⟩
  have HR3 := Lib.hid (hK3.box HR2.out HNE.out)
  have HW3 := Lib.hid hW3
  have HK3 := Lib.hid (HK2.out.trans hK3)
  clear hW3 hK3
  go_wp2_with fail
  refine (N4.out _ HW3.out).mono ?_
  rintro e w4 ⟨rfl, hW4, hK4⟩
  have HR4 := Lib.hid (hK4.box HR3.out HNE.out)
  have hB5 := below_fresh w4 (.cells #[.int .u16 (a : Int), .int .u16 (b : Int), .int .i64 k, .int .i64 n] 64)
  have HW5 := Lib.hid (hW4.below hB5)
  have HR5 := Lib.hid (block_below hB5 HR4.out)
  have HB5 := Lib.hid hB5
  have HQ5 := Lib.hid (heap_alloc_new w4 (.cells #[.int .u16 (a : Int), .int .u16 (b : Int), .int .i64 k, .int .i64 n] 64))
  have HK4 := Lib.hid ((HK3.out.trans hK4).trans (KeptR.of_below hB5 (Nat.le_of_lt (hW4.lt))))
  clear hW4 hK4 hB5
  go_upto_region 3 with (fail)
  generalize w4.alloc (.cells #[.int .u16 (a : Int), .int .u16 (b : Int), .int .i64 k, .int .i64 n] 64) = w5 at HW5 HR5 HB5 HQ5 HK4 ⊢
  generalize w4.heap.size = n5 at HQ5 HB5 ⊢
  obtain ⟨⟨x0, x1, x2, x3⟩, y0, y1, y2, y3, hpl1⟩ := quad_cells HQ5.out
  go_wp2_with (first
    | (go_at_call 31; refine (HFI.out _).mono ?_; rintro e w6 ⟨rfl, hb6⟩; have HW6 := Lib.hid (HW5.out.below hb6); have HB6 := Lib.hid hb6; have HQ6 := Lib.hid (block_below hb6 HQ5.out); have HR6 := Lib.hid (block_below hb6 HR5.out); clear hb6 x0 x1 x2 x3 y0 y1 y2 y3 hpl1)
    | (go_at_call 164; refine (rerr_ok q _ _ HW6.out).mono ?_; rintro e w7 ⟨rfl, hw7⟩; obtain rfl := hw7.symm; obtain ⟨⟨x0, x1, x2, x3⟩, y0, y1, y2, y3, hpl1⟩ := quad_cells HQ6.out; obtain ⟨⟨c0, c1, c2, c3⟩, f0, f1, f2, f3, hrl⟩ := quad_cells HR6.out))
  have hK6 := (HK4.out.trans (KeptR.of_below HB6.out (Nat.le_of_lt HW5.out.lt)))
  refine id_ret Tryz.results90 w.heap.size rfl ((a, b), k, n) (set_quad' _ _ _ _ _ _ _ _ _ _ _ HR6.out) rfl ⟨rfl, HW6.out.quad HNE.out _ _ _ _, hK6.quad (Nat.le_refl _) (Nat.le_of_lt hq) _ _ _ _⟩
end Go.Proofs.YtlmacaenbililaaGreatDoor
