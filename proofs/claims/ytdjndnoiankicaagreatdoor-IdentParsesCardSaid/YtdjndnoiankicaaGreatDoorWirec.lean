/- Package wire: a reader; numbers read; ident.Read; what is left. No conditions. -/
import Derived.Test.YtdjndnoiankicaaGreatDoorWireb
import Derived.Test.YtdjndnoiankicaaGreatDoorKind
import Derived.WalkSpells
namespace Go.Proofs.YtdjndnoiankicaaGreatDoor
open Go.RowKit Go.Shelf
set_option linter.unusedSimpArgs false
set_option linter.unusedVariables false
attribute [local go_sem] cell_over frozen_over

/-- A reader without error that has these bytes left. -/
def RdAt (q : Nat) (bs : List Int) (w : World) : Prop := ∃ g off cap, w.heap[q]? = some (.cells #[.int .i64 0, .slice (some ⟨g, off, none⟩) bs.length cap] 247 (0, 0)) ∧ g ≠ q ∧ bs.length ≤ cap ∧ cap ≤ 9223372036854775807 ∧ ∀ i (h : i < bs.length), w.cell? ⟨g, off + i, none⟩ = some (.int .u8 bs[i])
def KeptR (q : Nat) (w w' : World) : Prop := Below q w w' ∧ w.heap.size ≤ w'.heap.size ∧ ∀ k o, k ≠ q → w.heap[k]? = some o → w'.heap[k]? = some o
theorem KeptR.trans {p : Nat} {a b c : World} (h : KeptR p a b) (k : KeptR p b c) : KeptR p a c := ⟨h.1.trans k.1, Nat.le_trans h.2.1 k.2.1, fun x o hx h1 => k.2.2 x o hx (h.2.2 x o hx h1)⟩
theorem KeptR.of_below {p : Nat} {a b : World} (h : Below a.heap.size a b) (hp : p ≤ a.heap.size) : KeptR p a b := ⟨h.mono hp, h.size, fun x o _ h1 => block_below h h1⟩
theorem KeptR.set {p : Nat} {a b : World} (h : KeptR p a b) (o : Nat) (v : Value) : KeptR p a (b.setCell ⟨p, o, none⟩ v) := ⟨h.1.setCell (Nat.le_refl p) v, by simp [World.setCell]; exact h.2.1, fun x y hx h1 => by rw [Below.heap_setCell b ⟨p, o, none⟩ v x hx]; exact h.2.2 x y hx h1⟩
theorem RdAt.below {p : Nat} {bs : List Int} {w w' : World} (h : RdAt p bs w) (hb : Below w.heap.size w w') : RdAt p bs w' := by
  obtain ⟨g, off, cap, h1, h2, h3, h4, h5⟩ := h
  exact ⟨g, off, cap, block_below hb h1, h2, h3, h4, fun i hi => cell_on (h5 i hi) hb⟩
theorem RdAt.lt {p : Nat} {bs : List Int} {w : World} (h : RdAt p bs w) : p < w.heap.size := by
  obtain ⟨g, off, cap, h1, _⟩ := h; exact (Array.getElem?_eq_some_iff.1 h1).1
def TakeP (q n : Nat) (bs : List Int) (w : World) (e : Ending) (w' : World) : Prop := ∃ g off cap, e = .returned (.slice (some ⟨g, off, none⟩) n cap) ∧ (∀ i (h : i < (bs.take n).length), w'.cell? ⟨g, off + i, none⟩ = some (.int .u8 (bs.take n)[i])) ∧ RdAt q (bs.drop n) w' ∧ KeptR q w w'
theorem take_fin {q n g off off' cap : Nat} {bs : List Int} {w : World} (hn : n ≤ bs.length) (hv : w.heap[q]? = some (.cells #[.int .i64 0, .slice (some ⟨g, off, none⟩) bs.length cap] 247 (0, 0))) (hg : g ≠ q) (hlc : bs.length ≤ cap) (hcap : cap ≤ 9223372036854775807)
    (hcell : ∀ i (h : i < bs.length), w.cell? ⟨g, off + i, none⟩ = some (.int .u8 bs[i])) (ho : off' = off + n ∨ n = cap) :
    TakeP q n bs w (.returned (.slice (some ⟨g, off, none⟩) n cap)) (w.setCell ⟨q, 1, none⟩ (.slice (some ⟨g, off', none⟩) (bs.length - n) (cap - n))) := by
  have hq := (Array.getElem?_eq_some_iff.1 hv).1
  have hsame : ∀ o, (w.setCell ⟨q, 1, none⟩ (.slice (some ⟨g, off', none⟩) (bs.length - n) (cap - n))).cell? ⟨g, o, none⟩ = w.cell? ⟨g, o, none⟩ := fun o => World.cell?_of_block (Below.heap_setCell w ⟨q, 1, none⟩ _ g hg)
  refine ⟨g, off, cap, rfl, fun i hi => ?_, ⟨g, off', cap - n, ?_, hg, by rw [List.length_drop]; omega, by omega, fun i hi => ?_⟩, KeptR.set (KeptR.of_below (Below.refl _ _) (Nat.le_of_lt hq)) 1 _⟩
  · rw [List.length_take] at hi
    rw [hsame, hcell i (by omega), List.getElem_take]
  · rw [List.length_drop]; exact pair_set1 hv
  · rw [List.length_drop] at hi
    rcases ho with rfl | rfl
    · rw [hsame, Nat.add_assoc, hcell (n + i) (by omega), List.getElem_drop]
    · omega
set_option maxRecDepth 100000 in
set_option maxHeartbeats 1000000 in
theorem take_ok (q n : Nat) (bs : List Int) (hn : n ≤ bs.length) (w : World) (hW : RdAt q bs w) :
    Calls Tryz.prog 229 #[.pointer (some ⟨q, 0, none⟩), .int .i64 (n : Int)] w (TakeP q n bs w) := by
  have hq := hW.lt
  obtain ⟨g, off, cap, hv, hg, hlc, hcap, hcell⟩ := hW
  obtain ⟨q0, q1, q2, q3⟩ := pair_cells hv
  have HF := Lib.hid (fun off' ho => take_fin (off' := off') hn hv hg hlc hcap hcell ho)
  have hni : ¬ (bs.length : Int) < n := by omega
  have hni' : (n : Int) ≤ bs.length := by omega
  have hnc : (n : Int) ≤ cap := by omega
  have hlc' : (bs.length : Int) ≤ cap := by omega
  clear hv hcell hg hn
  by_cases hcn : n = cap
  · have HCN := Lib.hid (HF.out off (.inr hcn))
    have hcn' : (cap == n) = true := by simpa using hcn.symm
    have hcn2 : cap = n := hcn.symm
    clear hcn
    have hcc : ∀ W, (Instr.slice 153 (.slice (some ⟨g, off, none⟩) bs.length cap) (some (.int .i64 (n : Int))) none none).run Tryz.prog W = .ok (.slice (some ⟨g, off, none⟩) (bs.length - n) (cap - n)) W := fun W => by
      rw [run_slice_l W 153 _ _ _ Tryz.underlying153 .i64 (n : Int) (by omega) hni']
      have hz : (sizeOf (Tryz.prog.elem 153)).run Tryz.prog W = .ok 1 W := by kernel_rfl
      rw [hz]
      simp [Result.andThen, sliced, hcn2]
    clear hcn2 hcn'
    go_enter Tryz.func229, Tryz.ntmps229
    go_wp2_with fail
    go_ret
    exact HCN.out
  · have HCN := Lib.hid (HF.out (off + n) (.inl rfl))
    have hcn' : (cap == n) = false := by simpa using (Ne.symm hcn)
    go_enter Tryz.func229, Tryz.ntmps229
    go_wp2_with fail
    go_ret
    exact HCN.out
theorem newreader_ok (g cap : Nat) (bs : List Int) (hb : bs.length ≤ 1000) (w : World) (ho : w.ownsRow 0 5 1 (.slice (some ⟨g, 0, none⟩) bs.length cap) bs.length (u8s bs)) (hc : cap ≤ 9223372036854775807) :
    Calls Tryz.prog 95 #[.slice (some ⟨g, 0, none⟩) bs.length cap] w fun e w' => ∃ q, e = .returned (.pointer (some ⟨q, 0, none⟩)) ∧ w.heap.size ≤ q ∧ RdAt q bs w' ∧ Below w.heap.size w w' := by
  have hg : g < w.heap.size := (ho.lt g rfl).2
  have hcell : ∀ i (h : i < bs.length), w.cell? ⟨g, 0 + i, none⟩ = some (.int .u8 bs[i]) := fun i hi => by
    have h := ho.cells (g := g) rfl i (.int .u8 bs[i]) (by simp [u8s, hi])
    rw [addr_mid] at h; exact h
  have hcl : bs.length ≤ cap := by
    rcases ho.2 with ⟨h, _⟩ | ⟨g', cap', cur, h, _, _, h4, _⟩
    · cases h
    · simp only [Value.slice.injEq] at h; omega
  have HR : Hid (RdAt w.heap.size bs (w.alloc (.cells #[.int .i64 0, .slice (some ⟨g, 0, none⟩) bs.length cap] 247))) := Lib.hid ⟨g, 0, cap, heap_alloc_new w _, by omega, hcl, hc, fun i hi => cell_on (hcell i hi) (below_fresh w _)⟩
  clear hcell ho
  go_enter Tryz.func95, Tryz.ntmps95
  go_wp2_with fail
  go_ret
  exact ⟨w.heap.size, rfl, Nat.le_refl _, HR.out, below_fresh _ _⟩
theorem left_ok (q : Nat) (bs : List Int) (w : World) (hW : RdAt q bs w) : Calls Tryz.prog 97 #[.pointer (some ⟨q, 0, none⟩)] w fun e w' => e = .returned (.int .i64 (bs.length : Int)) ∧ w' = w := by
  obtain ⟨g, off, cap, hv, hg, hlc, hcap, hcell⟩ := hW
  obtain ⟨q0, q1, q2, q3⟩ := pair_cells hv
  clear hcell hg hv
  go_enter Tryz.func97, Tryz.ntmps97
  go_wp2_with fail
  go_ret
  exact ⟨rfl, rfl⟩
theorem rerr_ok (q : Nat) (bs : List Int) (w : World) (hW : RdAt q bs w) : Calls Tryz.prog 178 #[.pointer (some ⟨q, 0, none⟩)] w fun e w' => e = .returned (.int .i64 0) ∧ w' = w := by
  obtain ⟨g, off, cap, hv, hg, hlc, hcap, hcell⟩ := hW
  obtain ⟨q0, q1, q2, q3⟩ := pair_cells hv
  clear hcell hg hv
  go_enter Tryz.func178, Tryz.ntmps178
  go_wp2_with fail
  go_ret
  exact ⟨rfl, rfl⟩
theorem wraps_i64 (n : Int) (h₀ : 0 ≤ n) (h₁ : n < 2 ^ 62) : IntKind.i64.wrap n = n := IntWalk.i64_in _ (by omega)
theorem i64_or_zero (x : Int) (h0 : 0 ≤ x) (h1 : x ≤ 255) : bits .or .i64 0 x = x := by
  obtain ⟨n, rfl⟩ : ∃ n : Nat, x = n := ⟨x.toNat, by omega⟩
  have h := (bits_nat .i64 62 (by decide) wraps_i64 0 n (by decide) (by omega)).2
  simpa using h
theorem i64_or_byte (x y : Int) (h0 : 0 ≤ x) (h1 : x ≤ 255) (k0 : 0 ≤ y) (k1 : y ≤ 255) : bits .or .i64 (x * 256) y = x * 256 + y := by
  obtain ⟨n, rfl⟩ : ∃ n : Nat, x = n := ⟨x.toNat, by omega⟩
  obtain ⟨m, rfl⟩ : ∃ m : Nat, y = m := ⟨y.toNat, by omega⟩
  have h := (bits_nat .i64 62 (by decide) wraps_i64 (n * 256) m (by omega) (by omega)).2
  rw [show ((n : Int) * 256) = ((n * 256 : Nat) : Int) by omega, h]
  have e : n * 256 ||| m = n * 256 + m := by
    have := Nat.shiftLeft_add_eq_or_of_lt (a := n) (b := m) (i := 8) (by omega)
    rw [Nat.shiftLeft_eq] at this
    exact this.symm
  rw [e]; omega
set_option maxRecDepth 100000 in
set_option maxHeartbeats 1000000 in
theorem rnum1_ok (q : Nat) (x : Int) (bs : List Int) (most : Int) (hx0 : 0 ≤ x) (hx1 : x ≤ 255) (hxm : x ≤ most) (w : World) (hW : RdAt q (x :: bs) w) :
    Calls Tryz.prog 176 #[.pointer (some ⟨q, 0, none⟩), .int .i64 1, .int .i64 most] w fun e w' => e = .returned (.int .i64 x) ∧ RdAt q bs w' ∧ KeptR q w w' := by
  have hq := hW.lt
  have HT := Lib.hid (take_ok q 1 (x :: bs) (by simp) w hW)
  obtain ⟨g, off, cap, hv, hg, hlc, hcap, hcell⟩ := hW
  obtain ⟨q0, q1, q2, q3⟩ := pair_cells hv
  clear hcell hg hv hlc hcap
  have hm : ¬ most < x := by omega
  have hwx : IntKind.i64.wrap x = x := IntWalk.i64_in _ (by omega)
  have hox : bits .or .i64 0 x = x := i64_or_zero x (by omega) (by omega)
  go_enter Tryz.func176, Tryz.ntmps176
  go_wp2_with (go_at_call 229; refine HT.out.mono ?_; rintro e w1 ⟨g1, off1, cap1, rfl, hc1, hR1, hK1⟩; have HR1 := Lib.hid hR1; have HK1 := Lib.hid hK1; have hc0 : w1.cell? ⟨g1, off1, none⟩ = some (.int .u8 x) := hc1 0 (by simp); clear hc1 hR1 hK1 q0 q1 q2 q3)
  go_loopw [7, 32] (fun n i wr => wr = w1 ∧ ((n = .int .i64 0 ∧ i = .int .i64 0) ∨ (n = .int .i64 x ∧ i = .int .i64 1))) (fun _ i _ => (1 - intOf i).toNat)
  case atStart => exact ⟨rfl, .inl ⟨rfl, rfl⟩⟩
  case round =>
    rcases hrel with ⟨rfl, ⟨rfl, rfl⟩ | ⟨rfl, rfl⟩⟩
    · go_wp2_with fail
      go_roundw
      case rel => exact ⟨trivial, (.inr ⟨rfl, rfl⟩)⟩
      case measure => simp [intOf]
    · have hq1 := HR1.out
      obtain ⟨g2, off2, cap2, hv, hg, hlc, hcap, hcell⟩ := hq1
      obtain ⟨q0, q1, q2, q3⟩ := pair_cells hv
      clear hcell hg hv hlc hcap
      go_wp2_with fail
      go_ret
      exact ⟨rfl, HR1.out, HK1.out⟩
set_option maxRecDepth 100000 in
set_option maxHeartbeats 1000000 in
theorem rnum2_ok (q : Nat) (x y : Int) (bs : List Int) (most : Int) (hx0 : 0 ≤ x) (hx1 : x ≤ 255) (hy0 : 0 ≤ y) (hy1 : y ≤ 255) (hxm : (x * 256 + y) ≤ most) (w : World) (hW : RdAt q (x :: y :: bs) w) :
    Calls Tryz.prog 176 #[.pointer (some ⟨q, 0, none⟩), .int .i64 2, .int .i64 most] w fun e w' => e = .returned (.int .i64 (x * 256 + y)) ∧ RdAt q bs w' ∧ KeptR q w w' := by
  have hq := hW.lt
  have HT := Lib.hid (take_ok q 2 (x :: y :: bs) (by simp) w hW)
  obtain ⟨g, off, cap, hv, hg, hlc, hcap, hcell⟩ := hW
  obtain ⟨q0, q1, q2, q3⟩ := pair_cells hv
  clear hcell hg hv hlc hcap
  have hm : ¬ most < (x * 256 + y) := by omega
  have hwx : IntKind.i64.wrap x = x := IntWalk.i64_in _ (by omega)
  have hox : bits .or .i64 0 x = x := i64_or_zero x (by omega) (by omega)
  have hwy : IntKind.i64.wrap y = y := IntWalk.i64_in _ (by omega)
  have hoy : bits .or .i64 0 y = y := i64_or_zero y (by omega) (by omega)
  have hor : bits .or .i64 (x * 256) y = x * 256 + y := i64_or_byte x y (by omega) (by omega) (by omega) (by omega)
  go_enter Tryz.func176, Tryz.ntmps176
  go_wp2_with (go_at_call 229; refine HT.out.mono ?_; rintro e w1 ⟨g1, off1, cap1, rfl, hc1, hR1, hK1⟩; have HR1 := Lib.hid hR1; have HK1 := Lib.hid hK1; have hc0 : w1.cell? ⟨g1, off1, none⟩ = some (.int .u8 x) := hc1 0 (by simp); have hcy : w1.cell? ⟨g1, off1 + 1, none⟩ = some (.int .u8 y) := hc1 1 (by simp); clear hc1 hR1 hK1 q0 q1 q2 q3)
  go_loopw [7, 32] (fun n i wr => wr = w1 ∧ ((n = .int .i64 0 ∧ i = .int .i64 0) ∨ (n = .int .i64 x ∧ i = .int .i64 1) ∨ (n = .int .i64 (x * 256 + y) ∧ i = .int .i64 2))) (fun _ i _ => (2 - intOf i).toNat)
  case atStart => exact ⟨rfl, .inl ⟨rfl, rfl⟩⟩
  case round =>
    rcases hrel with ⟨rfl, ⟨rfl, rfl⟩ | ⟨rfl, rfl⟩ | ⟨rfl, rfl⟩⟩
    · go_wp2_with fail
      go_roundw
      case rel => exact ⟨trivial, (.inr (.inl ⟨rfl, rfl⟩))⟩
      case measure => simp [intOf]
    · go_wp2_with fail
      go_roundw
      case rel => exact ⟨trivial, (.inr (.inr ⟨rfl, rfl⟩))⟩
      case measure => simp [intOf]
    · have hq1 := HR1.out
      obtain ⟨g2, off2, cap2, hv, hg, hlc, hcap, hcell⟩ := hq1
      obtain ⟨q0, q1, q2, q3⟩ := pair_cells hv
      clear hcell hg hv hlc hcap
      go_wp2_with fail
      go_ret
      exact ⟨rfl, HR1.out, HK1.out⟩
end Go.Proofs.YtdjndnoiankicaaGreatDoor
