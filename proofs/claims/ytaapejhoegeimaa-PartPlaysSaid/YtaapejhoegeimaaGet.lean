/- The reference's Get (package forepeakref26). No conditions. -/
import Derived.Test.YtaapejhoegeimaaVPPartPlays5
import Derived.Test.YtaapejhoegeimaaPartc
namespace Go.Proofs.Ytaapejhoegeimaa
open Go.RowKit Go.Shelf Go.Proofs.YtaapejhoegeimaaW.PrintWords Go.Proofs.Ytaapejhoegeimaa.PPartPlays
set_option linter.unusedSimpArgs false
set_option linter.unusedVariables false

/-- A part of the reference: its cells. -/
def rcells (S I : Int) (A : Option Addr) (n c : Nat) : Array Value := #[.int .u16 S, .int .u16 I, .slice A n c]
theorem there_below {B : Nat} {w W : World} {b o n : Nat} (h : w.there b o n) (hb : Below B w W) (hB : b < B) : W.there b o n := fun j hj => by
  have := h j hj
  rw [hb.cell (p := ⟨b, o + j, none⟩) hB, hb.frozen (p := ⟨b, o + j, none⟩) hB]
  exact this
theorem row_form {α : Type} {d : Kd α} {w : World} {A : Option Addr} {n : Nat} {xs : List α} (h : Kd.C d w A n xs) (hn : 0 < n) (hs : 0 < d.sz) : ∃ b off, A = some ⟨b, off, none⟩ := by
  obtain ⟨h1, _, h2⟩ := h
  obtain ⟨⟨b, off, sp⟩, rfl, hc⟩ := h2 hn
  obtain ⟨c, hl, _, hcell⟩ := hc 0 _ (List.getElem?_eq_getElem (by omega))
  have h := hcell 0 _ (List.getElem?_eq_getElem (by omega))
  rw [Nat.zero_mul, Nat.add_zero] at h
  have hsp := World.cell?_spot h
  exact ⟨b, off, by simpa [Addr.add] using hsp⟩
theorem World.size_alloc' (w : World) (o : Obj) : (w.alloc o).heap.size = w.heap.size + 1 := by simp
theorem k39_sz : k39.sz = 17 := by kernel_rfl
set_option maxRecDepth 100000 in
set_option maxHeartbeats 2000000 in
theorem rget_no (k : Nat) (S I t i : Int) (ok : Nat → Prop) (A : Option Addr) (c b0 : Nat) (l : List S39) (w : World) (hV : Kd.V k39 39 w b0 ok (.slice A l.length c) l) (h : forepeakref26_at.f k S I l t = some i) (hn : t < 0 ∨ i < 0) :
    Calls Try.prog 20 #[.agg #[.int .u16 S, .int .u16 I, .slice A l.length c], .int .i64 t] w fun e w' => e = .returned (.tuple #[.agg zobj.toArray, .bool false]) ∧ Below w.heap.size w w' := by
  have HV := Lib.hid (Kd.V_reads' hV)
  have HA := Lib.hid h
  clear hV h
  have hC : Hid (∀ W : World, Below w.heap.size w W → Kd.C k39 W A l.length l) := Lib.hid (fun W hb => Kd.C_below HV.out.2.2 hb)
  by_cases ht : t < 0
  all_goals
    go_enter Try.func20, Try.ntmps20
    go_wp2_with (first | (go_at_call 44; refine (forepeakref26_at.calls k S I A c l t i _ (hC.out _ (below_new (below_new (Below.refl _ _) _) _)) HV.out.2.1 HA.out).mono ?_; rintro e w1 ⟨rfl, hb1⟩; have hth : w1.there (w.heap.size + 1) 0 zobj.toArray.size := (by have h := there_below (zero_there (w.alloc (.cells #[.int .u16 S, .int .u16 I, .slice A l.length c] 31))) hb1 (by simp); rw [World.size_alloc'] at h; exact h); have hBB := below_here (below_new (below_new (Below.refl _ _) _) _) hb1) | (refine wpList_store_mid rfl 39 (.tmp 4) (.tmp 16) rfl (w.heap.size + 1) 0 zobj.toArray rfl rfl hth sizeObj (all_oneCell_toArray zobj_one) ?_))
    refine ret_cell_tmp rfl (w.heap.size + 1) 0 rfl zobj _ (World.rangeAt_setCells_same _ _ _ _ hth) Try.underlying39 rfl sizeObj rfl ⟨rfl, ?_⟩
    exact below_setCells hBB (by omega) _ _
set_option maxRecDepth 100000 in
set_option maxHeartbeats 2000000 in
theorem rget_at (k : Nat) (S I t : Int) (i : Nat) (ok : Nat → Prop) (A : Option Addr) (c b0 : Nat) (l : List S39) (w : World) (hV : Kd.V k39 39 w b0 ok (.slice A l.length c) l) (h : forepeakref26_at.f k S I l t = some (i : Int)) (ht : 0 ≤ t) (hi : i < l.length) :
    Calls Try.prog 20 #[.agg #[.int .u16 S, .int .u16 I, .slice A l.length c], .int .i64 t] w fun e w' => ∃ cs : List Value, cs.length = 17 ∧ Kd.FK k39 w ok l[i] cs ∧ e = .returned (.tuple #[.agg cs.toArray, .bool true]) ∧ Below w.heap.size w w' := by
  have HV := Lib.hid (Kd.V_reads' hV)
  have HA := Lib.hid h
  obtain ⟨⟨b, off, sp⟩, cs, hA, hl, hF, hc, _⟩ := Kd.F_get (Kd.V_F hV) (l[i]) (i : Int) (by omega) (by omega)
  rw [k39_sz] at hl hc
  obtain ⟨b', off', hA'⟩ := row_form HV.out.2.2 (by omega) (by rw [k39_sz]; omega)
  obtain ⟨rfl, rfl, rfl⟩ : b = b' ∧ off = off' ∧ sp = none := by simpa [hA'] using hA.symm
  simp only [Int.toNat_natCast, List.getD_eq_getElem?_getD, List.getElem?_eq_getElem hi, Option.getD_some] at hF hc
  subst hA
  have hR : Hid (w.rangeAt b (off + i * 17) cs) := Lib.hid (fun j v hj => by have := hc j v hj; rw [Addr.add_mid] at this; rw [Nat.add_assoc]; exact this)
  have h1 : Hid (∀ v ∈ cs, v.oneCell' = true) := Lib.hid (fun v hv => k39.K_one (Kd.FK_now hF) v hv)
  have hbl : b < w.heap.size := World.block_lt_of_cell? w _ (by have := hR.out 0 cs[0] (List.getElem?_eq_getElem (by omega)); exact this)
  have HF := Lib.hid hF
  have HL := Lib.hid hl
  clear hV h hF hc hl
  have hC : Hid (∀ W : World, Below w.heap.size w W → Kd.C k39 W (some ⟨b, off, none⟩) l.length l) := Lib.hid (fun W hb => Kd.C_below HV.out.2.2 hb)
  have hni : ¬ ((i : Int) < 0) := by omega
  have hsz : cs.toArray.size = 17 := by rw [List.size_toArray]; exact HL.out
  have hnt : ¬ t < 0 := by omega
  have hil : (i : Int) < (l.length : Int) := by omega
  go_enter Try.func20, Try.ntmps20
  go_wp2_with (first | (go_at_call 44; refine (forepeakref26_at.calls k S I (some ⟨b, off, none⟩) c l t i _ (hC.out _ (below_new (below_new (Below.refl _ _) _) _)) HV.out.2.1 HA.out).mono ?_; rintro e w1 ⟨rfl, hb1⟩; have hth : w1.there (w.heap.size + 1) 0 17 := (by have h := there_below (zero_there (w.alloc (.cells #[.int .u16 S, .int .u16 I, .slice (some ⟨b, off, none⟩) l.length c] 31))) hb1 (by simp); rw [World.size_alloc'] at h; exact h); have hBB := below_here (below_new (below_new (Below.refl _ _) _) _) hb1; have hRR := range_below hR.out hBB hbl; have hcr := (hb1.cell (p := ⟨w.heap.size, 2, none⟩) (by simp; omega)).trans ((cell_of_row _ _ 2 _ _ _ (heap_alloc2_old w _ _)).trans rfl)) | (refine wpList_load_mid rfl 39 (.tmp 20) rfl b (off + i * 17) rfl cs _ hRR Try.underlying39 rfl (by rw [HL.out]; exact sizeObj) ?_) | (refine wpList_store_mid rfl 39 (.tmp 4) (.tmp 21) rfl (w.heap.size + 1) 0 cs.toArray rfl rfl (by rw [hsz]; exact hth) (by rw [hsz]; exact sizeObj) (all_oneCell_toArray h1.out) ?_))
  refine ret_cell_tmp rfl (w.heap.size + 1) 0 rfl cs _ (World.rangeAt_setCells_same _ _ _ _ (by rw [HL.out]; exact hth)) Try.underlying39 rfl (by rw [HL.out]; exact sizeObj) rfl ⟨cs, HL.out, HF.out, rfl, ?_⟩
  exact below_setCells hBB (by omega) _ _
end Go.Proofs.Ytaapejhoegeimaa
