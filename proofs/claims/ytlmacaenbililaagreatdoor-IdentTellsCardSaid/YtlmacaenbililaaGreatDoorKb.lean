/- A region that is walked along a list up to a place where either of two operations may come up: both orders are walked from there. A map of some moves (package forepeakref04): it is a map. A map of some moves (package forepeakref04): what is made is a map. No conditions. -/
import Derived.Test.YtlmacaenbililaaGreatDoorOrd
import Derived.Test.YtlmacaenbililaaGreatDoorMap
import Derived.Test.YtlmacaenbililaaGreatDoorFree
namespace Go.Proofs.YtlmacaenbililaaGreatDoor
open Go.RowKit

section
variable {P : Program} {ops : Array Oper} {md : Region.Mode} {C : World → Prop}
def forkB (md : Region.Mode) (ops : Array Oper) (T : List Nat) (i j : Nat) (l1 l2 : List Nat) : List Nat → Array Bool → Bool
  | [], L => (Region.ready md ops L == [i, j]) && ordB md ops T l1 (L.setIfInBounds i true) && ordB md ops T l2 (L.setIfInBounds j true)
  | k :: r, L => (if T.contains k then Region.ready md ops L == [k] else (Region.ready md ops L).contains k && Region.free md ops L k) && forkB md ops T i j l1 l2 r (L.setIfInBounds k true)
theorem G_of_fork {T : List Nat} {i j : Nat} {l1 l2 : List Nat} {Q : Exit → Act → World → Prop} (hs : Region.noSelect ops = true) (hi : T.contains i = true) (hj : T.contains j = true) (hl : l1.length = l2.length) :
    ∀ (l : List Nat) (L : Array Bool) (a : Act) (w : World), C w → forkB md ops T i j l1 l2 l L = true → wpO P ops C T (fun _ a w => wpO P ops C T Q (i :: l1) a w ∧ wpO P ops C T Q (j :: l2) a w) l a w → anyG P md ops C Q (l.length + (l1.length + 1)) L a w
  | [], L, a, w, hw, hB, h => by
    simp only [forkB, Bool.and_eq_true] at hB
    obtain ⟨⟨hr, h1⟩, h2⟩ := hB
    have hr : Region.ready md ops L = [i, j] := by simpa using hr
    obtain ⟨k1, k2⟩ := (show wpO P ops C T Q (i :: l1) a w ∧ wpO P ops C T Q (j :: l2) a w from h)
    unfold wpO at k1 k2
    rw [if_pos hi] at k1
    rw [if_pos hj] at k2
    rw [List.length_nil, Nat.zero_add]
    refine ⟨by rw [hr]; simp, fun k hk => ?_⟩
    rw [hr] at hk
    rcases List.mem_cons.1 hk with rfl | hk
    · exact opG_mono hw (fun a' w' hw' h' => G_of_O hs l1 _ a' w' hw' h1 h') k1
    · obtain rfl : k = j := by simpa using hk
      rw [hl]
      exact opG_mono hw (fun a' w' hw' h' => G_of_O hs l2 _ a' w' hw' h2 h') k2
  | k :: r, L, a, w, hw, hB, h => by
    simp only [forkB, Bool.and_eq_true] at hB
    unfold wpO at h
    rw [show (k :: r).length + (l1.length + 1) = (r.length + (l1.length + 1)) + 1 from by simp only [List.length_cons]; omega]
    by_cases hT : T.contains k = true
    · rw [if_pos hT] at hB h
      have hr : Region.ready md ops L = [k] := by simpa using hB.1
      refine ⟨by rw [hr]; simp, fun q hq => ?_⟩
      rw [hr] at hq
      obtain rfl : q = k := by simpa using hq
      exact opG_mono hw (fun a' w' hw' h' => G_of_fork hs hi hj hl r _ a' w' hw' hB.2 h') h
    · rw [if_neg hT] at hB h
      obtain ⟨⟨hr, hf⟩, hB2⟩ := (show ((Region.ready md ops L).contains k = true ∧ Region.free md ops L k = true) ∧ _ from ⟨by simpa using hB.1, hB.2⟩)
      obtain ⟨o, v, ho, hy, hn⟩ := h
      exact G_first ho (Region.noSelect_spec hs) _ L a w hw (Region.free_spec ho hf) (by simpa using hr) hy (G_of_fork hs hi hj hl r _ _ w hw hB2 hn)
theorem wp_region_fork {id : Nat} {Q : Exit → Act → World → Prop} {a : Act} {w : World} {l : List Oper} (T pre : List Nat) (i j : Nat) (l1 l2 : List Nat) (C : World → Prop) (hm : P.follows .mixedOrders = true) (hs : Region.noSelect l.toArray = true)
    (hlen : pre.length + (l1.length + 1) = l.length) (hl : l1.length = l2.length) (hi : T.contains i = true) (hj : T.contains j = true)
    (hB : forkB .any l.toArray T i j l1 l2 pre (Array.replicate l.toArray.size false) = true) (hC : C w.drew)
    (h : wpO P l.toArray C T (fun _ a w => wpO P l.toArray C T Q (i :: l1) a w ∧ wpO P l.toArray C T Q (j :: l2) a w) pre a w.drew) : (Code.region id l.toArray true).wp P Q a w := by
  refine wp_region_any hm ?_
  have := any_of_G _ _ _ _ hC (G_of_fork (md := .any) hs hi hj hl pre _ a w.drew hC hB h)
  rw [hlen] at this
  simpa using this
/-- A forced operation that stores many cells. -/
theorem wpO_store {T : List Nat} {Q : Exit → Act → World → Prop} {w : World} {i : Nat} {r : List Nat} {a : Act} {o : Oper} (hT : T.contains i = true) (ho : ops[i]? = some o) (hw : Region.wanted o (yielded ops a.tmps) = true)
    (ty : TypeId) (x y : Operand) (hop : o.op = .store ty x y) (b off : Nat) (cells : Array Value) (hx : a.eval x = .pointer (some ⟨b, off, none⟩)) (hy : a.eval y = .agg cells)
    (ht : w.there b off cells.size) (hi : (P.info? ty).map (·.size) = some cells.size) (h1 : cells.all (·.oneCell') = true) (hC : C (w.setCells b off cells.toList))
    (h : wpO P ops C T Q r (a.put o.dst undef) (w.setCells b off cells.toList)) : wpO P ops C T Q (i :: r) a w :=
  wpO_run hT ho hw fun K hK => by
    unfold execOp
    simp only [hop, hx, hy, Instr.storeAt, Instr.sureAddr, Sem.run_bind, Sem.run_pure, Result.andThen_ok, run_storeVar_mid w b off ty cells ht hi h1]
    exact ⟨hC, hK _ _ h⟩
end
end Go.Proofs.YtlmacaenbililaaGreatDoor
namespace Go.Proofs.YtlmacaenbililaaGreatDoor
open Go.RowKit Go.Shelf
set_option linter.unusedSimpArgs false
set_option linter.unusedVariables false
attribute [local go_sem] cell_over frozen_over

def moveV (m : List Nat) (f t : Int) : Value := if 0 ≤ f ∧ f ≤ 15 ∧ 0 ≤ t ∧ t ≤ 15 ∧ f ≠ t then moveIn m f.toNat t.toNat ((movedTo m 16).testBit f.toNat || (movedTo m 16).testBit t.toNat) else moveNo
theorem moveV_ok (m : List Nat) (hm : MapOk m) (f t : Int) : ∃ (m1 : List Nat) (ok : Bool), MapOk m1 ∧ moveV m f t = .tuple #[mapV m1, .bool ok] := by
  unfold moveV
  split
  · rename_i h
    unfold moveIn
    split
    · exact ⟨_, false, zero_mapOk, rfl⟩
    · refine ⟨_, true, ⟨by rw [List.length_map]; exact hm.1, fun u hu => ?_⟩, rfl⟩
      obtain ⟨x, hx, rfl⟩ := List.mem_map.1 hu
      have := hm.2 x hx
      unfold put1
      split <;> omega
  · exact ⟨_, false, zero_mapOk, rfl⟩
theorem rmove_ok (m : List Nat) (hm : MapOk m) (f t : Int) (w : World) : Calls Tryz.prog 93 #[mapV m, .int .i64 f, .int .i64 t] w fun e w' => e = .returned (moveV m f t) ∧ Below w.heap.size w w' := by
  by_cases h : 0 ≤ f ∧ f ≤ 15 ∧ 0 ≤ t ∧ t ≤ 15 ∧ f ≠ t
  · unfold moveV
    rw [if_pos h]
    obtain ⟨h1, h2, h3, h4, h5⟩ := h
    obtain ⟨f, rfl⟩ : ∃ j : Nat, f = j := ⟨f.toNat, by omega⟩
    obtain ⟨t, rfl⟩ : ∃ j : Nat, t = j := ⟨t.toNat, by omega⟩
    exact rmove_in m hm f t (by omega) (by omega) (by omega) w
  · unfold moveV
    rw [if_neg h]
    exact rmove_no m f t (by omega) w
def PairsAt (w : World) (A : Option Addr) (l : List (Int × Int)) : Prop := ∀ (k : Nat) (h : k < l.length), ∃ b off, A = some ⟨b, off, none⟩ ∧ w.cell? ⟨b, off + k * 2, none⟩ = some (.int .i64 l[k].1) ∧ w.cell? ⟨b, off + k * 2 + 1, none⟩ = some (.int .i64 l[k].2)
theorem PairsAt.below {w W : World} {A : Option Addr} {l : List (Int × Int)} (h : PairsAt w A l) (hb : Below w.heap.size w W) : PairsAt W A l := fun k hk => by
  obtain ⟨b, off, h1, h2, h3⟩ := h k hk
  have hlt := World.block_lt_of_cell? w _ h2
  exact ⟨b, off, h1, (hb.cell (p := ⟨b, off + k * 2, none⟩) hlt).trans h2, (hb.cell (p := ⟨b, off + k * 2 + 1, none⟩) hlt).trans h3⟩
def Fact.move : Fact := ⟨fun v _ => ∃ (m : List Nat) (ok : Bool), MapOk m ∧ v = .tuple #[mapV m, .bool ok], fun _ _ _ h _ => h⟩
def Fact.map : Fact := ⟨fun v _ => ∃ m : List Nat, MapOk m ∧ v = mapV m, fun _ _ _ h _ => h⟩
def Fact.bool : Fact := ⟨fun v _ => ∃ b : Bool, v = .bool b, fun _ _ _ h _ => h⟩
def Fact.mapbox (N : Nat) : Fact := ⟨fun v w => ∃ b, v = .pointer (some ⟨b, 0, none⟩) ∧ MapIn b (List.replicate 16 0) w ∧ N ≤ b ∧ b < w.heap.size, fun _ _ _ ⟨b, h1, h2, h3, h4⟩ hb => ⟨b, h1, h2.below hb h4, h3, Nat.lt_of_lt_of_le h4 hb.size⟩⟩
end Go.Proofs.YtlmacaenbililaaGreatDoor
namespace Go.Proofs.YtlmacaenbililaaGreatDoor
open Go.RowKit Go.Shelf
set_option linter.unusedSimpArgs false
set_option linter.unusedVariables false
attribute [local go_sem] cell_over frozen_over

set_option maxRecDepth 100000 in
set_option maxHeartbeats 8000000 in
theorem made_ok (A : Option Addr) (c : Nat) (l : List (Int × Int)) (hl : l.length ≤ 4611686018427387904) (w : World) (hA : PairsAt w A l) : Calls Tryz.prog 30 #[.slice A l.length c] w fun e w' => (∃ m : List Nat, MapOk m ∧ e = .returned (mapV m)) ∧ Below w.heap.size w w' := by
  have HA := Lib.hid hA
  clear hA
  go_enter Tryz.func30, Tryz.ntmps30
  go_wp2_with (first
    | (go_at_call 92; refine (r04same_ok _).mono ?_; rintro e w1 ⟨rfl, hb1⟩)
    | (refine wpList_store_new rfl 31 (.tmp 3) (.tmp 7) rfl _ (mapC (List.range 16)).toArray rfl rfl map_size rfl (all_oneCell_toArray (mapC_one _)) ?_))
  have hz0 : MapIn w.heap.size (List.replicate 16 0) (w.alloc (.cells (mapC (List.replicate 16 0)).toArray 31)) := heap_alloc_new w _
  have hsz1 : w.heap.size < w1.heap.size := by have := hb1.size; rw [World.size_alloc] at this; omega
  have hz1 : MapIn w.heap.size (List.replicate 16 0) w1 := hz0.below hb1 (by rw [World.size_alloc]; omega)
  have HZ := Lib.hid (hz1.below (below_fresh w1 (.cells (mapC (List.range 16)).toArray 31)) hsz1)
  have HT := Lib.hid (show MapIn w1.heap.size (List.range 16) (w1.alloc (.cells (mapC (List.range 16)).toArray 31)) from heap_alloc_new w1 _)
  have HB := Lib.hid (below_new (below_here (below_fresh w _) hb1) (.cells (mapC (List.range 16)).toArray 31))
  have HS := Lib.hid hsz1
  clear hz0 hz1 hb1 hsz1
  generalize w1.heap.size = T at HT HS ⊢
  have HTT := HS
  go_loopw [4] (fun i wr => ∃ (k : Nat) (m : List Nat), i = .int .i64 (k : Int) ∧ k ≤ l.length ∧ Hid (MapOk m) ∧ Hid (MapIn T m wr) ∧ Hid (MapIn w.heap.size (List.replicate 16 0) wr) ∧ Hid (Below w.heap.size w wr)) (fun i _ => l.length - (intOf i).toNat)
  case atStart => exact ⟨0, _, rfl, by omega, Lib.hid same_mapOk, HT, HZ, HB⟩
  case round =>
    obtain ⟨k, m, rfl, hk, hM, hI, hR, hW⟩ := hrel
    by_cases hkl : k = l.length
    · subst hkl
      have hlm : (mapC m).length = 16 := (mapC_len m).trans hM.out.1
      have hsz : (mapC m).toArray.size = 16 := by rw [List.size_toArray]; exact hlm
      have HE := Lib.hid (MapIn.setCells hR.out rfl hM.out.1).range
      have hth := hR.out.there rfl
      go_wp2_with (first
        | (refine wpList_load_want 31 (.tmp 3) rfl (by kernel_rfl) T 0 rfl (mapC m) _ hI.out.range Tryz.underlying31 rfl (by rw [hlm]; exact map_size) ?_)
        | (refine wpList_store_mid rfl 31 _ _ rfl w.heap.size 0 (mapC m).toArray rfl rfl (by rw [hsz]; exact hth) (by rw [hsz]; exact map_size) (all_oneCell_toArray (mapC_one _)) ?_))
      exact ret_cell rfl w.heap.size 0 rfl (mapC m) _ HE.out Tryz.underlying31 rfl (by rw [hlm]; exact map_size) rfl ⟨⟨_, hM.out, rfl⟩, below_setCells hW.out (Nat.le_refl _) _ _⟩
    · have hkn : k < l.length := by omega
      have hki : (k : Int) < (l.length : Int) := by omega
      obtain ⟨b, off, rfl, hc1, hc2⟩ := (HA.out.below hW.out) k hkn
      obtain ⟨f, hf⟩ : ∃ f, f = l[k].1 := ⟨_, rfl⟩
      obtain ⟨t, ht⟩ : ∃ t, t = l[k].2 := ⟨_, rfl⟩
      rw [← hf] at hc1
      rw [← ht] at hc2
      have HV := Lib.hid (fun w => rmove_ok m hM.out f t w)
      have HMC := Lib.hid (show ∀ W : World, (∃ s : { W : World // ∃ X, W = over wr X }, W = s.1) → W.rangeAt T 0 (mapC m) from by rintro W ⟨⟨W, X, rfl⟩, rfl⟩; exact rangeAt_over hI.out.range)
      have nb : Nonempty { W : World // ∃ X, W = over wr X } := ⟨⟨over wr wr, wr, rfl⟩⟩
      obtain ⟨m1, ok, hm1, hmv⟩ := moveV_ok m hM.out f t
      rw [hmv] at HV
      have HM1 := Lib.hid hm1
      have hbl := World.block_lt_of_cell? wr _ hc1
      have hlm : (mapC m).length = 16 := (mapC_len m).trans hM.out.1
      have hlm1 : (mapC m1).toArray.size = 16 := by rw [List.size_toArray, mapC_len]; exact hm1.1
      clear hkl hf ht hmv hm1
      go_upto_region 5 with fail
      refine wp_region_fork [11, 15, 16] [0, 1, 2, 3, 4, 5, 6, 7, 8, 9, 10] 11 15 [12, 13, 14, 15, 16, 17] [11, 12, 13, 14, 16, 17] (fun W => ∃ X, W = over wr X) (by kernel_rfl) (by kernel_rfl) rfl rfl rfl rfl (by kernel_rfl) (over_of (Below.refl _ _).drew) ?_
      have HW0 := Lib.hid ((Below.refl wr.heap.size wr).drew)
      generalize wr.drew = wd at HW0 ⊢
      iterate 11
        refine wpO_one (by simp only [List.getElem?_toArray, List.getElem?_cons_zero, List.getElem?_cons_succ]; exact rfl) (by kernel_rfl) ?_
        (first
          | (go_big_quiet_want; refine quiet_load_mid 31 (.tmp 3) rfl T 0 rfl (mapC m) _ HMC.out Tryz.underlying31 rfl (by rw [hlm]; exact map_size) ?_; go_big_quiet_on; simp only [Act.put, List.setIfInBounds_toArray, List.set_cons_succ, List.set_cons_zero])
          | go_big_quiet_step (fail)
          | (go_big_quiet_want; go_big_quiet_op; refine ⟨_, fun _ _ _ => rfl, ?_⟩; go_big_quiet_on))
        refine wpQuiet_nil ?_
      refine wpO_nil ?_
      have HR9 := Lib.hid (hR.out)
      refine ⟨?_, ?_⟩
      · clear HR9
        refine wpO_run rfl rfl rfl (fun K hK => ?_)
        go_simp
        refine (HV.out _).mono ?_
        rintro e W1 ⟨rfl, hb⟩
        have HW1 := Lib.hid (below_here HW0.out hb)
        refine ⟨_, rfl, over_of HW1.out, hK _ _ ?_⟩
        clear hK K
        simp only [Act.put, List.setIfInBounds_toArray, List.set_cons_succ, List.set_cons_zero]
        iterate 3
          refine wpO_one (by simp only [List.getElem?_toArray, List.getElem?_cons_zero, List.getElem?_cons_succ]; exact rfl) (by kernel_rfl) ?_
          (first
            | go_big_quiet_step (fail)
            | (go_big_quiet_want; go_big_quiet_op; refine ⟨_, fun _ _ _ => rfl, ?_⟩; go_big_quiet_on))
          refine wpQuiet_nil ?_
        refine wpO_run rfl rfl rfl (fun K hK => ?_)
        go_simp
        have HWL := Lib.hid (below_new HW1.out (.cells (mapC (List.replicate 16 0)).toArray 31))
        have HBB := Lib.hid HW1.out.size
        have HZ1 := Lib.hid (show MapIn W1.heap.size (List.replicate 16 0) (W1.alloc (.cells (mapC (List.replicate 16 0)).toArray 31)) from heap_alloc_new _ _)
        refine ⟨over_of HWL.out, hK _ (W1.alloc (.cells (mapC (List.replicate 16 0)).toArray 31)) ?_⟩
        generalize W1.alloc (.cells (mapC (List.replicate 16 0)).toArray 31) = WA at HWL HZ1 ⊢
        clear hK K
        simp only [Act.put, List.setIfInBounds_toArray, List.set_cons_succ, List.set_cons_zero]
        have hth := HZ1.out.there rfl
        have HW9 := Lib.hid (below_setCells HWL.out (show wr.heap.size ≤ W1.heap.size from HBB.out) 0 (mapC m1))
        refine wpO_store rfl rfl rfl 31 _ _ rfl W1.heap.size 0 (mapC m1).toArray rfl rfl (by rw [hlm1]; exact hth) (by rw [hlm1]; exact map_size) (all_oneCell_toArray (mapC_one _)) (over_of HW9.out) ?_
        simp only [List.getElem_toArray, List.getElem_cons_succ, List.getElem_cons_zero, List.getElem?_toArray, List.getElem?_cons_zero, List.getElem?_cons_succ]
        simp only [Act.put, List.setIfInBounds_toArray, List.set_cons_succ, List.set_cons_zero]
        have HX := Lib.hid (MapIn.setCells HZ1.out rfl HM1.out.1)
        iterate 1
          refine wpO_one (by simp only [List.getElem?_toArray, List.getElem?_cons_zero, List.getElem?_cons_succ]; exact rfl) (by kernel_rfl) ?_
          (first
            | go_big_quiet_step (fail)
            | (go_big_quiet_want; go_big_quiet_op; refine ⟨_, fun _ _ _ => rfl, ?_⟩; go_big_quiet_on))
          refine wpQuiet_nil ?_
        refine wpO_nil ?_
        try simp only [List.toList_toArray]
        have hI9 := hI.out.below HW9.out (World.block_lt_of_cell? wr _ (hI.out.cell 0 (by rw [hM.out.1]; omega)))
        have hR9 := hR.out.below HW9.out (World.block_lt_of_cell? wr _ (hR.out.cell 0 (by simp)))
        have HB9 := Lib.hid (below_here hW.out HW9.out)
        generalize WA.setCells W1.heap.size 0 (mapC m1) = W9 at HX hI9 hR9 HB9 ⊢
        have HI9 := Lib.hid hI9
        have HR9 := Lib.hid hR9
        clear hI9 hR9 HW9 hth
        cases ok with
        | true =>
          have hth9 := HI9.out.there hM.out.1
          have hle : w.heap.size < T := HTT.out
          go_wp2_with (first
            | (refine wpList_load_want 31 (.tmp 5) rfl (by kernel_rfl) W1.heap.size 0 rfl (mapC m1) _ HX.out.range Tryz.underlying31 rfl (by rw [show (mapC m1).length = 16 from hlm1]; exact map_size) ?_)
            | (refine wpList_store_mid rfl 31 _ _ rfl T 0 (mapC m1).toArray rfl rfl (by rw [hlm1]; exact hth9) (by rw [hlm1]; exact map_size) (all_oneCell_toArray (mapC_one _)) ?_))
          go_roundw
          case rel => exact ⟨k + 1, m1, by go_num, by omega, HM1, Lib.hid (MapIn.setCells HI9.out hM.out.1 HM1.out.1), Lib.hid (by unfold MapIn; rw [heap_setCells_other T _ _ _ _ (by omega)]; exact HR9.out), Lib.hid (below_setCells HB9.out (by omega) _ _)⟩
          case measure => simp [intOf]; omega
        | false =>
          go_wp2_with fail
          go_roundw
          case rel => exact ⟨k + 1, m, by go_num, by omega, hM, HI9, HR9, HB9⟩
          case measure => simp [intOf]; omega
      · clear HR9
        refine wpO_run rfl rfl rfl (fun K hK => ?_)
        go_simp
        have HW1 := Lib.hid (below_new HW0.out (.cells (mapC (List.replicate 16 0)).toArray 31))
        have HBB := Lib.hid (show wr.heap.size ≤ wd.heap.size from HW0.out.size)
        have HZ1 := Lib.hid (show MapIn wd.heap.size (List.replicate 16 0) (wd.alloc (.cells (mapC (List.replicate 16 0)).toArray 31)) from heap_alloc_new _ _)
        have hwz : wd.heap.size < (wd.alloc (.cells (mapC (List.replicate 16 0)).toArray 31)).heap.size := by rw [World.size_alloc]; omega
        refine ⟨over_of HW1.out, hK _ (wd.alloc (.cells (mapC (List.replicate 16 0)).toArray 31)) ?_⟩
        generalize wd.alloc (.cells (mapC (List.replicate 16 0)).toArray 31) = W1 at HW1 HZ1 hwz ⊢
        clear hK K
        simp only [Act.put, List.setIfInBounds_toArray, List.set_cons_succ, List.set_cons_zero]
        refine wpO_run rfl rfl rfl (fun K hK => ?_)
        go_simp
        refine (HV.out _).mono ?_
        rintro e W2 ⟨rfl, hb⟩
        have HW2 := Lib.hid (below_here HW1.out hb)
        refine ⟨_, rfl, over_of HW2.out, hK _ _ ?_⟩
        clear hK K
        simp only [Act.put, List.setIfInBounds_toArray, List.set_cons_succ, List.set_cons_zero]
        have HZ2 := Lib.hid (MapIn.below HZ1.out hb hwz)
        have HWL := HW2
        iterate 3
          refine wpO_one (by simp only [List.getElem?_toArray, List.getElem?_cons_zero, List.getElem?_cons_succ]; exact rfl) (by kernel_rfl) ?_
          (first
            | go_big_quiet_step (fail)
            | (go_big_quiet_want; go_big_quiet_op; refine ⟨_, fun _ _ _ => rfl, ?_⟩; go_big_quiet_on))
          refine wpQuiet_nil ?_
        have hth := HZ2.out.there rfl
        have HW9 := Lib.hid (below_setCells HWL.out (show wr.heap.size ≤ wd.heap.size from HBB.out) 0 (mapC m1))
        refine wpO_store rfl rfl rfl 31 _ _ rfl wd.heap.size 0 (mapC m1).toArray rfl rfl (by rw [hlm1]; exact hth) (by rw [hlm1]; exact map_size) (all_oneCell_toArray (mapC_one _)) (over_of HW9.out) ?_
        simp only [List.getElem_toArray, List.getElem_cons_succ, List.getElem_cons_zero, List.getElem?_toArray, List.getElem?_cons_zero, List.getElem?_cons_succ]
        simp only [Act.put, List.setIfInBounds_toArray, List.set_cons_succ, List.set_cons_zero]
        have HX := Lib.hid (MapIn.setCells HZ2.out rfl HM1.out.1)
        iterate 1
          refine wpO_one (by simp only [List.getElem?_toArray, List.getElem?_cons_zero, List.getElem?_cons_succ]; exact rfl) (by kernel_rfl) ?_
          (first
            | go_big_quiet_step (fail)
            | (go_big_quiet_want; go_big_quiet_op; refine ⟨_, fun _ _ _ => rfl, ?_⟩; go_big_quiet_on))
          refine wpQuiet_nil ?_
        refine wpO_nil ?_
        try simp only [List.toList_toArray]
        have hI9 := hI.out.below HW9.out (World.block_lt_of_cell? wr _ (hI.out.cell 0 (by rw [hM.out.1]; omega)))
        have hR9 := hR.out.below HW9.out (World.block_lt_of_cell? wr _ (hR.out.cell 0 (by simp)))
        have HB9 := Lib.hid (below_here hW.out HW9.out)
        generalize W2.setCells wd.heap.size 0 (mapC m1) = W9 at HX hI9 hR9 HB9 ⊢
        have HI9 := Lib.hid hI9
        have HR9 := Lib.hid hR9
        clear hI9 hR9 HW9 hth
        cases ok with
        | true =>
          have hth9 := HI9.out.there hM.out.1
          have hle : w.heap.size < T := HTT.out
          go_wp2_with (first
            | (refine wpList_load_want 31 (.tmp 5) rfl (by kernel_rfl) wd.heap.size 0 rfl (mapC m1) _ HX.out.range Tryz.underlying31 rfl (by rw [show (mapC m1).length = 16 from hlm1]; exact map_size) ?_)
            | (refine wpList_store_mid rfl 31 _ _ rfl T 0 (mapC m1).toArray rfl rfl (by rw [hlm1]; exact hth9) (by rw [hlm1]; exact map_size) (all_oneCell_toArray (mapC_one _)) ?_))
          go_roundw
          case rel => exact ⟨k + 1, m1, by go_num, by omega, HM1, Lib.hid (MapIn.setCells HI9.out hM.out.1 HM1.out.1), Lib.hid (by unfold MapIn; rw [heap_setCells_other T _ _ _ _ (by omega)]; exact HR9.out), Lib.hid (below_setCells HB9.out (by omega) _ _)⟩
          case measure => simp [intOf]; omega
        | false =>
          go_wp2_with fail
          go_roundw
          case rel => exact ⟨k + 1, m, by go_num, by omega, hM, HI9, HR9, HB9⟩
          case measure => simp [intOf]; omega
end Go.Proofs.YtlmacaenbililaaGreatDoor
