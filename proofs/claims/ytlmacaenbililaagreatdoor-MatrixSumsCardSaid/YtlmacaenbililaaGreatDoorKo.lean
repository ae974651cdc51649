/- Package matrix: Alone, Holders (functions handed over as values). Package matrix: Holders. alive of the statements on matrices. No conditions. -/
import Derived.Test.YtlmacaenbililaaGreatDoorKc
import Derived.Test.YtlmacaenbililaaGreatDoorKp
namespace Go.Proofs.YtlmacaenbililaaGreatDoor
open Go.RowKit Go.Shelf
set_option linter.unusedSimpArgs false
set_option linter.unusedVariables false
attribute [local go_sem] cell_over frozen_over

/-- Rows that lie one behind the other. -/
def MRows (W : World) (A : Option Addr) (l : List Mt.R) : Prop := l = [] ∨ ∃ g, A = some ⟨g, 0, none⟩ ∧ g < W.heap.size ∧ ∀ (i : Nat) (r : Mt.R), l[i]? = some r → W.rangeAt g (i * 7) (mtC r)
theorem MRows.below {W V : World} {A : Option Addr} {l : List Mt.R} (h : MRows W A l) (hb : Below W.heap.size W V) : MRows V A l := by
  rcases h with h | ⟨g, h1, h2, h3⟩
  · exact .inl h
  · exact .inr ⟨g, h1, Nat.lt_of_lt_of_le h2 hb.size, fun i r hr => range_below (h3 i r hr) hb h2⟩
def flatM (l : List Mt.R) : List Value := l.flatMap mtC
theorem flatM_len : ∀ l : List Mt.R, (flatM l).length = l.length * 7
  | [] => rfl
  | e :: l => by
    have := flatM_len l
    unfold flatM at this ⊢
    rw [List.flatMap_cons, List.length_append, this]; simp [mtC]; omega
theorem flatM_at : ∀ (l : List Mt.R) (i j : Nat) (r : Mt.R), l[i]? = some r → j < 7 → (flatM l)[i * 7 + j]? = (mtC r)[j]?
  | [], _, _, _, h, _ => by simp at h
  | e :: l, 0, j, r, h, hj => by
    obtain rfl : e = r := by simpa using h
    unfold flatM
    rw [List.flatMap_cons, Nat.zero_mul, Nat.zero_add, List.getElem?_append_left (by simpa [mtC] using hj)]
  | e :: l, i + 1, j, r, h, hj => by
    have ih := flatM_at l i j r (by simpa using h) hj
    unfold flatM at ih ⊢
    have h7 : (mtC e).length = 7 := rfl
    rw [List.flatMap_cons, List.getElem?_append_right (by rw [h7]; omega), h7, show (i + 1) * 7 + j - 7 = i * 7 + j by omega, ih]
theorem mrows_of_own {w : World} {B n : Nat} {t : TypeId} {v : Value} {l : List Mt.R} (h : w.ownsRow B t 7 v n (flatM l)) : ∃ A cap, v = .slice A l.length cap ∧ MRows w A l ∧ n = l.length := by
  have hn : n = l.length := by have := h.1; rw [flatM_len] at this; omega
  rcases h.2 with ⟨rfl, h0⟩ | ⟨g, cap, cur, rfl, _, hg, _⟩
  · have hl : l = [] := List.length_eq_zero_iff.1 (by omega)
    subst hl
    exact ⟨none, 0, rfl, .inl rfl, hn⟩
  · refine ⟨some ⟨g, 0, none⟩, cap, by rw [hn], .inr ⟨g, rfl, (Array.getElem?_eq_some_iff.1 hg).1, fun i r hr j u hu => ?_⟩, hn⟩
    have hj : j < 7 := (List.getElem?_eq_some_iff.1 hu).1
    have := h.cells (g := g) rfl (i * 7 + j) u (by rw [flatM_at l i j r hr hj]; exact hu)
    rw [addr_mid] at this
    rwa [Nat.zero_add] at this
theorem rowsC_flat (p : Pol.P) (by_ : Lab.L) : rowsC p by_ (Tag.tags (Pol.seen p by_)) = flatM (Pol.rows p by_) := by
  unfold rowsC flatM Pol.rows
  rw [List.flatMap_map]
theorem beq_eq_decide' (a b : Int) : (a == b) = decide (a = b) := by
  rw [Bool.eq_iff_iff, beq_iff_eq, decide_eq_true_eq]
set_option maxRecDepth 100000 in
set_option maxHeartbeats 2000000 in
theorem mtalone1_ok (r : Mt.R) (b : Nat) (role : Int) (w : World) (hb : w.cell? ⟨b, 0, none⟩ = some (.int .i64 role)) :
    Calls Tryz.prog 117 #[.agg (mtC r).toArray, .pointer (some ⟨b, 0, none⟩)] w fun e w' => e = .returned (.bool (decide (r.1 = role))) ∧ Below w.heap.size w w' := by
  have HB := Lib.hid (below_fresh w (.cells (mtC r).toArray 87))
  have hc : (w.alloc (.cells (mtC r).toArray 87)).cell? ⟨w.heap.size, 0, none⟩ = some (.int .i64 r.1) := cell_of_row _ _ 0 _ _ _ (heap_alloc_new w _)
  have hlt := World.block_lt_of_cell? w _ hb
  have hb' := (HB.out.cell (p := ⟨b, 0, none⟩) hlt).trans hb
  go_enter Tryz.func117, Tryz.ntmps117
  go_wp2_with fail
  go_ret
  exact ⟨by simp [beq_eq_decide'], HB.out⟩
/-- The first row of a role, or that there is none. -/
def IdxPost (l : List Mt.R) (role : Int) (w : World) (e : Ending) (w' : World) : Prop :=
  ((∃ (i : Nat) (r : Mt.R), l[i]? = some r ∧ r.1 = role ∧ (∀ (j : Nat) (q : Mt.R), j < i → l[j]? = some q → q.1 ≠ role) ∧ e = .returned (.int .i64 (i : Int))) ∨ ((∀ (j : Nat) (q : Mt.R), l[j]? = some q → q.1 ≠ role) ∧ e = .returned (.int .i64 (-1)))) ∧ Below w.heap.size w w'
set_option maxRecDepth 100000 in
set_option maxHeartbeats 4000000 in
theorem mtindex_ok (A : Option Addr) (c : Nat) (l : List Mt.R) (hl : l.length ≤ 1000000) (b : Nat) (role : Int) (w : World) (hA : MRows w A l) (hb : w.cell? ⟨b, 0, none⟩ = some (.int .i64 role)) :
    Calls Tryz.prog 116 #[.slice A l.length c, .func (.func 117) #[] #[.pointer (some ⟨b, 0, none⟩)]] w (IdxPost l role w) := by
  have HA := Lib.hid hA
  have HBC := Lib.hid hb
  have hlb := World.block_lt_of_cell? w _ hb
  clear hA hb
  go_enter Tryz.func116, Tryz.ntmps116
  go_wp2_with fail
  go_loopw [8] (fun i wr => ∃ k : Nat, i = .int .i64 (k : Int) ∧ k ≤ l.length ∧ Hid (∀ (j : Nat) (q : Mt.R), j < k → l[j]? = some q → q.1 ≠ role) ∧ Hid (Below w.heap.size w wr)) (fun i _ => l.length - (intOf i).toNat)
  case atStart => exact ⟨0, rfl, by omega, Lib.hid (fun j q h => by omega), Lib.hid (Below.refl _ _)⟩
  case round =>
    obtain ⟨k, rfl, hk, hN, hW⟩ := hrel
    by_cases hkn : k = l.length
    · subst hkn
      go_wp2_with fail
      go_ret
      refine ⟨.inr ⟨fun j q hq => hN.out j q (List.getElem?_eq_some_iff.1 hq).1 hq, rfl⟩, hW.out⟩
    · have hkl : k < l.length := by omega
      have hki : (k : Int) < (l.length : Int) := by omega
      obtain ⟨r, hr⟩ : ∃ r, l[k]? = some r := ⟨_, List.getElem?_eq_getElem hkl⟩
      obtain ⟨g, rfl, hgl, hrg⟩ : ∃ g, A = some ⟨g, 0, none⟩ ∧ g < wr.heap.size ∧ wr.rangeAt g (k * 7) (mtC r) := by
        rcases HA.out.below hW.out with h | ⟨g, h1, h2, h3⟩
        · rw [h] at hkl; simp at hkl
        · exact ⟨g, h1, h2, h3 k r hr⟩
      have HRG := Lib.hid hrg
      have HC := Lib.hid (mtalone1_ok r b role wr ((hW.out.cell (p := ⟨b, 0, none⟩) hlb).trans HBC.out))
      have HRR := Lib.hid hr
      clear hkn hrg hr
      by_cases hd : r.1 = role
      · have hdd : decide (r.1 = role) = true := by simpa using hd
        rw [hdd] at HC
        have HD := Lib.hid hd
        clear hd hdd
        go_wp2_with (first
          | (refine wpList_load_mid rfl 87 (.tmp 14) rfl g (k * 7) rfl (mtC r) _ HRG.out Tryz.underlying87 rfl info_mrow ?_)
          | (go_at_call 117; refine HC.out.mono ?_; rintro e w2 ⟨rfl, hb2⟩; have HB2 := Lib.hid (below_here hW.out hb2); clear hb2))
        go_ret
        exact ⟨.inl ⟨k, r, HRR.out, HD.out, hN.out, rfl⟩, HB2.out⟩
      · have hdd : decide (r.1 = role) = false := by simpa using hd
        rw [hdd] at HC
        have HN2 : Hid (∀ (j : Nat) (q : Mt.R), j < k + 1 → l[j]? = some q → q.1 ≠ role) := Lib.hid (fun j q hj hq => by
          by_cases e : j = k
          · subst e
            rw [HRR.out] at hq
            obtain rfl := Option.some.inj hq
            exact hd
          · exact hN.out j q (by omega) hq)
        clear hd hdd
        go_wp2_with (first
          | (refine wpList_load_mid rfl 87 (.tmp 14) rfl g (k * 7) rfl (mtC r) _ HRG.out Tryz.underlying87 rfl info_mrow ?_)
          | (go_at_call 117; refine HC.out.mono ?_; rintro e w2 ⟨rfl, hb2⟩; have HB2 := Lib.hid (below_here hW.out hb2); clear hb2))
        go_roundw
        case rel => exact ⟨k + 1, by go_num, by omega, HN2, HB2⟩
        case measure => simp [intOf]; omega
namespace Mt
theorem find_at {l : List R} {role : Int} {i : Nat} {r : R} (h : l[i]? = some r) (hr : r.1 = role) (hf : ∀ (j : Nat) (q : R), j < i → l[j]? = some q → q.1 ≠ role) : find l role = some r := by
  unfold find
  rw [List.find?_eq_some_iff_getElem]
  obtain ⟨hi, he⟩ := List.getElem?_eq_some_iff.1 h
  refine ⟨by simpa using hr, i, hi, he, fun j hj => ?_⟩
  have := hf j _ hj (List.getElem?_eq_getElem (by omega))
  simpa using this
theorem find_no {l : List R} {role : Int} (hf : ∀ (j : Nat) (q : R), l[j]? = some q → q.1 ≠ role) : find l role = none := by
  unfold find
  rw [List.find?_eq_none]
  intro x hx
  obtain ⟨j, hj, he⟩ := List.mem_iff_getElem.1 hx
  have := hf j x (List.getElem?_eq_some_iff.2 ⟨hj, he⟩)
  simpa using this
theorem less_take {l : List R} {k : Nat} {r : R} (h : l[k]? = some r) (o u : Nat) : less o u (l.take (k + 1)) = if Tag.has u r.1 = true then less o u (l.take k) else less o u (l.take k) &&& (65535 - r.2.2.2.2.2) := by
  obtain ⟨hk, he⟩ := List.getElem?_eq_some_iff.1 h
  unfold less
  rw [List.take_succ_eq_append_getElem hk, List.foldl_append, he]
  rfl
theorem less_lt : ∀ (l : List R) (o u : Nat), o < 65536 → less o u l < 65536
  | [], o, u, h => h
  | r :: l, o, u, h => by
    unfold less
    rw [List.foldl_cons]
    refine less_lt l _ u ?_
    split
    · exact h
    · exact Nat.lt_of_le_of_lt Nat.and_le_left h
def holdTo (l : List R) (tag : Int) (o : Nat) : Nat := l.foldl (fun o r => if Tag.has r.2.2.2.2.2 tag = true then o ||| Tag.of [r.1] else o) o
theorem hold_take {l : List R} {k : Nat} {r : R} (h : l[k]? = some r) (tag : Int) : holders (l.take (k + 1)) tag = if Tag.has r.2.2.2.2.2 tag = true then holders (l.take k) tag ||| Tag.of [r.1] else holders (l.take k) tag := by
  obtain ⟨hk, he⟩ := List.getElem?_eq_some_iff.1 h
  unfold holders
  rw [List.take_succ_eq_append_getElem hk, List.foldl_append, he]
  rfl
theorem holders_lt (l : List R) (tag : Int) : holders l tag < 65536 := by
  have : ∀ (l : List R) (o : Nat), o < 65536 → l.foldl (fun o r => if Tag.has r.2.2.2.2.2 tag = true then o ||| Tag.of [r.1] else o) o < 65536 := fun l => by
    induction l with
    | nil => exact fun o h => h
    | cons r l ih =>
      intro o h
      rw [List.foldl_cons]
      refine ih _ ?_
      split
      · exact Nat.or_lt_two_pow (n := 16) h (Tag.of_lt _)
      · exact h
  exact this l 0 (by omega)
/-- All sets of the rows are sets. -/
def setsOk (l : List R) : Prop := ∀ (i : Nat) (r : R), l[i]? = some r → r.2.2.1 < 65536 ∧ r.2.2.2.2.2 < 65536
end Mt
theorem and_not (a b : Nat) (ha : a < 65536) (hb : b < 65536) : bits .andNot .u16 (a : Int) (b : Int) = ((a &&& (65535 - b) : Nat) : Int) := u16_andNot a b ha hb
set_option maxRecDepth 100000 in
set_option maxHeartbeats 4000000 in
theorem mtalone_ok (A : Option Addr) (c : Nat) (l : List Mt.R) (hl : l.length ≤ 1000000) (hs : Mt.setsOk l) (role : Int) (w : World) (hA : MRows w A l) :
    Calls Tryz.prog 48 #[.slice A l.length c, .int .i64 role] w fun e w' => e = .returned (.int .u16 (Mt.alone l role : Int)) ∧ Below w.heap.size w w' := by
  have HB0 := Lib.hid (below_fresh w (.cells #[.int .i64 role] 3))
  have hA0 := hA.below HB0.out
  have HIX := Lib.hid (mtindex_ok A c l hl w.heap.size role _ hA0 (cell_of_row (w.alloc (.cells #[.int .i64 role] 3)) w.heap.size 0 _ _ _ (heap_alloc_new w _)))
  have HA0 := Lib.hid hA0
  have HS := Lib.hid hs
  obtain ⟨RES, hRES0⟩ : ∃ RES, RES = Mt.alone l role := ⟨_, rfl⟩
  rw [← hRES0]
  have HRES := Lib.hid hRES0
  clear hA hA0 hs hRES0
  go_enter Tryz.func48, Tryz.ntmps48
  go_wp2_with fail
  refine HIX.out.mono ?_
  rintro e w1 ⟨hor, hb1⟩
  have HA1 := Lib.hid (HA0.out.below hb1)
  have HB1 := Lib.hid (below_here HB0.out hb1)
  clear hb1
  rcases hor with ⟨i, r, hi, hir, hif, rfl⟩ | ⟨hno, rfl⟩
  · have hfind := Mt.find_at hi hir hif
    obtain ⟨hil, _⟩ := List.getElem?_eq_some_iff.1 hi
    obtain ⟨g, rfl, hgl, hrg⟩ : ∃ g, A = some ⟨g, 0, none⟩ ∧ g < w1.heap.size ∧ ∀ (i : Nat) (r : Mt.R), l[i]? = some r → w1.rangeAt g (i * 7) (mtC r) := by
      rcases HA1.out with h | h
      · rw [h] at hil; simp at hil
      · exact h
    have hii : (i : Int) < (l.length : Int) := by omega
    have hRES : RES = Mt.less r.2.2.2.2.2 r.2.2.1 l := by rw [HRES.out]; unfold Mt.alone; rw [hfind]
    have HRS := Lib.hid hRES
    have hc6 : w1.cell? ⟨g, i * 7 + 6, none⟩ = some (.int .u16 (r.2.2.2.2.2 : Int)) := hrg i r hi 6 _ rfl
    have HC3 := Lib.hid (hrg i r hi 3 _ rfl)
    have HRG := Lib.hid hrg
    obtain ⟨hu, hcp⟩ := HS.out i r hi
    clear hRES
    generalize r.2.2.1 = U at hu HC3 HRS
    generalize r.2.2.2.2.2 = CP at hcp hc6 HRS
    clear hfind hif hi hir hrg
    go_wp2_with fail
    go_loopw [6, 21] (fun o j wr => ∃ (k v : Nat), j = .int .i64 (k : Int) ∧ o = .int .u16 (v : Int) ∧ k ≤ l.length ∧ v < 65536 ∧ Hid (v = Mt.less CP U (l.take k)) ∧ Hid (Below w1.heap.size w1 wr)) (fun _ j _ => l.length - (intOf j).toNat)
    case atStart => exact ⟨0, CP, rfl, rfl, by omega, hcp, Lib.hid rfl, Lib.hid (Below.refl _ _)⟩
    case round =>
      obtain ⟨k, v, rfl, rfl, hk, hv, hV, hW⟩ := hrel
      by_cases hkn : k = l.length
      · subst hkn
        have hr := hV.out
        rw [List.take_length] at hr
        have HR := Lib.hid hr
        clear hr
        go_wp2_with fail
        go_ret
        exact ⟨by rw [HRS.out, ← HR.out]; rfl, below_here HB1.out hW.out⟩
      · have hkl : k < l.length := by omega
        have hki : (k : Int) < (l.length : Int) := by omega
        obtain ⟨q, hq⟩ : ∃ q, l[k]? = some q := ⟨_, List.getElem?_eq_getElem hkl⟩
        have HQ := Lib.hid (range_below (HRG.out k q hq) hW.out hgl)
        have hc3 : wr.cell? ⟨g, i * 7 + 3, none⟩ = some (.int .u16 (U : Int)) := (hW.out.cell (p := ⟨g, i * 7 + 3, none⟩) hgl).trans HC3.out
        have hlt3 := World.block_lt_of_cell? wr _ hc3
        have HL := Lib.hid (Mt.less_take hq CP U)
        have hqs := (HS.out k q hq).2
        have HN := Lib.hid (heap_alloc_new wr (.cells (mtC q).toArray 87))
        have HBN := Lib.hid (below_fresh wr (.cells (mtC q).toArray 87))
        have d3 := (HBN.out.cell (p := ⟨g, i * 7 + 3, none⟩) hlt3).trans hc3
        have d0 : (wr.alloc (.cells (mtC q).toArray 87)).cell? ⟨wr.heap.size, 0, none⟩ = some (.int .i64 q.1) := cell_of_row _ _ 0 _ _ _ HN.out
        have n3 := World.block_lt_of_cell? _ _ d3
        have n0 := World.block_lt_of_cell? _ _ d0
        have HH := Lib.hid (fun w => has_ok U hu q.1 w)
        have HC6 := Lib.hid (show (wr.alloc (.cells (mtC q).toArray 87)).cell? ⟨wr.heap.size, 6, none⟩ = some (.int .u16 (q.2.2.2.2.2 : Int)) from cell_of_row _ _ 6 _ _ _ HN.out)
        have HAN := Lib.hid (and_not v q.2.2.2.2.2 hv hqs)
        rw [← hV.out] at HL
        clear hkn hc3 hlt3 hq
        go_wp2_with (first
          | (refine wpList_load_mid rfl 87 (.tmp 23) rfl g (k * 7) rfl (mtC q) _ HQ.out Tryz.underlying87 rfl info_mrow ?_)
          | (refine wpList_store_new rfl 87 (.tmp 8) (.tmp 24) rfl _ (mtC q).toArray ?x1 ?x2 info_mrow rfl (all_oneCell_toArray (mtC_one' _)) ?_; (case x1 => first | rfl | (rw [World.size_alloc]; rfl)); (case x2 => rfl)))
        have hsz8 : wr.heap.size ≤ (wr.alloc (.cells (mtC q).toArray 87)).heap.size := HBN.out.size
        generalize wr.alloc (.cells (mtC q).toArray 87) = w8 at HN HBN d3 d0 n3 n0 HC6 hsz8 ⊢
        refine wp_region_over (by kernel_rfl) (by kernel_rfl) ?_
        repeat (go_big_quiet_step ((go_at_call 118; exact Calls.over_of ((HH.out _).mono fun e w' h => ⟨h.1, h.2 ▸ Below.refl _ _⟩))))
        refine wpQuiet_nil ?_
        intro W7 hW7
        have hb7 := below_of_over hW7
        have e6 := (hb7.cell (p := ⟨wr.heap.size, 6, none⟩) n0).trans HC6.out
        have m6 := World.block_lt_of_cell? _ _ e6
        have HB7 := Lib.hid (below_here hW.out (below_here HBN.out hb7))
        clear hW7 hb7 d3 d0 n3 n0
        have hlt2 : Mt.less CP U (l.take (k + 1)) < 65536 := Mt.less_lt _ _ _ hcp
        cases hd : Tag.has U q.1 with
        | true =>
          rw [hd, if_pos rfl] at HL
          have HL' := Lib.hid HL.out.symm
          clear HL
          go_wp2_with fail
          go_roundw
          case rel => exact ⟨k + 1, v, by go_num, rfl, by omega, hv, HL', HB7⟩
          case measure => simp [intOf]; omega
        | false =>
          rw [hd, if_neg (by simp)] at HL
          obtain ⟨v2, hv2⟩ : ∃ v2, v2 = v &&& (65535 - q.2.2.2.2.2) := ⟨_, rfl⟩
          rw [← hv2] at HL HAN
          have HL' := Lib.hid HL.out.symm
          rw [HL.out] at hlt2
          have han := HAN.out
          clear HL hv2 HAN
          go_wp2_with fail
          go_roundw
          case rel => exact ⟨k + 1, v2, by go_num, rfl, by omega, hlt2, HL', HB7⟩
          case measure => simp [intOf]; omega
  · have hRES : RES = 0 := by rw [HRES.out]; unfold Mt.alone; rw [Mt.find_no hno]
    subst hRES
    clear hno
    go_wp2_with fail
    go_ret
    exact ⟨rfl, HB1.out⟩
end Go.Proofs.YtlmacaenbililaaGreatDoor
namespace Go.Proofs.YtlmacaenbililaaGreatDoor
open Go.RowKit Go.Shelf
set_option linter.unusedSimpArgs false
set_option linter.unusedVariables false
attribute [local go_sem] cell_over frozen_over

set_option maxRecDepth 100000 in
set_option maxHeartbeats 2000000 in
theorem mthold1_ok (r : Mt.R) (hr : r.2.2.2.2.2 < 65536) (b : Nat) (tag : Int) (w : World) (hb : w.cell? ⟨b, 0, none⟩ = some (.int .i64 tag)) :
    Calls Tryz.prog 121 #[.agg (mtC r).toArray, .pointer (some ⟨b, 0, none⟩)] w fun e w' => e = .returned (.bool (Tag.has r.2.2.2.2.2 tag)) ∧ Below w.heap.size w w' := by
  have HB := Lib.hid (below_fresh w (.cells (mtC r).toArray 87))
  have hc : (w.alloc (.cells (mtC r).toArray 87)).cell? ⟨w.heap.size, 6, none⟩ = some (.int .u16 (r.2.2.2.2.2 : Int)) := cell_of_row _ _ 6 _ _ _ (heap_alloc_new w _)
  have hlt := World.block_lt_of_cell? w _ hb
  have hb' := (HB.out.cell (p := ⟨b, 0, none⟩) hlt).trans hb
  have HH := Lib.hid (fun w => has_ok r.2.2.2.2.2 hr tag w)
  go_enter Tryz.func121, Tryz.ntmps121
  go_wp2_with (go_at_call 118; refine (HH.out _).mono ?_; rintro e w' ⟨rfl, hw'⟩; obtain rfl := hw'.symm)
  go_ret
  exact ⟨rfl, HB.out⟩
set_option maxRecDepth 100000 in
set_option maxHeartbeats 4000000 in
theorem mteach_ok (A : Option Addr) (c : Nat) (l : List Mt.R) (hl : l.length ≤ 1000000) (hs : Mt.setsOk l) (b : Nat) (tag : Int) (w : World) (hA : MRows w A l) (hb : w.cell? ⟨b, 0, none⟩ = some (.int .i64 tag)) :
    Calls Tryz.prog 120 #[.slice A l.length c, .func (.func 121) #[] #[.pointer (some ⟨b, 0, none⟩)]] w fun e w' => e = .returned (.int .u16 (Mt.holders l tag : Int)) ∧ Below w.heap.size w w' := by
  have HA := Lib.hid hA
  have HS := Lib.hid hs
  have HBC := Lib.hid hb
  have hlb := World.block_lt_of_cell? w _ hb
  obtain ⟨RES, hRES⟩ : ∃ RES, RES = Mt.holders l tag := ⟨_, rfl⟩
  rw [← hRES]
  have HRES := Lib.hid hRES
  clear hA hs hb hRES
  go_enter Tryz.func120, Tryz.ntmps120
  go_wp2_with fail
  go_loopw [5, 10] (fun o j wr => ∃ (k v : Nat), j = .int .i64 (k : Int) ∧ o = .int .u16 (v : Int) ∧ k ≤ l.length ∧ v < 65536 ∧ Hid (v = Mt.holders (l.take k) tag) ∧ Hid (Below w.heap.size w wr)) (fun _ j _ => l.length - (intOf j).toNat)
  case atStart => exact ⟨0, 0, rfl, rfl, by omega, by omega, Lib.hid rfl, Lib.hid (Below.refl _ _)⟩
  case round =>
    obtain ⟨k, v, rfl, rfl, hk, hv, hV, hW⟩ := hrel
    by_cases hkn : k = l.length
    · subst hkn
      have hr := hV.out
      rw [List.take_length] at hr
      have HR := Lib.hid hr
      clear hr
      go_wp2_with fail
      go_ret
      exact ⟨by rw [HRES.out, ← HR.out]; rfl, hW.out⟩
    · have hkl : k < l.length := by omega
      have hki : (k : Int) < (l.length : Int) := by omega
      obtain ⟨q, hq⟩ : ∃ q, l[k]? = some q := ⟨_, List.getElem?_eq_getElem hkl⟩
      obtain ⟨g, rfl, hgl, hrg⟩ : ∃ g, A = some ⟨g, 0, none⟩ ∧ g < wr.heap.size ∧ wr.rangeAt g (k * 7) (mtC q) := by
        rcases HA.out.below hW.out with h | ⟨g, h1, h2, h3⟩
        · rw [h] at hkl; simp at hkl
        · exact ⟨g, h1, h2, h3 k q hq⟩
      have HQ := Lib.hid hrg
      have HL := Lib.hid (Mt.hold_take hq tag)
      have hqs := (HS.out k q hq).2
      have HN := Lib.hid (heap_alloc_new wr (.cells (mtC q).toArray 87))
      have HBN := Lib.hid (below_fresh wr (.cells (mtC q).toArray 87))
      have HBT := Lib.hid ((HBN.out.cell (p := ⟨b, 0, none⟩) (Nat.lt_of_lt_of_le hlb hW.out.size)).trans ((hW.out.cell (p := ⟨b, 0, none⟩) hlb).trans HBC.out))
      have HC := Lib.hid (fun w h => mthold1_ok q hqs b tag w h)
      have hot := Tag.of_lt [q.1]
      have HOF := Lib.hid (fun A W' (hA : IntsAt W' A [q.1]) => of_ok A 1 [q.1] (by simp) W' hA)
      have HOR := u16_or v (Tag.of [q.1]) hv hot
      have hlt2 := Mt.holders_lt (l.take (k + 1)) tag
      rw [← hV.out] at HL
      have HNR := Lib.hid (range_of_block HN.out 0 (mtC q) (fun j _ => by rw [Nat.zero_add]))
      generalize Tag.of [q.1] = ot at hot HOF HOR HL
      clear hkn hq hrg
      cases hd : Tag.has q.2.2.2.2.2 tag with
      | true =>
        rw [hd, if_pos rfl] at HL
        obtain ⟨v2, hv2⟩ : ∃ v2, v2 = v ||| ot := ⟨_, rfl⟩
        rw [← hv2] at HL HOR
        rw [HL.out] at hlt2
        have HL' := Lib.hid HL.out.symm
        rw [hd] at HC
        clear HL hv2 hd
        go_wp2_with (first
          | (refine wpList_load_mid rfl 87 (.tmp 12) rfl g (k * 7) rfl (mtC q) _ HQ.out Tryz.underlying87 rfl info_mrow ?_)
          | (refine wpList_store_new rfl 87 (.tmp 7) (.tmp 13) rfl _ (mtC q).toArray ?x1 ?x2 info_mrow rfl (all_oneCell_toArray (mtC_one' _)) ?_; (case x1 => first | rfl | (rw [World.size_alloc]; rfl)); (case x2 => rfl))
          | (refine wpList_load_mid rfl 87 (.tmp 7) rfl wr.heap.size 0 rfl (mtC q) _ HNR.out Tryz.underlying87 rfl info_mrow ?_)
          | (go_at_call 121; refine (HC.out _ HBT.out).mono ?_; rintro e w2 ⟨rfl, hb2⟩; have HB2 := Lib.hid (below_here (below_here hW.out HBN.out) hb2); have d0 : w2.cell? ⟨wr.heap.size, 0, none⟩ = some (.int .i64 q.1) := cell_of_row _ _ 0 _ _ _ (block_below hb2 HN.out); have n0 := World.block_lt_of_cell? _ _ d0; clear hb2)
          | (go_at_call 106; refine (HOF.out _ _ (ints_new' w2 _ _)).mono ?_; rintro e w3 ⟨rfl, hw3⟩; obtain rfl := hw3.symm))
        have HB3 := Lib.hid (below_new HB2.out (.cells #[.int .i64 q.1] 3))
        go_roundw
        case rel => exact ⟨k + 1, v2, by go_num, rfl, by omega, hlt2, HL', HB3⟩
        case measure => simp [intOf]; omega
      | false =>
        rw [hd, if_neg (by simp)] at HL
        have HL' := Lib.hid HL.out.symm
        rw [hd] at HC
        clear HL hd
        go_wp2_with (first
          | (refine wpList_load_mid rfl 87 (.tmp 12) rfl g (k * 7) rfl (mtC q) _ HQ.out Tryz.underlying87 rfl info_mrow ?_)
          | (refine wpList_store_new rfl 87 (.tmp 7) (.tmp 13) rfl _ (mtC q).toArray ?x1 ?x2 info_mrow rfl (all_oneCell_toArray (mtC_one' _)) ?_; (case x1 => first | rfl | (rw [World.size_alloc]; rfl)); (case x2 => rfl))
          | (refine wpList_load_mid rfl 87 (.tmp 7) rfl wr.heap.size 0 rfl (mtC q) _ HNR.out Tryz.underlying87 rfl info_mrow ?_)
          | (go_at_call 121; refine (HC.out _ HBT.out).mono ?_; rintro e w2 ⟨rfl, hb2⟩; have HB2 := Lib.hid (below_here (below_here hW.out HBN.out) hb2); clear hb2))
        go_roundw
        case rel => exact ⟨k + 1, v, by go_num, rfl, by omega, hv, HL', HB2⟩
        case measure => simp [intOf]; omega
set_option maxRecDepth 100000 in
set_option maxHeartbeats 2000000 in
theorem mtholders_ok (A : Option Addr) (c : Nat) (l : List Mt.R) (hl : l.length ≤ 1000000) (hs : Mt.setsOk l) (tag : Int) (w : World) (hA : MRows w A l) :
    Calls Tryz.prog 50 #[.slice A l.length c, .int .i64 tag] w fun e w' => e = .returned (.int .u16 (Mt.holders l tag : Int)) ∧ Below w.heap.size w w' := by
  have HB0 := Lib.hid (below_fresh w (.cells #[.int .i64 tag] 3))
  have HE := Lib.hid (mteach_ok A c l hl hs w.heap.size tag _ (hA.below HB0.out) (cell_of_row (w.alloc (.cells #[.int .i64 tag] 3)) w.heap.size 0 _ _ _ (heap_alloc_new w _)))
  clear hA
  go_enter Tryz.func50, Tryz.ntmps50
  go_wp2_with fail
  refine HE.out.mono ?_
  rintro e w1 ⟨rfl, hb1⟩
  have HB1 := Lib.hid (below_here HB0.out hb1)
  clear hb1
  go_wp2_with fail
  go_ret
  exact ⟨rfl, HB1.out⟩
end Go.Proofs.YtlmacaenbililaaGreatDoor
namespace Go.Proofs.YtlmacaenbililaaGreatDoor
open Go.RowKit Go.Shelf
set_option linter.unusedSimpArgs false
set_option linter.unusedVariables false
attribute [local go_sem] cell_over frozen_over

/-- The first policy. -/
def polOne : Pol.P := { live := 1, labels := (0, 65535) :: List.replicate 15 (0, 0), acts := List.replicate 16 0, owner := List.replicate 16 0, active := 65535 }
theorem polOne_ok : Pol.Ok polOne := ⟨by decide, by decide, by unfold polOne Lab.ok; decide, by decide, by decide, by decide, by decide, by decide⟩
theorem polOne_val : Pol.val polOne = .agg pol1.toArray := rfl
def mtRow0 : Mt.R := (0, (0, 65535), 1, 1, 65535, 65535)
def mtRow1 : Mt.R := (1, (0, 0), 3, 2, 0, 8)
theorem down_full {g : List Nat} {w : Nat} (h : w < 65536) : Gr.down g w w = w :=
  Gr.IsDown.same (g := g) (w := w) (S := w) (Gr.down_is h) ⟨h, fun i hi => ⟨fun hb => .start hi hb hb, fun hr => hr.within⟩⟩
theorem polOne_seen : Pol.seen polOne Lab.bot = 1 := by
  refine Tag.ext (Pol.seen_lt _ _) (by omega) fun i hi => ?_
  unfold Pol.seen
  rw [Pol.setOf_bit _ hi]
  by_cases e : i = 0
  · subst e
    show (Nat.testBit 1 0 && Lab.flows (0, 65535) (0, 65535)) = Nat.testBit 1 0
    have : Lab.flows (0, 65535) (0, 65535) = true := by
      unfold Lab.flows
      rw [Pol.sub_of (fun i _ h => h), Pol.sub_of (fun i _ h => h)]; rfl
    rw [this]; rfl
  · have h1 : Nat.testBit 1 i = false := by
      rw [show (1 : Nat) = 2 ^ 0 from rfl, Nat.testBit_two_pow]
      simpa using fun h : 0 = i => e h.symm
    show (Nat.testBit 1 i && _) = Nat.testBit 1 i
    rw [h1]; rfl
theorem polOne_owned : Pol.owned polOne 1 &&& polOne.active = 65535 := by
  refine Tag.ext (Nat.lt_of_le_of_lt Nat.and_le_left (Pol.owned_lt _ _)) (by omega) fun i hi => ?_
  have h0 : Pol.own polOne i = 0 := by
    have : ∀ j : Fin 16, Pol.own polOne j.val = 0 := by decide
    exact this ⟨i, hi⟩
  rw [Nat.testBit_and, Pol.owned_bit polOne (by decide) hi, h0]
  show (Nat.testBit 1 0 && Nat.testBit 65535 i) = Nat.testBit 65535 i
  rw [show Nat.testBit 1 0 = true from rfl, Bool.true_and]
theorem caps_def (p : Pol.P) (r : Int) (l : Lab.L) (D : Nat) (h : Pol.downOf p r l = D) (x : Nat) (hx : Pol.owned p D &&& p.active = x) : Pol.caps p r l = x := by
  unfold Pol.caps
  rw [h, hx]
theorem row_def (p : Pol.P) (l : Lab.L) (r s u d o c : Nat) (hs : Pol.seen p l = s) (hu : Gr.down (Gr.turn p.acts) s (2 ^ r) = u) (hd : Gr.down p.acts s (2 ^ r) = d) (ho : Pol.owned p (2 ^ r) &&& p.active = o) (hc : Pol.caps p (r : Int) l = c) : Pol.row p l r = ((r : Int), Pol.lab p r, u, d, o, c) := by
  unfold Pol.row
  rw [hs, hu, hd, ho, hc]
theorem polOne_down : Pol.downOf polOne ((0 : Nat) : Int) Lab.bot = 1 := by
  rw [Pol.downOf_nat polOne (by decide), polOne_seen, Nat.pow_zero]
  exact @down_full polOne.acts 1 (by decide)
theorem polOne_row : Pol.row polOne Lab.bot 0 = mtRow0 :=
  (row_def polOne Lab.bot 0 1 1 1 65535 65535 polOne_seen (@down_full (Gr.turn polOne.acts) 1 (by decide)) (@down_full polOne.acts 1 (by decide)) polOne_owned (caps_def polOne _ Lab.bot 1 polOne_down 65535 polOne_owned)).trans rfl
theorem polOne_rows : Pol.rows polOne Lab.bot = [mtRow0] := by
  unfold Pol.rows
  rw [polOne_seen, show Tag.tags 1 = [0] by decide +kernel, List.map_singleton, polOne_row]
theorem mtRow1_can : Mt.can mtRow1 := by unfold Mt.can Lab.ok; decide
theorem mtRow1_line : Mt.line mtRow1 = [49, 32, 45, 47, 45, 32, 48, 44, 49, 32, 49, 32, 45, 32, 51] := by decide +kernel
theorem mtBad_parse : Mt.parse [49, 54, 32, 45, 47, 45, 32, 48, 32, 49, 32, 45, 32, 51] = (Mt.zero, 3) := by decide +kernel
theorem alone0 : Mt.alone [mtRow0] 0 = 65535 := by decide +kernel
theorem alone1 : Mt.alone [mtRow0] 1 = 0 := by decide +kernel
theorem holders3 : Mt.holders [mtRow0] 3 = 1 := by decide +kernel
theorem one_row {g : Nat} {w : World} (hg : g < w.heap.size) (hr : w.rangeAt g 0 (mtC mtRow0)) : MRows w (some ⟨g, 0, none⟩) [mtRow0] := .inr ⟨g, rfl, hg, fun i r h => by
  have hi : i = 0 := by
    have := (List.getElem?_eq_some_iff.1 h).1
    simpa using this
  subst hi
  obtain rfl : mtRow0 = r := by simpa using h
  rw [Nat.zero_mul]
  exact hr⟩
theorem mtRow0_sets : Mt.setsOk [mtRow0] := by
  intro i r hr
  have hi : i = 0 := by
    have := (List.getElem?_eq_some_iff.1 hr).1
    simpa using this
  subst hi
  obtain rfl : mtRow0 = r := by simpa using hr
  decide
set_option maxRecDepth 100000 in
set_option maxHeartbeats 8000000 in
theorem mtalive_ok (w : World) (hL : LaidAt w) : Calls Tryz.prog 52 #[] w fun e w' => e = .returned (.bool true) ∧ Below w.heap.size w w' := by
  have HOF : Hid (∀ w, TabAt w → Calls Tryz.prog 44 #[.agg pol1.toArray, labV Lab.bot] w fun e w' => (∃ g cap, e = .returned (.slice (some ⟨g, 0, none⟩) 1 cap) ∧ g < w'.heap.size ∧ w'.rangeAt g 0 (mtC mtRow0)) ∧ Below w.heap.size w w') := Lib.hid fun w h => by
    have := mtof_ok polOne polOne_ok Lab.bot ⟨by decide, by decide⟩ w h
    rw [polOne_val] at this
    refine this.mono ?_
    rintro e w' ⟨v, rfl, hown, hb⟩
    rw [rowsC_flat, polOne_rows] at hown
    obtain ⟨A, cap, rfl, hA, _⟩ := mrows_of_own hown
    rcases hA with h | ⟨g, rfl, h2, h3⟩
    · cases h
    · exact ⟨⟨g, cap, rfl, h2, by have := h3 0 mtRow0 rfl; rwa [Nat.zero_mul] at this⟩, hb⟩
  have HP1 : Hid (∀ w, LaidAt w → Calls Tryz.prog 53 #[.string ⟨#[49, 32, 45, 47, 45, 32, 48, 44, 49, 32, 49, 32, 45, 32, 51]⟩] w fun e w' => e = .returned (.tuple #[.agg #[.int .i64 1, .int .u16 0, .int .u16 0, .int .u16 3, .int .u16 2, .int .u16 0, .int .u16 8], .int .i64 0]) ∧ Below w.heap.size w w') := Lib.hid fun w h => by
    have := mtparse_ok ⟨#[49, 32, 45, 47, 45, 32, 48, 44, 49, 32, 49, 32, 45, 32, 51]⟩ (by decide) w h
    rw [show (⟨#[49, 32, 45, 47, 45, 32, 48, 44, 49, 32, 49, 32, 45, 32, 51]⟩ : ByteArray).data.toList = Mt.line mtRow1 from mtRow1_line.symm, Mt.parse_line mtRow1_can] at this
    exact this
  have HP2 : Hid (∀ w, LaidAt w → Calls Tryz.prog 53 #[.string ⟨#[49, 54, 32, 45, 47, 45, 32, 48, 32, 49, 32, 45, 32, 51]⟩] w fun e w' => e = .returned (.tuple #[.agg #[.int .i64 0, .int .u16 0, .int .u16 0, .int .u16 0, .int .u16 0, .int .u16 0, .int .u16 0], .int .i64 3]) ∧ Below w.heap.size w w') := Lib.hid fun w h => by
    have := mtparse_ok ⟨#[49, 54, 32, 45, 47, 45, 32, 48, 32, 49, 32, 45, 32, 51]⟩ (by decide) w h
    rw [show (⟨#[49, 54, 32, 45, 47, 45, 32, 48, 32, 49, 32, 45, 32, 51]⟩ : ByteArray).data.toList = [49, 54, 32, 45, 47, 45, 32, 48, 32, 49, 32, 45, 32, 51] from rfl, mtBad_parse] at this
    exact this
  have HLN : Hid (∀ w, LaidAt w → Calls Tryz.prog 55 #[.agg #[.int .i64 1, .int .u16 0, .int .u16 0, .int .u16 3, .int .u16 2, .int .u16 0, .int .u16 8]] w fun e w' => e = .returned (.string ⟨#[49, 32, 45, 47, 45, 32, 48, 44, 49, 32, 49, 32, 45, 32, 51]⟩) ∧ Below w.heap.size w w') := Lib.hid fun w h => by
    have := mtline_ok mtRow1 (Mt.can_ok mtRow1_can) w h.tab h.pow
    rw [mtRow1_line] at this
    exact this
  have HA0 : Hid (∀ g c w, g < w.heap.size → w.rangeAt g 0 (mtC mtRow0) → Calls Tryz.prog 48 #[.slice (some ⟨g, 0, none⟩) 1 c, .int .i64 0] w fun e w' => e = .returned (.int .u16 65535) ∧ Below w.heap.size w w') := Lib.hid fun g c w hg hr => by
    have := mtalone_ok (some ⟨g, 0, none⟩) c [mtRow0] (by simp) mtRow0_sets 0 w (one_row hg hr)
    rw [alone0] at this
    exact this
  have HA1 : Hid (∀ g c w, g < w.heap.size → w.rangeAt g 0 (mtC mtRow0) → Calls Tryz.prog 48 #[.slice (some ⟨g, 0, none⟩) 1 c, .int .i64 1] w fun e w' => e = .returned (.int .u16 0) ∧ Below w.heap.size w w') := Lib.hid fun g c w hg hr => by
    have := mtalone_ok (some ⟨g, 0, none⟩) c [mtRow0] (by simp) mtRow0_sets 1 w (one_row hg hr)
    rw [alone1] at this
    exact this
  have HH3 : Hid (∀ g c w, g < w.heap.size → w.rangeAt g 0 (mtC mtRow0) → Calls Tryz.prog 50 #[.slice (some ⟨g, 0, none⟩) 1 c, .int .i64 3] w fun e w' => e = .returned (.int .u16 1) ∧ Below w.heap.size w w') := Lib.hid fun g c w hg hr => by
    have := mtholders_ok (some ⟨g, 0, none⟩) c [mtRow0] (by simp) mtRow0_sets 3 w (one_row hg hr)
    rw [holders3] at this
    exact this
  have HLw := Lib.hid hL
  clear hL
  go_enter Tryz.func52, Tryz.ntmps52
  go_wp2_with fail
  refine (pfirst_ok _).mono ?_
  rintro e w1 ⟨rfl, hb1⟩
  have HB1 := Lib.hid hb1
  clear hb1
  go_wp2_with fail
  refine (bottom_ok _).mono ?_
  rintro e w2 ⟨rfl, hb2⟩
  have HB2 := Lib.hid (below_here HB1.out hb2)
  clear hb2
  go_wp2_with fail
  refine (HOF.out _ (HLw.out.below HB2.out).tab).mono ?_
  rintro e w3 ⟨⟨g, cap, rfl, hg3, hr3⟩, hb3⟩
  have HB3 := Lib.hid (below_here HB2.out hb3)
  have HG3 := Lib.hid hr3
  clear hb3 hr3
  go_wp2_with fail
  refine (HP1.out _ (HLw.out.below HB3.out)).mono ?_
  rintro e w4 ⟨rfl, hb4⟩
  have hb5 := hb4.trans ((below_fresh w4 (.cells #[.int .i64 1, .int .u16 0, .int .u16 0, .int .u16 3, .int .u16 2, .int .u16 0, .int .u16 8] 87)).mono hb4.size)
  have HG5 := Lib.hid (range_below HG3.out hb5 hg3)
  have hg5 := Nat.lt_of_lt_of_le hg3 hb5.size
  have HX5 := Lib.hid (heap_alloc_new w4 (.cells #[.int .i64 1, .int .u16 0, .int .u16 0, .int .u16 3, .int .u16 2, .int .u16 0, .int .u16 8] 87))
  have HB5 := Lib.hid (below_here HB3.out hb5)
  clear hb4 hb5 hg3
  go_wp2_with (refine wpList_store_new rfl 87 (.tmp 2) (.tmp 14) rfl _ #[.int .i64 1, .int .u16 0, .int .u16 0, .int .u16 3, .int .u16 2, .int .u16 0, .int .u16 8] ?x1 ?x2 info_mrow rfl (by simp [Value.oneCell']) ?_; (case x1 => first | rfl | (rw [World.size_alloc]; rfl)); (case x2 => rfl))
  refine (HP2.out _ (HLw.out.below HB5.out)).mono ?_
  rintro e w6 ⟨rfl, hb6⟩
  have hb7 := hb6.trans ((below_fresh w6 (.cells #[.int .i64 0, .int .u16 0, .int .u16 0, .int .u16 0, .int .u16 0, .int .u16 0, .int .u16 0] 87)).mono hb6.size)
  have HG7 := Lib.hid (range_below HG5.out hb7 hg5)
  have hg7 := Nat.lt_of_lt_of_le hg5 hb7.size
  have HX7 := Lib.hid (block_below hb7 HX5.out)
  have HB7 := Lib.hid (below_here HB5.out hb7)
  clear hb6 hb7 hg5
  have c6 : (w6.alloc (.cells #[.int .i64 0, .int .u16 0, .int .u16 0, .int .u16 0, .int .u16 0, .int .u16 0, .int .u16 0] 87)).cell? ⟨g, 6, none⟩ = some (.int .u16 65535) := HG7.out 6 _ rfl
  have c3 : (w6.alloc (.cells #[.int .i64 0, .int .u16 0, .int .u16 0, .int .u16 0, .int .u16 0, .int .u16 0, .int .u16 0] 87)).cell? ⟨g, 3, none⟩ = some (.int .u16 1) := HG7.out 3 _ rfl
  go_wp2_with (refine wpList_store_new rfl 87 (.tmp 4) (.tmp 18) rfl _ #[.int .i64 0, .int .u16 0, .int .u16 0, .int .u16 0, .int .u16 0, .int .u16 0, .int .u16 0] ?x1 ?x2 info_mrow rfl (by simp [Value.oneCell']) ?_; (case x1 => first | rfl | (rw [World.size_alloc]; rfl)); (case x2 => rfl))
  refine (HA0.out _ _ _ hg7 HG7.out).mono ?_
  rintro e w8 ⟨rfl, hb8⟩
  have HG8 := Lib.hid (range_below HG7.out hb8 hg7)
  have hg8 := Nat.lt_of_lt_of_le hg7 hb8.size
  have HX8 := Lib.hid (block_below hb8 HX7.out)
  have HB8 := Lib.hid (below_here HB7.out hb8)
  clear hb8 hg7 c6 c3
  go_wp2_with fail
  refine (HA1.out _ _ _ hg8 HG8.out).mono ?_
  rintro e w9 ⟨rfl, hb9⟩
  have HG9 := Lib.hid (range_below HG8.out hb9 hg8)
  have hg9 := Nat.lt_of_lt_of_le hg8 hb9.size
  have HX9 := Lib.hid (block_below hb9 HX8.out)
  have HB9 := Lib.hid (below_here HB8.out hb9)
  clear hb9 hg8
  go_wp2_with fail
  refine (HH3.out _ _ _ hg9 HG9.out).mono ?_
  rintro e w10 ⟨rfl, hb10⟩
  have HB10 := Lib.hid (below_here HB9.out hb10)
  obtain ⟨⟨x0, x1, x2, x3, x4, x5, x6⟩, xl⟩ := seven_of (block_below hb10 HX9.out)
  clear hb10 hg9 HX5 HX7 HX8 HX9
  generalize w4.heap.size = n4 at x0 x1 x2 x3 x4 x5 x6 xl ⊢
  have hbd : ∀ W : World, (Instr.build 87 #[(0, .int .i64 1), (2, .int .u16 3), (3, .int .u16 2), (5, .int .u16 8)]).run Tryz.prog W = .ok (.agg #[.int .i64 1, .int .u16 0, .int .u16 0, .int .u16 3, .int .u16 2, .int .u16 0, .int .u16 8]) W := fun W => by kernel_rfl
  generalize hS : (⟨#[49, 32, 45, 47, 45, 32, 48, 44, 49, 32, 49, 32, 45, 32, 51]⟩ : ByteArray) = S1 at HLN ⊢
  have hpt : S1.toList = [49, 32, 45, 47, 45, 32, 48, 44, 49, 32, 49, 32, 45, 32, 51] := by rw [← hS]; decide +kernel
  have hpe : (S1.toList == [49, 32, 45, 47, 45, 32, 48, 44, 49, 32, 49, 32, 45, 32, 51]) = true := by rw [hpt]; decide
  clear hS
  go_wp2_with fail
  refine (HLN.out _ (HLw.out.below HB10.out)).mono ?_
  rintro e w11 ⟨rfl, hb11⟩
  have HB11 := Lib.hid (below_here HB10.out hb11)
  clear hb11
  go_wp2_with fail
  go_ret
  exact ⟨rfl, HB11.out⟩
end Go.Proofs.YtlmacaenbililaaGreatDoor
