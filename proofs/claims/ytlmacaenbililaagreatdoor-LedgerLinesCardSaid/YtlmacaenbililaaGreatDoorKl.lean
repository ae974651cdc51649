/- Names that came in, opened. Rows of a ledger that came in, opened. LedgerLines: the walk. No conditions. -/
import Derived.Test.YtlmacaenbililaaGreatDoorLopen
import Derived.Test.YtlmacaenbililaaGreatDoorIlaw
import Derived.Test.YtlmacaenbililaaGreatDoorKe
import Derived.Test.YtlmacaenbililaaGreatDoorKd
namespace Go.Proofs.YtlmacaenbililaaGreatDoor
open Go.RowKit Go.WideShapes
set_option linter.unusedVariables false
set_option linter.unusedSimpArgs false

theorem i64_in_wf {n : Int} (h : (Lit.int .i64 n).wf = true) : -9223372036854775808 ≤ n ∧ n ≤ 9223372036854775807 := by
  simp [Lit.wf, IntKind.min, IntKind.max, IntKind.signed, IntKind.bits] at h
  omega
def kIdn : Kn Idn.I := ⟨4, fun _ x cs => cs = idC x⟩
set_option maxRecDepth 100000 in
theorem opens_idn : Opens Tryz.prog 64 kIdn (fun x => Lab.ok x.1 ∧ (-9223372036854775808 ≤ x.2.1 ∧ x.2.1 ≤ 9223372036854775807) ∧ (-9223372036854775808 ≤ x.2.2 ∧ x.2.2 ≤ 9223372036854775807)) :=
  opens_imp (d := Kn.pair kLab (Kn.pair (Kn.int .i64) (Kn.int .i64))) (fun x : Lab.L × Int × Int => (x : Idn.I)) (opens_struct Tryz.underlying64 (by kernel_rfl) (opensF_cons rfl (by kernel_rfl) opens_lab (opensF_cons rfl (by kernel_rfl) (opens_int Tryz.underlying3) (opensF_one rfl (by kernel_rfl) (opens_int Tryz.underlying3))))) (fun x ⟨h1, h2, h3⟩ => ⟨h1, i64_in_wf h2, i64_in_wf h3⟩)
    (fun w x cs _ hK => by
      obtain ⟨c3, r3, rfl, h3, c4, r4, rfl, h4, h5⟩ := hK
      have e3 : c3 = _ := h3
      have e4 : c4 = _ := h4
      have e5 : r4 = _ := h5
      subst e3 e4 e5
      rfl)
set_option maxRecDepth 100000 in
theorem id_value {H : Type} {enc : TypeId × Value → H} {w : World} {base : Nat} {b0 : Nat} {r : Reach} {spare : Nat → Bool} {held : Bool} {v : Value} {x : DataW H} {p : List MemPlace} (hv : Value.okWide Tryz.prog w r b0 64 v)
    (ht : DataW.Trod enc Tryz.prog w base spare held 64 v x p) : ∃ e : Idn.I, v = idV e ∧ Lab.ok e.1 ∧ (-9223372036854775808 ≤ e.2.1 ∧ e.2.1 ≤ 9223372036854775807) ∧ (-9223372036854775808 ≤ e.2.2 ∧ e.2.2 ≤ 9223372036854775807) := by
  obtain ⟨cs, rfl, _⟩ := okWide_struct Tryz.underlying64 hv
  obtain ⟨e, hK, hB⟩ := opens_idn.value ht
  have hK' : cs.toList = idC e := hK
  refine ⟨e, ?_, hB⟩
  rw [show cs = (idC e).toArray from Array.toList_inj.1 (hK'.trans (by rfl))]
end Go.Proofs.YtlmacaenbililaaGreatDoor
namespace Go.Proofs.YtlmacaenbililaaGreatDoor
open Go.RowKit Go.WideShapes
set_option linter.unusedVariables false
set_option linter.unusedSimpArgs false

def kRow : Kn Lg.R := ⟨10, fun _ x cs => cs = lgC x⟩
def Lg.in64 (r : Lg.R) : Prop := Lab.ok r.1 ∧ r.2.length = 8 ∧ ∀ n ∈ r.2, -9223372036854775808 ≤ n ∧ n ≤ 9223372036854775807
set_option maxRecDepth 100000 in
theorem opens_row : Opens Tryz.prog 48 kRow Lg.in64 :=
  opens_imp (d := Kn.pair kLab (Kn.pair (Kn.int .i64) (Kn.pair (Kn.int .i64) (Kn.pair (Kn.int .i64) (Kn.pair (Kn.int .i64) (Kn.pair (Kn.int .i64) (Kn.pair (Kn.int .i64) (Kn.pair (Kn.int .i64) (Kn.int .i64))))))))) (fun x : Lab.L × Int × Int × Int × Int × Int × Int × Int × Int => ((x.1, [x.2.1, x.2.2.1, x.2.2.2.1, x.2.2.2.2.1, x.2.2.2.2.2.1, x.2.2.2.2.2.2.1, x.2.2.2.2.2.2.2.1, x.2.2.2.2.2.2.2.2]) : Lg.R)) (opens_struct Tryz.underlying48 (by kernel_rfl) (opensF_cons rfl (by kernel_rfl) opens_lab (opensF_cons rfl (by kernel_rfl) (opens_int Tryz.underlying3) (opensF_cons rfl (by kernel_rfl) (opens_int Tryz.underlying3) (opensF_cons rfl (by kernel_rfl) (opens_int Tryz.underlying3) (opensF_cons rfl (by kernel_rfl) (opens_int Tryz.underlying3) (opensF_cons rfl (by kernel_rfl) (opens_int Tryz.underlying3) (opensF_cons rfl (by kernel_rfl) (opens_int Tryz.underlying3) (opensF_cons rfl (by kernel_rfl) (opens_int Tryz.underlying3) (opensF_one rfl (by kernel_rfl) (opens_int Tryz.underlying3))))))))))) (fun x ⟨h0, h1, h2, h3, h4, h5, h6, h7, h8⟩ => ⟨h0, rfl, fun n hn => by
      simp only [List.mem_cons, List.not_mem_nil, or_false] at hn
      rcases hn with rfl | rfl | rfl | rfl | rfl | rfl | rfl | rfl
      · exact i64_in_wf h1
      · exact i64_in_wf h2
      · exact i64_in_wf h3
      · exact i64_in_wf h4
      · exact i64_in_wf h5
      · exact i64_in_wf h6
      · exact i64_in_wf h7
      · exact i64_in_wf h8⟩)
    (fun w x cs _ hK => by
      obtain ⟨c0, r0, rfl, e0, c1, r1, rfl, e1, c2, r2, rfl, e2, c3, r3, rfl, e3, c4, r4, rfl, e4, c5, r5, rfl, e5, c6, r6, rfl, e6, c7, r7, rfl, e7, e8⟩ := hK
      have e0 : c0 = _ := e0
      have e1 : c1 = _ := e1
      have e2 : c2 = _ := e2
      have e3 : c3 = _ := e3
      have e4 : c4 = _ := e4
      have e5 : c5 = _ := e5
      have e6 : c6 = _ := e6
      have e7 : c7 = _ := e7
      have e8 : r7 = _ := e8
      subst e0 e1 e2 e3 e4 e5 e6 e7 e8
      rfl)
set_option maxRecDepth 100000 in
theorem row_value {H : Type} {enc : TypeId × Value → H} {w : World} {base : Nat} {b0 : Nat} {r : Reach} {spare : Nat → Bool} {held : Bool} {v : Value} {x : DataW H} {p : List MemPlace} (hv : Value.okWide Tryz.prog w r b0 48 v)
    (ht : DataW.Trod enc Tryz.prog w base spare held 48 v x p) : ∃ e : Lg.R, v = lgV e ∧ Lg.in64 e := by
  obtain ⟨cs, rfl, _⟩ := okWide_struct Tryz.underlying48 hv
  obtain ⟨e, hK, hB⟩ := opens_row.value ht
  have hK' : cs.toList = lgC e := hK
  refine ⟨e, ?_, hB⟩
  rw [show cs = (lgC e).toArray from Array.toList_inj.1 (hK'.trans (by rfl))]
  rfl
end Go.Proofs.YtlmacaenbililaaGreatDoor
namespace Go.Proofs.YtlmacaenbililaaGreatDoor
open Go.RowKit Go.Shelf
set_option linter.unusedSimpArgs false
set_option linter.unusedVariables false
attribute [local go_sem] cell_over frozen_over

namespace Lg
theorem itoa_short {n : Int} (h : 0 ≤ n ∧ n ≤ 999999) : (Lib.itoa n).length ≤ 6 := by
  obtain ⟨u, rfl⟩ : ∃ u : Nat, n = (u : Int) := ⟨n.toNat, by omega⟩
  rw [Tr.itoa_nat]
  exact Tr.dec_short.2 (by omega)
theorem line_max {r : R} (h : can r) : (line r).length ≤ 1000 := by
  obtain ⟨a, l⟩ := r
  obtain ⟨n0, n1, n2, n3, n4, n5, n6, n7, rfl⟩ := list8 h.2.1
  have h0 : (Lab.text a).length ≤ 99 := by have := labtext_size a; simpa [ByteArray.size] using this
  have hn : ∀ n ∈ [n0, n1, n2, n3, n4, n5, n6, n7], (Lib.itoa n).length ≤ 6 := fun n hn => itoa_short (h.2.2 n hn)
  have h1 := hn n0 (by simp)
  have h2 := hn n1 (by simp)
  have h3 := hn n2 (by simp)
  have h4 := hn n3 (by simp)
  have h5 := hn n4 (by simp)
  have h6 := hn n5 (by simp)
  have h7 := hn n6 (by simp)
  have h8 := hn n7 (by simp)
  simp [line, words, Lib.join, List.intercalate]
  omega
end Lg
/-- What the two parsers answer. -/
theorem lg_both (s : ByteArray) : ∃ (p : Lg.R) (e : Int) (ok : Bool), Lg.parse s.data.toList = (p, e) ∧ rlgRes (Lg.rparse s.data.toList) = .tuple #[lgV p, .bool ok] ∧ p.2.length = 8 ∧ (e = 0 ∧ ok = true ∨ e = 3 ∧ ok = false) := by
  by_cases h : (Lg.parse s.data.toList).2 = 0
  · refine ⟨(Lg.parse s.data.toList).1, 0, true, by rw [← h], ?_, (Lg.parse_can h).1.2.1, .inl ⟨rfl, rfl⟩⟩
    rw [Lg.rparse_is, if_pos h]
    rfl
  · have h3 := (Lg.parse_e s.data.toList).resolve_left h
    refine ⟨Lg.zero, 3, false, h3, ?_, rfl, .inr ⟨rfl, rfl⟩⟩
    rw [Lg.rparse_is, if_neg h]
    rfl
set_option maxRecDepth 100000 in
set_option maxHeartbeats 4000000 in
theorem lglines_big (r : Lg.R) (hr : Lg.in64 r) (s : ByteArray) (hs : ¬ s.size ≤ 500) (w : World) (hL : LaidAt w) : Calls Tryz.prog 4 #[lgV r, .string s] w fun e w' => e = .returned (.bool true) ∧ Below w.heap.size w w' := by
  have HLw := Lib.hid hL
  have HB0 := Lib.hid (below_fresh w (.cells (lgC r).toArray 48))
  have hs' : (500 : Int) < (s.size : Int) := by omega
  clear hL hs
  unfold lgV
  go_enter Tryz.func4, Tryz.ntmps4
  go_wp2_with fail
  refine (lgalive_ok _ (HLw.out.below HB0.out)).mono ?_
  rintro e w1 ⟨rfl, hb1⟩
  have HB1 := Lib.hid (below_here HB0.out hb1)
  clear hb1
  go_wp2_with fail
  go_ret
  exact ⟨rfl, HB1.out⟩
theorem LG_rows (r : Lg.R) (h : r.2.length = 8) (k : Nat) (hk : k < 8) (w : World) (b : Nat) (hI : IntRow w b r.2) : ∃ n, r.2[k]? = some n ∧ w.cell? ⟨b, k, none⟩ = some (.int .i64 n) := by
  refine ⟨r.2[k]'(by omega), List.getElem?_eq_getElem _, hI.cell k (by omega)⟩
set_option maxRecDepth 100000 in
set_option maxHeartbeats 4000000 in
/-- Behind the texts: the row's own numbers, its line, and back. -/
theorem lglines_few (c1 c2 : Nat) (L : List Int) (hr : Lg.in64 ((c1, c2), L)) (s : ByteArray) (hs : s.size ≤ 500) (w : World) (hL : LaidAt w) : Calls Tryz.prog 4 #[lgV ((c1, c2), L), .string s] w fun e w' => e = .returned (.bool true) ∧ Below w.heap.size w w' := by
  have HLw := Lib.hid hL
  have h8 : L.length = 8 := hr.2.1
  obtain ⟨m0, m1, m2, m3, m4, m5, m6, m7, hL8⟩ := list8 h8
  have hV : lgV ((c1, c2), L) = .agg #[.int .u16 (c1 : Int), .int .u16 (c2 : Int), .int .i64 m0, .int .i64 m1, .int .i64 m2, .int .i64 m3, .int .i64 m4, .int .i64 m5, .int .i64 m6, .int .i64 m7] := by rw [hL8]; rfl
  have HNU : Hid (∀ w, Calls Tryz.prog 26 #[.agg #[.int .u16 (c1 : Int), .int .u16 (c2 : Int), .int .i64 m0, .int .i64 m1, .int .i64 m2, .int .i64 m3, .int .i64 m4, .int .i64 m5, .int .i64 m6, .int .i64 m7]] w fun e w' => ∃ b, e = .returned (.slice (some ⟨b, 0, none⟩) 8 8) ∧ IntRow w' b L ∧ w.heap.size < b ∧ Below w.heap.size w w') := Lib.hid (fun w => by
    have h := r44numbers_ok ((c1, c2), L) hr.2.1 w
    rw [hV] at h
    exact h)
  have HLI : Hid (Lg.can ((c1, c2), L) → ∀ w, LaidAt w → Calls Tryz.prog 27 #[.agg #[.int .u16 (c1 : Int), .int .u16 (c2 : Int), .int .i64 m0, .int .i64 m1, .int .i64 m2, .int .i64 m3, .int .i64 m4, .int .i64 m5, .int .i64 m6, .int .i64 m7]] w fun e w' => e = .returned (.string ⟨(Lg.line ((c1, c2), L)).toArray⟩) ∧ Below w.heap.size w w') := Lib.hid (fun hc w hL => by
    have h := lgline_ok ((c1, c2), L) hr w hL.tab hL.pow
    rw [hV] at h
    exact h)
  have HRL : Hid (Lg.can ((c1, c2), L) → ∀ w, Calls Tryz.prog 28 #[.agg #[.int .u16 (c1 : Int), .int .u16 (c2 : Int), .int .i64 m0, .int .i64 m1, .int .i64 m2, .int .i64 m3, .int .i64 m4, .int .i64 m5, .int .i64 m6, .int .i64 m7]] w fun e w' => e = .returned (.string ⟨(Lg.line ((c1, c2), L)).toArray⟩) ∧ Below w.heap.size w w') := Lib.hid (fun hc w => by
    have h := rlgline_ok ((c1, c2), L) hc w
    rw [hV] at h
    exact h)
  have HPB : Hid (Lg.can ((c1, c2), L) → ∀ w, LaidAt w → Calls Tryz.prog 24 #[.string ⟨(Lg.line ((c1, c2), L)).toArray⟩] w fun e w' => e = .returned (.tuple #[.agg #[.int .u16 (c1 : Int), .int .u16 (c2 : Int), .int .i64 m0, .int .i64 m1, .int .i64 m2, .int .i64 m3, .int .i64 m4, .int .i64 m5, .int .i64 m6, .int .i64 m7], .int .i64 0]) ∧ Below w.heap.size w w') := Lib.hid (fun hc w hL => by
    have h := lgparse_ok ⟨(Lg.line ((c1, c2), L)).toArray⟩ (Lg.line_max hc) w hL
    rw [show (⟨(Lg.line ((c1, c2), L)).toArray⟩ : ByteArray).data.toList = Lg.line ((c1, c2), L) from rfl, Lg.parse_line hc, hV] at h
    exact h)
  have HB0 := Lib.hid (below_fresh w (.cells #[.int .u16 (c1 : Int), .int .u16 (c2 : Int), .int .i64 m0, .int .i64 m1, .int .i64 m2, .int .i64 m3, .int .i64 m4, .int .i64 m5, .int .i64 m6, .int .i64 m7] 48))
  have HR0 := Lib.hid (heap_alloc_new w (.cells #[.int .u16 (c1 : Int), .int .u16 (c2 : Int), .int .i64 m0, .int .i64 m1, .int .i64 m2, .int .i64 m3, .int .i64 m4, .int .i64 m5, .int .i64 m6, .int .i64 m7] 48))
  have hs' : ¬ (500 : Int) < (s.size : Int) := by omega
  have hs2 : s.size ≤ 1000 := by omega
  obtain ⟨p, ev, okv, hq1, hq2, hq3, hq4⟩ := lg_both s
  have HP1 := Lib.hid (fun w h => lgparse_ok s hs2 w h)
  have HP2 := Lib.hid (fun w => rlgparse_ok s hs2 w)
  rw [hq1] at HP1
  rw [hq2] at HP2
  obtain ⟨⟨b1, b2⟩, l⟩ := p
  obtain ⟨n0, n1, n2, n3, n4, n5, n6, n7, rfl⟩ := list8 hq3
  have HCA : Hid ((∀ (j : Nat) (n : Int), j < 8 → L[j]? = some n → 0 ≤ n ∧ n ≤ 999999) → Lg.can ((c1, c2), L)) := Lib.hid (fun h => ⟨hr.1, h8, fun n hn => by
    obtain ⟨j, hj, rfl⟩ := List.mem_iff_getElem.1 hn
    exact h j _ (by have h9 : j < L.length := hj; omega) (List.getElem?_eq_getElem hj)⟩)
  rw [hV]
  clear hL hs hs2 hr hq1 hq2 hq3 hV hL8
  unfold lgV at HP1 HP2
  simp only [lgC, List.map_cons, List.map_nil] at HP1 HP2
  go_enter Tryz.func4, Tryz.ntmps4
  go_wp2_with fail
  refine (HP1.out _ (HLw.out.below HB0.out)).mono ?_
  rintro e w1 ⟨rfl, hb1⟩
  have HB1 := Lib.hid (below_new (below_here HB0.out hb1) (.cells #[.int .u16 (b1 : Int), .int .u16 (b2 : Int), .int .i64 n0, .int .i64 n1, .int .i64 n2, .int .i64 n3, .int .i64 n4, .int .i64 n5, .int .i64 n6, .int .i64 n7] 46))
  have HR1 := Lib.hid (block_below (below_fresh w1 (.cells #[.int .u16 (b1 : Int), .int .u16 (b2 : Int), .int .i64 n0, .int .i64 n1, .int .i64 n2, .int .i64 n3, .int .i64 n4, .int .i64 n5, .int .i64 n6, .int .i64 n7] 46)) (block_below hb1 HR0.out))
  have HI1 := Lib.hid (heap_alloc_new w1 (.cells #[.int .u16 (b1 : Int), .int .u16 (b2 : Int), .int .i64 n0, .int .i64 n1, .int .i64 n2, .int .i64 n3, .int .i64 n4, .int .i64 n5, .int .i64 n6, .int .i64 n7] 46))
  clear hb1
  go_wp2_with (refine wpList_store_new rfl 46 (.tmp 5) (.tmp 21) rfl _ #[.int .u16 (b1 : Int), .int .u16 (b2 : Int), .int .i64 n0, .int .i64 n1, .int .i64 n2, .int .i64 n3, .int .i64 n4, .int .i64 n5, .int .i64 n6, .int .i64 n7] ?x1 ?x2 info_lrow rfl (by simp [Value.oneCell']) ?_; (case x1 => first | rfl | (rw [World.size_alloc]; rfl)); (case x2 => rfl))
  refine (HP2.out _).mono ?_
  rintro e w2 ⟨rfl, hb2⟩
  have HB2 := Lib.hid (below_new (below_here HB1.out hb2) (.cells #[.int .u16 (b1 : Int), .int .u16 (b2 : Int), .int .i64 n0, .int .i64 n1, .int .i64 n2, .int .i64 n3, .int .i64 n4, .int .i64 n5, .int .i64 n6, .int .i64 n7] 48))
  have HR2 := Lib.hid (block_below (below_fresh w2 (.cells #[.int .u16 (b1 : Int), .int .u16 (b2 : Int), .int .i64 n0, .int .i64 n1, .int .i64 n2, .int .i64 n3, .int .i64 n4, .int .i64 n5, .int .i64 n6, .int .i64 n7] 48)) (block_below hb2 HR1.out))
  have HI2 := Lib.hid (show (w2.alloc (.cells #[.int .u16 (b1 : Int), .int .u16 (b2 : Int), .int .i64 n0, .int .i64 n1, .int .i64 n2, .int .i64 n3, .int .i64 n4, .int .i64 n5, .int .i64 n6, .int .i64 n7] 48)).rangeAt w1.heap.size 0 [.int .u16 (b1 : Int), .int .u16 (b2 : Int), .int .i64 n0, .int .i64 n1, .int .i64 n2, .int .i64 n3, .int .i64 n4, .int .i64 n5, .int .i64 n6, .int .i64 n7] from range_of_block (block_below (below_fresh w2 (.cells #[.int .u16 (b1 : Int), .int .u16 (b2 : Int), .int .i64 n0, .int .i64 n1, .int .i64 n2, .int .i64 n3, .int .i64 n4, .int .i64 n5, .int .i64 n6, .int .i64 n7] 48)) (block_below hb2 HI1.out)) 0 _ (fun j _ => by rw [Nat.zero_add]))
  have HJ2 := Lib.hid (show (w2.alloc (.cells #[.int .u16 (b1 : Int), .int .u16 (b2 : Int), .int .i64 n0, .int .i64 n1, .int .i64 n2, .int .i64 n3, .int .i64 n4, .int .i64 n5, .int .i64 n6, .int .i64 n7] 48)).rangeAt w2.heap.size 0 [.int .u16 (b1 : Int), .int .u16 (b2 : Int), .int .i64 n0, .int .i64 n1, .int .i64 n2, .int .i64 n3, .int .i64 n4, .int .i64 n5, .int .i64 n6, .int .i64 n7] from range_of_block (heap_alloc_new w2 (.cells #[.int .u16 (b1 : Int), .int .u16 (b2 : Int), .int .i64 n0, .int .i64 n1, .int .i64 n2, .int .i64 n3, .int .i64 n4, .int .i64 n5, .int .i64 n6, .int .i64 n7] 48)) 0 _ (fun j _ => by rw [Nat.zero_add]))
  clear hb2 HB0 HB1 HR0 HR1 HI1 HP1 HP2
  have HRR := Lib.hid (show (w2.alloc (.cells #[.int .u16 (b1 : Int), .int .u16 (b2 : Int), .int .i64 n0, .int .i64 n1, .int .i64 n2, .int .i64 n3, .int .i64 n4, .int .i64 n5, .int .i64 n6, .int .i64 n7] 48)).rangeAt w.heap.size 0 [.int .u16 (c1 : Int), .int .u16 (c2 : Int), .int .i64 m0, .int .i64 m1, .int .i64 m2, .int .i64 m3, .int .i64 m4, .int .i64 m5, .int .i64 m6, .int .i64 m7] from range_of_block HR2.out 0 _ (fun j _ => by rw [Nat.zero_add]))
  rcases hq4 with ⟨rfl, rfl⟩ | ⟨rfl, rfl⟩
  all_goals
    go_wp2_with (first
      | (refine wpList_store_new rfl 48 (.tmp 7) (.tmp 26) rfl _ #[.int .u16 (b1 : Int), .int .u16 (b2 : Int), .int .i64 n0, .int .i64 n1, .int .i64 n2, .int .i64 n3, .int .i64 n4, .int .i64 n5, .int .i64 n6, .int .i64 n7] ?x1 ?x2 info_row rfl (by simp [Value.oneCell']) ?_; (case x1 => first | rfl | (rw [World.size_alloc]; rfl)); (case x2 => rfl))
      | (refine wpList_load_mid rfl 46 (.tmp 5) rfl w1.heap.size 0 rfl [.int .u16 (b1 : Int), .int .u16 (b2 : Int), .int .i64 n0, .int .i64 n1, .int .i64 n2, .int .i64 n3, .int .i64 n4, .int .i64 n5, .int .i64 n6, .int .i64 n7] _ HI2.out Tryz.underlying46 rfl info_lrow ?_)
      | (refine wpList_load_mid rfl 48 (.tmp 7) rfl w2.heap.size 0 rfl [.int .u16 (b1 : Int), .int .u16 (b2 : Int), .int .i64 n0, .int .i64 n1, .int .i64 n2, .int .i64 n3, .int .i64 n4, .int .i64 n5, .int .i64 n6, .int .i64 n7] _ HJ2.out Tryz.underlying48 rfl info_row ?_)
      | (refine wpList_load_mid rfl 48 (.tmp 2) rfl w.heap.size 0 rfl [.int .u16 (c1 : Int), .int .u16 (c2 : Int), .int .i64 m0, .int .i64 m1, .int .i64 m2, .int .i64 m3, .int .i64 m4, .int .i64 m5, .int .i64 m6, .int .i64 m7] _ HRR.out Tryz.underlying48 rfl info_row ?_))
    refine (HNU.out _).mono ?_
    rintro e w4 ⟨B, rfl, hI4, hB4, hb4⟩
    have HB4 := Lib.hid (below_here HB2.out hb4)
    have HI4 := Lib.hid hI4
    have HR4 := Lib.hid (block_below hb4 HR2.out)
    clear hI4 hB4 hb4 HRR HB2 HR2 HI2 HJ2
    go_wp2_with fail
    go_loopw [10] (fun i wr => ∃ k : Nat, i = .int .i64 (k : Int) ∧ k ≤ 8 ∧ Hid (∀ (j : Nat) (n : Int), j < k → L[j]? = some n → 0 ≤ n ∧ n ≤ 999999) ∧ Hid (IntRow wr B L) ∧ Hid (wr.heap[w.heap.size]? = some (.cells #[.int .u16 (c1 : Int), .int .u16 (c2 : Int), .int .i64 m0, .int .i64 m1, .int .i64 m2, .int .i64 m3, .int .i64 m4, .int .i64 m5, .int .i64 m6, .int .i64 m7] 48 (0, 0))) ∧ Hid (Below w.heap.size w wr)) (fun i _ => 8 - (intOf i).toNat)
    case atStart => exact ⟨0, rfl, by omega, Lib.hid (fun j n h => by omega), HI4, HR4, HB4⟩
    case round =>
      clear HI4 HR4 HB4
      obtain ⟨k, rfl, hk, hN, hI, hR, hB⟩ := hrel
      by_cases hk8 : k = 8
      · subst hk8
        have hcan := HCA.out hN.out
        have HRR := Lib.hid (show wr.rangeAt w.heap.size 0 [.int .u16 (c1 : Int), .int .u16 (c2 : Int), .int .i64 m0, .int .i64 m1, .int .i64 m2, .int .i64 m3, .int .i64 m4, .int .i64 m5, .int .i64 m6, .int .i64 m7] from range_of_block hR.out 0 _ (fun j _ => by rw [Nat.zero_add]))
        have HL1 := Lib.hid (HLI.out hcan)
        have HL2 := Lib.hid (HRL.out hcan)
        have HL3 := Lib.hid (HPB.out hcan)
        clear hcan HNU HLI HRL HPB
        generalize (⟨(Lg.line ((c1, c2), L)).toArray⟩ : ByteArray) = S at HL1 HL2 HL3
        have hpe : (S.toList == S.toList) = true := by simp
        go_wp2_with (refine wpList_load_mid rfl 48 (.tmp 2) rfl w.heap.size 0 rfl [.int .u16 (c1 : Int), .int .u16 (c2 : Int), .int .i64 m0, .int .i64 m1, .int .i64 m2, .int .i64 m3, .int .i64 m4, .int .i64 m5, .int .i64 m6, .int .i64 m7] _ HRR.out Tryz.underlying48 rfl info_row ?_)
        refine (HL1.out _ (HLw.out.below hB.out)).mono ?_
        rintro e w5 ⟨rfl, hb5⟩
        have HB5 := Lib.hid (below_here hB.out hb5)
        have HR5 := Lib.hid (block_below hb5 hR.out)
        clear hb5 HRR
        go_wp2_with fail
        refine (HL3.out _ (HLw.out.below HB5.out)).mono ?_
        rintro e w6 ⟨rfl, hb6⟩
        have HB6 := Lib.hid (below_new (below_here HB5.out hb6) (.cells #[.int .u16 (c1 : Int), .int .u16 (c2 : Int), .int .i64 m0, .int .i64 m1, .int .i64 m2, .int .i64 m3, .int .i64 m4, .int .i64 m5, .int .i64 m6, .int .i64 m7] 46))
        have HR6 := Lib.hid (block_below (below_fresh w6 (.cells #[.int .u16 (c1 : Int), .int .u16 (c2 : Int), .int .i64 m0, .int .i64 m1, .int .i64 m2, .int .i64 m3, .int .i64 m4, .int .i64 m5, .int .i64 m6, .int .i64 m7] 46)) (block_below hb6 HR5.out))
        have HX6 := Lib.hid (heap_alloc_new w6 (.cells #[.int .u16 (c1 : Int), .int .u16 (c2 : Int), .int .i64 m0, .int .i64 m1, .int .i64 m2, .int .i64 m3, .int .i64 m4, .int .i64 m5, .int .i64 m6, .int .i64 m7] 46))
        have HRR := Lib.hid (show (w6.alloc (.cells #[.int .u16 (c1 : Int), .int .u16 (c2 : Int), .int .i64 m0, .int .i64 m1, .int .i64 m2, .int .i64 m3, .int .i64 m4, .int .i64 m5, .int .i64 m6, .int .i64 m7] 46)).rangeAt w.heap.size 0 [.int .u16 (c1 : Int), .int .u16 (c2 : Int), .int .i64 m0, .int .i64 m1, .int .i64 m2, .int .i64 m3, .int .i64 m4, .int .i64 m5, .int .i64 m6, .int .i64 m7] from range_of_block HR6.out 0 _ (fun j _ => by rw [Nat.zero_add]))
        clear hb6
        go_wp2_with (first
          | (refine wpList_store_new rfl 46 (.tmp 12) (.tmp 71) rfl _ #[.int .u16 (c1 : Int), .int .u16 (c2 : Int), .int .i64 m0, .int .i64 m1, .int .i64 m2, .int .i64 m3, .int .i64 m4, .int .i64 m5, .int .i64 m6, .int .i64 m7] ?x1 ?x2 info_lrow rfl (by simp [Value.oneCell']) ?_; (case x1 => first | rfl | (rw [World.size_alloc]; rfl)); (case x2 => rfl))
          | (refine wpList_load_mid rfl 48 (.tmp 2) rfl w.heap.size 0 rfl [.int .u16 (c1 : Int), .int .u16 (c2 : Int), .int .i64 m0, .int .i64 m1, .int .i64 m2, .int .i64 m3, .int .i64 m4, .int .i64 m5, .int .i64 m6, .int .i64 m7] _ HRR.out Tryz.underlying48 rfl info_row ?_))
        refine (HL2.out _).mono ?_
        rintro e w7 ⟨rfl, hb7⟩
        have HB7 := Lib.hid (below_here HB6.out hb7)
        have HRS := Lib.hid (show w7.rangeAt w.heap.size 0 [.int .u16 (c1 : Int), .int .u16 (c2 : Int), .int .i64 m0, .int .i64 m1, .int .i64 m2, .int .i64 m3, .int .i64 m4, .int .i64 m5, .int .i64 m6, .int .i64 m7] from range_of_block (block_below hb7 HR6.out) 0 _ (fun j _ => by rw [Nat.zero_add]))
        obtain ⟨⟨x0, x1, x2, x3, x4, x5, x6, x7, x8, x9⟩, xl⟩ := ten_of (block_below hb7 HX6.out)
        obtain ⟨⟨y0, y1, y2, y3, y4, y5, y6, y7, y8, y9⟩, yl⟩ := ten_of (block_below hb7 HR6.out)
        clear hb7 HRR HX6 HR6 HB6 HB5 HR5
        generalize w6.heap.size = n6 at x0 x1 x2 x3 x4 x5 x6 x7 x8 x9 xl ⊢
        go_wp2_with fail
        refine (lgalive_ok _ (HLw.out.below HB7.out)).mono ?_
        rintro e w8 ⟨rfl, hb8⟩
        have HB8 := Lib.hid (below_here HB7.out hb8)
        clear hb8
        go_wp2_with fail
        go_ret
        exact ⟨rfl, HB8.out⟩
      · have hkl : k < 8 := by omega
        have hki : (k : Int) < 8 := by omega
        obtain ⟨n, hn⟩ : ∃ n, L[k]? = some n := ⟨_, List.getElem?_eq_getElem (by omega)⟩
        have hcell : wr.cell? ⟨B, k, none⟩ = some (.int .i64 n) := by
          have h := hI.out.cell k (by omega)
          rw [List.getElem?_eq_getElem (by omega)] at hn
          rw [h, Option.some.inj hn]
        have hbl := World.block_lt_of_cell? wr _ hcell
        by_cases h0 : n < 0
        · go_wp2_with fail
          refine (lgalive_ok _ (HLw.out.below hB.out)).mono ?_
          rintro e w5 ⟨rfl, hb5⟩
          have HB5 := Lib.hid (below_here hB.out hb5)
          clear hb5
          go_wp2_with fail
          go_ret
          exact ⟨rfl, HB5.out⟩
        · by_cases h1 : 999999 < n
          · go_wp2_with fail
            refine (lgalive_ok _ (HLw.out.below hB.out)).mono ?_
            rintro e w5 ⟨rfl, hb5⟩
            have HB5 := Lib.hid (below_here hB.out hb5)
            clear hb5
            go_wp2_with fail
            go_ret
            exact ⟨rfl, HB5.out⟩
          · have HN1 : Hid (∀ (j : Nat) (x : Int), j < k + 1 → L[j]? = some x → 0 ≤ x ∧ x ≤ 999999) := Lib.hid (fun j x hj hx => by
              by_cases hjk : j = k
              · subst hjk
                rw [hn] at hx
                obtain rfl := Option.some.inj hx
                omega
              · exact hN.out j x (by omega) hx)
            clear hn hN
            go_wp2_with fail
            go_roundw
            case rel => exact ⟨k + 1, by go_num, by omega, HN1, hI, hR, hB⟩
            case measure => simp [intOf]; omega
/-- The statement's own walk. -/
theorem lglines_ok (r : Lg.R) (hr : Lg.in64 r) (s : ByteArray) (w : World) (hL : LaidAt w) : Calls Tryz.prog 4 #[lgV r, .string s] w fun e w' => e = .returned (.bool true) ∧ Below w.heap.size w w' := by
  by_cases hs : s.size ≤ 500
  · obtain ⟨⟨c1, c2⟩, L⟩ := r
    exact lglines_few c1 c2 L hr s hs w hL
  · exact lglines_big r hr s hs w hL
end Go.Proofs.YtlmacaenbililaaGreatDoor
