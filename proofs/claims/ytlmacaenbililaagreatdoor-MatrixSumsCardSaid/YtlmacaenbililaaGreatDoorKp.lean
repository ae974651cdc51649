/- Rows of a ledger: which row a text is, as the program has it. Rows of a matrix: which row a text is, as the program has it. Rows of a ledger: which row a text is, as the document has it. Rows of a matrix: which row a text is, as the document has it. No conditions. -/
import Derived.Test.YtlmacaenbililaaGreatDoorKe
import Derived.Test.YtlmacaenbililaaGreatDoorKt
import Derived.Test.YtlmacaenbililaaGreatDoorKa
import Derived.Test.YtlmacaenbililaaGreatDoorTtags
namespace Go.Proofs.YtlmacaenbililaaGreatDoor
open Go.RowKit Go.Shelf
set_option linter.unusedSimpArgs false
set_option linter.unusedVariables false
attribute [local go_sem] cell_over frozen_over

def RowAt (b : Nat) (r : Lg.R) (W : World) : Prop := W.heap[b]? = some (.cells (lgC r).toArray 46 (0, 0))
theorem RowAt.below {N b : Nat} {r : Lg.R} {w W : World} (h : RowAt b r w) (hb : Below N w W) (hN : b < N) : RowAt b r W := (hb.block b hN).trans h
theorem RowAt.range {b : Nat} {r : Lg.R} {w : World} (h : RowAt b r w) : w.rangeAt b 0 (lgC r) := range_of_block h 0 _ (fun j _ => by rw [Nat.zero_add])
theorem RowAt.set {b : Nat} {r : Lg.R} {w : World} (h : RowAt b r w) (k : Nat) (v : Int) : RowAt b (r.1, r.2.set k v) (w.setCell ⟨b, 2 + k, none⟩ (.int .i64 v)) := by
  unfold RowAt at h ⊢
  simp [World.setCell, Array.getElem?_modify, h, lgC, List.map_set, Nat.add_comm 2 k]
theorem RowAt.other {b : Nat} {r : Lg.R} {w : World} (h : RowAt b r w) (c o : Nat) (v : Value) (hne : b ≠ c) : RowAt b r (w.setCell ⟨c, o, none⟩ v) := by
  unfold RowAt at h ⊢
  simp [World.setCell, Array.getElem?_modify, h, hne, Ne.symm hne]
theorem RowAt.there {b : Nat} {r : Lg.R} {w : World} (h : RowAt b r w) (hl : r.2.length = 8) : w.there b 0 10 := there_of_block h 0 10 (by simp [lgC, hl])
theorem lgC_len {r : Lg.R} (h : r.2.length = 8) : (lgC r).length = 10 := by simp [lgC, h]
theorem lgC_one (r : Lg.R) : ∀ v ∈ lgC r, v.oneCell' = true := by
  intro v hv
  unfold lgC at hv
  rcases List.mem_cons.1 hv with rfl | hv
  · rfl
  · rcases List.mem_cons.1 hv with rfl | hv
    · rfl
    · obtain ⟨n, _, rfl⟩ := List.mem_map.1 hv
      rfl
theorem RowAt.setCells {b : Nat} {r r' : Lg.R} {w : World} (h : RowAt b r w) (hl : r.2.length = 8) (hl' : r'.2.length = 8) : RowAt b r' (w.setCells b 0 (lgC r')) := by
  have := heap_setCells_same b 46 (lgC r') 0 w (lgC r) h (by rw [lgC_len hl, lgC_len hl']; omega)
  unfold RowAt
  rw [this]
  have e : splice (lgC r) 0 (lgC r') = lgC r' := by
    have h1 := lgC_len hl
    have h2 := lgC_len hl'
    unfold splice
    rw [List.take_zero, List.nil_append, List.drop_of_length_le (by omega), List.append_nil]
  rw [e]
theorem zero_cells : (lgC Lg.zero).toArray = #[.int .u16 0, .int .u16 0, .int .i64 0, .int .i64 0, .int .i64 0, .int .i64 0, .int .i64 0, .int .i64 0, .int .i64 0, .int .i64 0] := rfl
namespace Lg
theorem nums_snoc : ∀ {l : List (List UInt8)} {ns : List Int} {x : List UInt8} {n : Int}, nums l = some ns → num x = some n → nums (l ++ [x]) = some (ns ++ [n])
  | [], ns, x, n, h, hx => by
    obtain rfl := Option.some.inj h
    rw [List.nil_append]
    unfold nums
    rw [hx]; rfl
  | y :: l, ns, x, n, h, hx => by
    unfold nums at h
    cases hy : num y with
    | none => rw [hy] at h; cases h
    | some m =>
      rw [hy] at h
      simp only at h
      cases hl : nums l with
      | none => rw [hl] at h; cases h
      | some ms =>
        rw [hl] at h
        obtain rfl := Option.some.inj h
        rw [List.cons_append]
        unfold nums
        rw [hy]
        simp only
        rw [nums_snoc hl hx]; rfl
theorem nums_bad : ∀ {l : List (List UInt8)} {x : List UInt8}, x ∈ l → num x = none → nums l = none
  | y :: l, x, h, hx => by
    unfold nums
    rcases List.mem_cons.1 h with rfl | h
    · rw [hx]
    · cases num y with
      | none => rfl
      | some m => simp only; rw [nums_bad h hx]; rfl
end Lg
theorem word_cell {W : World} {P : Nat} {l : List ByteArray} {t : TypeId} (h : W.heap[P]? = some (.cells (l.map Value.string).toArray t (0, 0))) (k : Nat) (hk : k < l.length) : W.cell? ⟨P, k, none⟩ = some (.string l[k]) := by
  rw [cell_of_row W P k _ _ _ h]
  simp [hk]
set_option maxRecDepth 100000 in
set_option maxHeartbeats 4000000 in
theorem lgparse_no (s : ByteArray) (hs : s.size ≤ 1000) (hn : (Tr.words s).length ≠ 9) (w : World) (hL : LaidAt w) :
    Calls Tryz.prog 24 #[.string s] w fun e w' => e = .returned (.tuple #[lgV Lg.zero, .int .i64 3]) ∧ Below w.heap.size w w' := by
  have HR := Lib.hid (heap_alloc_new w (.cells #[.int .u16 0, .int .u16 0, .int .i64 0, .int .i64 0, .int .i64 0, .int .i64 0, .int .i64 0, .int .i64 0, .int .i64 0, .int .i64 0] 46))
  have HB0 := Lib.hid (below_fresh w (.cells #[.int .u16 0, .int .u16 0, .int .i64 0, .int .i64 0, .int .i64 0, .int .i64 0, .int .i64 0, .int .i64 0, .int .i64 0, .int .i64 0] 46))
  have HS := Lib.hid (words_ok s (by omega) _ (hL.below HB0.out))
  have HLw := Lib.hid hL
  clear hL
  have hn' : ¬ ((Tr.words s).length : Int) = 9 := by omega
  generalize (Tr.words s).length = nw at hn'
  go_enter Tryz.func24, Tryz.ntmps24
  go_wp2_with fail
  refine HS.out.mono ?_
  rintro e w1 ⟨P, rfl, hP, hb1⟩
  go_wp2_with fail
  refine (numbers_ok _ _).mono ?_
  rintro e w3 ⟨rfl, hb3⟩
  have hb13 := (below_fresh w1 (.cells #[.int .u16 0, .int .u16 0, .int .i64 0, .int .i64 0, .int .i64 0, .int .i64 0, .int .i64 0, .int .i64 0, .int .i64 0, .int .i64 0] 46)).trans (hb3.mono (below_fresh w1 (.cells #[.int .u16 0, .int .u16 0, .int .i64 0, .int .i64 0, .int .i64 0, .int .i64 0, .int .i64 0, .int .i64 0, .int .i64 0, .int .i64 0] 46)).size)
  have HRX := Lib.hid (block_below hb13 (block_below hb1 HR.out))
  have HPX := Lib.hid (block_below hb13 hP)
  have HXX := Lib.hid (block_below hb3 (heap_alloc_new w1 (.cells #[.int .u16 0, .int .u16 0, .int .i64 0, .int .i64 0, .int .i64 0, .int .i64 0, .int .i64 0, .int .i64 0, .int .i64 0, .int .i64 0] 46)))
  have HBX := Lib.hid (below_here (below_here HB0.out hb1) hb13)
  have hPlt : P < w1.heap.size := (Array.getElem?_eq_some_iff.1 hP).1
  have hXlt : w1.heap.size < w3.heap.size := (Array.getElem?_eq_some_iff.1 HXX.out).1
  have hwlt : w.heap.size < w1.heap.size := by have := hb1.size; rw [World.size_alloc] at this; omega
  generalize w1.heap.size = X at HXX hPlt hXlt hwlt ⊢
  clear hb1 hb3 hb13 hP
  have HR4 := Lib.hid (block_below (below_fresh w3 (.cells (ptrs X).toArray 126)) HRX.out)
  have HP4 := Lib.hid (block_below (below_fresh w3 (.cells (ptrs X).toArray 126)) HPX.out)
  have HX4 := Lib.hid (block_below (below_fresh w3 (.cells (ptrs X).toArray 126)) HXX.out)
  have HQ4 := Lib.hid (heap_alloc_new w3 (.cells (ptrs X).toArray 126))
  have HB4 := Lib.hid (below_new HBX.out (.cells (ptrs X).toArray 126))
  clear HRX HPX HXX HBX
  go_wp2_with (first | (refine wpList_store_new rfl 126 (.tmp 6) (.tmp 15) rfl _ (ptrs X).toArray rfl rfl info_ptrs rfl (by simp [ptrs, Value.oneCell']) ?_) | (refine wpList_store_mid rfl 46 _ _ rfl w.heap.size 0 #[.int .u16 0, .int .u16 0, .int .i64 0, .int .i64 0, .int .i64 0, .int .i64 0, .int .i64 0, .int .i64 0, .int .i64 0, .int .i64 0] rfl rfl (there_of_block HR4.out 0 10 (by simp)) info_lrow (by simp [Value.oneCell']) ?_))
  exact ret_cell_tmp rfl w.heap.size 0 rfl (lgC Lg.zero) _ (RowAt.setCells (r := Lg.zero) (r' := Lg.zero) HR4.out rfl rfl).range Tryz.underlying46 rfl info_lrow rfl ⟨rfl, below_setCells HB4.out (Nat.le_refl _) _ _⟩
set_option maxRecDepth 100000 in
set_option maxHeartbeats 4000000 in
theorem lgparse_lab (s : ByteArray) (hs : s.size ≤ 1000) (a : ByteArray) (l : List ByteArray) (hw : Tr.words s = a :: l) (h8 : l.length = 8) (hlb : (Lab.parse a.data.toList).2 ≠ 0) (w : World) (hL : LaidAt w) :
    Calls Tryz.prog 24 #[.string s] w fun e w' => e = .returned (.tuple #[lgV Lg.zero, .int .i64 3]) ∧ Below w.heap.size w w' := by
  have HR := Lib.hid (heap_alloc_new w (.cells #[.int .u16 0, .int .u16 0, .int .i64 0, .int .i64 0, .int .i64 0, .int .i64 0, .int .i64 0, .int .i64 0, .int .i64 0, .int .i64 0] 46))
  have HB0 := Lib.hid (below_fresh w (.cells #[.int .u16 0, .int .u16 0, .int .i64 0, .int .i64 0, .int .i64 0, .int .i64 0, .int .i64 0, .int .i64 0, .int .i64 0, .int .i64 0] 46))
  have HS := Lib.hid (words_ok s (by omega) _ (hL.below HB0.out))
  have HLw := Lib.hid hL
  clear hL
  rw [hw] at HS
  have hn' : ((a :: l).length : Int) = 9 := by rw [List.length_cons, h8]; rfl
  have hnl : (a :: l).length = 9 := by rw [List.length_cons, h8]
  have hsa : a.size ≤ s.size := Tr.words_size s a (by rw [hw]; simp)
  have HLP := Lib.hid (fun w h => lparse_ok a (by omega) w h)
  rw [hnl] at HS
  go_enter Tryz.func24, Tryz.ntmps24
  go_wp2_with fail
  refine HS.out.mono ?_
  rintro e w1 ⟨P, rfl, hP, hb1⟩
  go_wp2_with fail
  refine (numbers_ok _ _).mono ?_
  rintro e w3 ⟨rfl, hb3⟩
  have hb13 := (below_fresh w1 (.cells #[.int .u16 0, .int .u16 0, .int .i64 0, .int .i64 0, .int .i64 0, .int .i64 0, .int .i64 0, .int .i64 0, .int .i64 0, .int .i64 0] 46)).trans (hb3.mono (below_fresh w1 (.cells #[.int .u16 0, .int .u16 0, .int .i64 0, .int .i64 0, .int .i64 0, .int .i64 0, .int .i64 0, .int .i64 0, .int .i64 0, .int .i64 0] 46)).size)
  have HRX := Lib.hid (block_below hb13 (block_below hb1 HR.out))
  have HPX := Lib.hid (block_below hb13 hP)
  have HXX := Lib.hid (block_below hb3 (heap_alloc_new w1 (.cells #[.int .u16 0, .int .u16 0, .int .i64 0, .int .i64 0, .int .i64 0, .int .i64 0, .int .i64 0, .int .i64 0, .int .i64 0, .int .i64 0] 46)))
  have HBX := Lib.hid (below_here (below_here HB0.out hb1) hb13)
  have hPlt : P < w1.heap.size := (Array.getElem?_eq_some_iff.1 hP).1
  have hXlt : w1.heap.size < w3.heap.size := (Array.getElem?_eq_some_iff.1 HXX.out).1
  have hwlt : w.heap.size < w1.heap.size := by have := hb1.size; rw [World.size_alloc] at this; omega
  generalize w1.heap.size = X at HXX hPlt hXlt hwlt ⊢
  clear hb1 hb3 hb13 hP
  have HR4 := Lib.hid (block_below (below_fresh w3 (.cells (ptrs X).toArray 126)) HRX.out)
  have HP4 := Lib.hid (block_below (below_fresh w3 (.cells (ptrs X).toArray 126)) HPX.out)
  have HX4 := Lib.hid (block_below (below_fresh w3 (.cells (ptrs X).toArray 126)) HXX.out)
  have HQ4 := Lib.hid (heap_alloc_new w3 (.cells (ptrs X).toArray 126))
  have HB4 := Lib.hid (below_new HBX.out (.cells (ptrs X).toArray 126))
  clear HRX HPX HXX HBX
  have ha0 := word_cell HP4.out 0 (by rw [hnl]; omega)
  simp only [List.getElem_cons_zero] at ha0
  have hPl := World.block_lt_of_cell? _ _ ha0
  generalize Lab.parse a.data.toList = q at HLP hlb
  obtain ⟨⟨q1, q2⟩, q3⟩ := q
  simp only at HLP hlb
  have hq3 : ¬ q3 = 0 := hlb
  go_wp2_with (refine wpList_store_new rfl 126 (.tmp 6) (.tmp 15) rfl _ (ptrs X).toArray rfl rfl info_ptrs rfl (by simp [ptrs, Value.oneCell']) ?_)
  refine (HLP.out _ (HLw.out.below HB4.out)).mono ?_
  rintro e w5 ⟨rfl, hb5⟩
  have HR5 := Lib.hid (block_below (below_fresh w5 (.cells #[.int .u16 (q1 : Int), .int .u16 (q2 : Int)] 25)) (block_below hb5 HR4.out))
  have HB5 := Lib.hid (below_new (below_here HB4.out hb5) (.cells #[.int .u16 (q1 : Int), .int .u16 (q2 : Int)] 25))
  clear hb5 ha0 hPl HR4 HX4 HP4 HB4
  go_wp2_with (refine wpList_store_mid rfl 46 _ _ rfl w.heap.size 0 #[.int .u16 0, .int .u16 0, .int .i64 0, .int .i64 0, .int .i64 0, .int .i64 0, .int .i64 0, .int .i64 0, .int .i64 0, .int .i64 0] rfl rfl (there_of_block HR5.out 0 10 (by simp)) info_lrow (by simp [Value.oneCell']) ?_)
  exact ret_cell_tmp rfl w.heap.size 0 rfl (lgC Lg.zero) _ (RowAt.setCells (r := Lg.zero) (r' := Lg.zero) HR5.out rfl rfl).range Tryz.underlying46 rfl info_lrow rfl ⟨rfl, below_setCells HB5.out (Nat.le_refl _) _ _⟩
namespace Lg
theorem num_bad {w : List UInt8} (h : ∀ u, Lib.atoiAll w ≠ .ok u) : num w = none := by
  unfold num
  cases hw : Lib.atoiAll w with
  | ok n => exact absurd hw (h n)
  | _ => rfl
theorem num_out {w : List UInt8} {v : Int} (h : Lib.atoiAll w = .ok v) (hn : ¬ (0 ≤ v ∧ v ≤ 999999 ∧ Lib.itoa v = w)) : num w = none := by
  unfold num
  rw [h]
  exact if_neg hn
theorem num_is {w : List UInt8} {v : Int} (h : Lib.atoiAll w = .ok v) (hn : 0 ≤ v ∧ v ≤ 999999 ∧ Lib.itoa v = w) : num w = some v := by
  unfold num
  rw [h]
  exact if_pos hn
theorem set_snoc {ns : List Int} {k : Nat} (h : ns.length = k) (hk : k < 8) (v : Int) : (ns ++ List.replicate (8 - k) 0).set k v = (ns ++ [v]) ++ List.replicate (8 - (k + 1)) 0 := by
  rw [List.set_append_right _ _ (by omega), show k - ns.length = 0 by omega, show 8 - k = (8 - (k + 1)) + 1 by omega, List.replicate_succ, List.set_cons_zero, List.append_assoc]
  rfl
end Lg
set_option maxRecDepth 100000 in
set_option maxHeartbeats 8000000 in
theorem lgparse_nine (s : ByteArray) (hs : s.size ≤ 1000) (a : ByteArray) (l : List ByteArray) (hw : Tr.words s = a :: l) (h8 : l.length = 8) (hlb : (Lab.parse a.data.toList).2 = 0) (w : World) (hL : LaidAt w) :
    Calls Tryz.prog 24 #[.string s] w fun e w' => e = .returned (.tuple #[lgV (Lg.fin ((Lg.nums (l.map (·.data.toList))).map ((Lab.parse a.data.toList).1, ·))).1, .int .i64 (Lg.fin ((Lg.nums (l.map (·.data.toList))).map ((Lab.parse a.data.toList).1, ·))).2]) ∧ Below w.heap.size w w' := by
  have HR := Lib.hid (heap_alloc_new w (.cells #[.int .u16 0, .int .u16 0, .int .i64 0, .int .i64 0, .int .i64 0, .int .i64 0, .int .i64 0, .int .i64 0, .int .i64 0, .int .i64 0] 46))
  have HB0 := Lib.hid (below_fresh w (.cells #[.int .u16 0, .int .u16 0, .int .i64 0, .int .i64 0, .int .i64 0, .int .i64 0, .int .i64 0, .int .i64 0, .int .i64 0, .int .i64 0] 46))
  have HS := Lib.hid (words_ok s (by omega) _ (hL.below HB0.out))
  have HLw := Lib.hid hL
  clear hL
  rw [hw] at HS
  have hn' : ((a :: l).length : Int) = 9 := by rw [List.length_cons, h8]; rfl
  have hnl : (a :: l).length = 9 := by rw [List.length_cons, h8]
  have hsa : a.size ≤ s.size := Tr.words_size s a (by rw [hw]; simp)
  have HSL : Hid (∀ p ∈ l, p.size ≤ 1000) := Lib.hid (fun p hp => by have := Tr.words_size s p (by rw [hw]; exact List.mem_cons_of_mem _ hp); omega)
  have HLP := Lib.hid (fun w h => lparse_ok a (by omega) w h)
  rw [hnl] at HS
  obtain ⟨RES, hRES⟩ : ∃ RES, RES = Lg.fin ((Lg.nums (l.map (·.data.toList))).map ((Lab.parse a.data.toList).1, ·)) := ⟨_, rfl⟩
  rw [← hRES]
  go_enter Tryz.func24, Tryz.ntmps24
  go_wp2_with fail
  refine HS.out.mono ?_
  rintro e w1 ⟨P, rfl, hP, hb1⟩
  go_wp2_with fail
  refine (numbers_ok _ _).mono ?_
  rintro e w3 ⟨rfl, hb3⟩
  have hb13 := (below_fresh w1 (.cells #[.int .u16 0, .int .u16 0, .int .i64 0, .int .i64 0, .int .i64 0, .int .i64 0, .int .i64 0, .int .i64 0, .int .i64 0, .int .i64 0] 46)).trans (hb3.mono (below_fresh w1 (.cells #[.int .u16 0, .int .u16 0, .int .i64 0, .int .i64 0, .int .i64 0, .int .i64 0, .int .i64 0, .int .i64 0, .int .i64 0, .int .i64 0] 46)).size)
  have HRX := Lib.hid (block_below hb13 (block_below hb1 HR.out))
  have HPX := Lib.hid (block_below hb13 hP)
  have HXX := Lib.hid (block_below hb3 (heap_alloc_new w1 (.cells #[.int .u16 0, .int .u16 0, .int .i64 0, .int .i64 0, .int .i64 0, .int .i64 0, .int .i64 0, .int .i64 0, .int .i64 0, .int .i64 0] 46)))
  have HBX := Lib.hid (below_here (below_here HB0.out hb1) hb13)
  have hPlt : P < w1.heap.size := (Array.getElem?_eq_some_iff.1 hP).1
  have hXlt : w1.heap.size < w3.heap.size := (Array.getElem?_eq_some_iff.1 HXX.out).1
  have hwlt : w.heap.size < w1.heap.size := by have := hb1.size; rw [World.size_alloc] at this; omega
  generalize w1.heap.size = X at HXX hPlt hXlt hwlt ⊢
  clear hb1 hb3 hb13 hP
  have HR4 := Lib.hid (block_below (below_fresh w3 (.cells (ptrs X).toArray 126)) HRX.out)
  have HP4 := Lib.hid (block_below (below_fresh w3 (.cells (ptrs X).toArray 126)) HPX.out)
  have HX4 := Lib.hid (block_below (below_fresh w3 (.cells (ptrs X).toArray 126)) HXX.out)
  have HQ4 := Lib.hid (heap_alloc_new w3 (.cells (ptrs X).toArray 126))
  have HB4 := Lib.hid (below_new HBX.out (.cells (ptrs X).toArray 126))
  clear HRX HPX HXX HBX
  have ha0 := word_cell HP4.out 0 (by rw [hnl]; omega)
  simp only [List.getElem_cons_zero] at ha0
  have hPl := World.block_lt_of_cell? _ _ ha0
  obtain ⟨Q, hQ⟩ : ∃ Q, Q = Lab.parse a.data.toList := ⟨_, rfl⟩
  rw [← hQ] at HLP hlb hRES
  obtain ⟨⟨q1, q2⟩, q3⟩ := Q
  simp only at HLP hlb hRES
  subst hlb
  have HRES := Lib.hid hRES
  clear hQ hRES
  go_wp2_with (refine wpList_store_new rfl 126 (.tmp 6) (.tmp 15) rfl _ (ptrs X).toArray rfl rfl info_ptrs rfl (by simp [ptrs, Value.oneCell']) ?_)
  refine (HLP.out _ (HLw.out.below HB4.out)).mono ?_
  rintro e w5 ⟨rfl, hb5⟩
  have hb45 := hb5.trans ((below_fresh w5 (.cells #[.int .u16 (q1 : Int), .int .u16 (q2 : Int)] 25)).mono hb5.size)
  have HR5 := Lib.hid (show RowAt w.heap.size Lg.zero _ from block_below hb45 HR4.out)
  have HP5 := Lib.hid (block_below hb45 HP4.out)
  have HX5 := Lib.hid (block_below hb45 HX4.out)
  have HQ5 := Lib.hid (block_below hb45 HQ4.out)
  have HB5 := Lib.hid (below_here HB4.out hb45)
  have HX6 := Lib.hid (show RowAt X ((q1, q2), List.replicate 8 0) ((w5.alloc (.cells #[.int .u16 (q1 : Int), .int .u16 (q2 : Int)] 25)).setCells X 0 [.int .u16 (q1 : Int), .int .u16 (q2 : Int)]) from heap_setCells_same X 46 [.int .u16 (q1 : Int), .int .u16 (q2 : Int)] 0 _ (lgC Lg.zero) HX5.out (by simp [lgC, Lg.zero]))
  have HR6 := Lib.hid (show RowAt w.heap.size Lg.zero ((w5.alloc (.cells #[.int .u16 (q1 : Int), .int .u16 (q2 : Int)] 25)).setCells X 0 [.int .u16 (q1 : Int), .int .u16 (q2 : Int)]) from (heap_setCells_other X _ 0 _ _ (by omega)).trans HR5.out)
  have HP6 := Lib.hid ((heap_setCells_other X [.int .u16 (q1 : Int), .int .u16 (q2 : Int)] 0 (w5.alloc (.cells #[.int .u16 (q1 : Int), .int .u16 (q2 : Int)] 25)) P (by omega)).trans HP5.out)
  have HQ6 := Lib.hid ((heap_setCells_other X [.int .u16 (q1 : Int), .int .u16 (q2 : Int)] 0 (w5.alloc (.cells #[.int .u16 (q1 : Int), .int .u16 (q2 : Int)] 25)) w3.heap.size (by omega)).trans HQ5.out)
  have HB6 := Lib.hid (below_setCells HB5.out (show w.heap.size ≤ X by omega) 0 [.int .u16 (q1 : Int), .int .u16 (q2 : Int)])
  obtain ⟨⟨x0, x1, x2, x3, x4, x5, x6, x7, x8, x9⟩, hltX⟩ := ten_of HX5.out
  clear hb5 hb45 ha0 hPl HR4 HX4 HP4 HB4 HQ4 HR5 HP5 HQ5 HB5
  go_wp2_with (first
    | (refine wpList_store_mid rfl 25 _ _ rfl X 0 #[.int .u16 (q1 : Int), .int .u16 (q2 : Int)] rfl rfl (there_of_block HX5.out 0 2 (by simp)) info_lab (by simp [Value.oneCell']) ?_)
    | (refine wpList_load_mid rfl 126 (.tmp 6) rfl w3.heap.size 0 rfl (ptrs X) _ (range_of_block HQ6.out 0 _ (fun j _ => by rw [Nat.zero_add])) Tryz.underlying126 rfl info_ptrs ?_))
  clear x0 x1 x2 x3 x4 x5 x6 x7 x8 x9 hltX HX5 HQ6
  generalize ((w5.alloc (.cells #[.int .u16 (q1 : Int), .int .u16 (q2 : Int)] 25)).setCells X 0 [.int .u16 (q1 : Int), .int .u16 (q2 : Int)]) = w6 at HX6 HR6 HP6 HB6 ⊢
  have HLX := Lib.hid (show w.heap.size < X ∧ P < X from ⟨hwlt, hPlt⟩)
  clear hXlt hwlt hPlt
  go_loopw [9, 10, 11, 12, 33] (fun _ _ _ _ i wr => ∃ (k : Nat) (ns : List Int), i = .int .i64 (k : Int) ∧ k ≤ 8 ∧ ns.length = k ∧ Hid (Lg.nums ((l.take k).map (·.data.toList)) = some ns) ∧ Hid (RowAt X ((q1, q2), ns ++ List.replicate (8 - k) 0) wr) ∧ Hid (RowAt w.heap.size Lg.zero wr) ∧ Hid (wr.heap[P]? = some (.cells ((a :: l).map Value.string).toArray 9 (0, 0))) ∧ Hid (Below w.heap.size w wr)) (fun _ _ _ _ i _ => 8 - (intOf i).toNat)
  case atStart => exact ⟨0, [], rfl, by omega, rfl, Lib.hid rfl, HX6, HR6, HP6, HB6⟩
  case round =>
    clear HX6 HR6 HP6 HB6
    obtain ⟨k, ns, rfl, hk, hns, hN, hX, hR, hP, hB⟩ := hrel
    by_cases hk8 : k = 8
    · subst hk8
      have hr : RES = (((q1, q2), ns), 0) := by
        have h := hN.out
        rw [List.take_of_length_le (by omega)] at h
        rw [HRES.out, h]; rfl
      have hX' : Hid (RowAt X ((q1, q2), ns) wr) := Lib.hid (by have h := hX.out; simpa using h)
      have HE := Lib.hid (RowAt.setCells (r' := ((q1, q2), ns)) hR.out rfl hns).range
      have hth := hR.out.there rfl
      have h10 : (lgC ((q1, q2), ns)).length = 10 := lgC_len hns
      have h10' : (lgC ((q1, q2), ns)).toArray.size = 10 := h10
      subst hr
      go_wp2_with (first
        | (refine wpList_load_mid rfl 46 (.tmp 5) rfl X 0 rfl (lgC ((q1, q2), ns)) _ hX'.out.range Tryz.underlying46 rfl (by rw [h10]; exact info_lrow) ?_)
        | (refine wpList_store_mid rfl 46 _ _ rfl w.heap.size 0 (lgC ((q1, q2), ns)).toArray rfl rfl (by rw [h10']; exact hth) (by rw [h10']; exact info_lrow) (all_oneCell_toArray (lgC_one _)) ?_))
      exact ret_cell_tmp rfl w.heap.size 0 rfl (lgC ((q1, q2), ns)) _ HE.out Tryz.underlying46 rfl (by rw [h10]; exact info_lrow) rfl ⟨rfl, below_setCells hB.out (Nat.le_refl _) _ _⟩
    · have hkl : k < 8 := by omega
      have hki : (k : Int) < 8 := by omega
      have hkl2 : k < l.length := by omega
      have hix := fun W => ptrs_at X k hkl W
      have hcell := word_cell hP.out (k + 1) (by rw [hnl]; omega)
      simp only [List.getElem_cons_succ] at hcell
      have hbl := World.block_lt_of_cell? wr _ hcell
      have hk19 : (k : Int) + 1 < 9 := by omega
      have HA := Lib.hid (fun w h => atoi_any l[k] (HSL.out _ (List.getElem_mem hkl2)) w h)
      have hbad : Hid (Lg.num l[k].data.toList = none → RES = (Lg.zero, 3)) := Lib.hid (fun h => by
        rw [HRES.out, Lg.nums_bad (x := l[k].data.toList) (List.mem_map.2 ⟨l[k], List.getElem_mem hkl2, rfl⟩) h]; rfl)
      have hgood : Hid (∀ v, Lg.num l[k].data.toList = some v → Lg.nums ((l.take (k + 1)).map (·.data.toList)) = some (ns ++ [v])) := Lib.hid (fun v h => by
        rw [List.take_succ_eq_append_getElem hkl2, List.map_append]
        exact Lg.nums_snoc hN.out h)
      have hPb : Hid ((⟨l[k].data.toList.toArray⟩ : ByteArray) = l[k]) := Lib.hid (bytes_of _)
      generalize l[k] = p at hcell HA hbad hgood hPb
      have HLr := Lib.hid (HLw.out.below hB.out)
      clear hk8
      go_wp2_with (go_at_call 78; refine (HA.out _ HLr.out).mono ?_; rintro e w7 ⟨v, ev, rfl, hAP, hb7⟩)
      have HX7 := Lib.hid (block_below hb7 hX.out)
      have HR7 := Lib.hid (block_below hb7 hR.out)
      have HP7 := Lib.hid (block_below hb7 hP.out)
      have hcell7 : w7.cell? ⟨P, k + 1, none⟩ = some (.string p) := (hb7.cell (p := ⟨P, k + 1, none⟩) hbl).trans hcell
      have hbl7 := World.block_lt_of_cell? w7 _ hcell7
      have HB7 := Lib.hid (below_here hB.out hb7)
      have HL7 := Lib.hid (HLr.out.below hb7)
      clear hb7 hcell hbl HA
      rcases hAP with ⟨hok, rfl, hvb⟩ | ⟨hno, t, N, rfl⟩
      · by_cases hv0 : v < 0
        · have hr := hbad.out (Lg.num_out hok (fun h => by omega))
          subst hr
          refine wp_region_over (by kernel_rfl) (by kernel_rfl) ?_
          repeat (go_big_quiet_step (fail))
          refine wpQuiet_nil ?_
          intro W8 hW8
          have hb8 := below_of_over hW8
          have HR8 := Lib.hid (show RowAt w.heap.size Lg.zero W8 from block_below hb8 HR7.out)
          have HB8 := Lib.hid (below_here HB7.out hb8)
          clear hW8 hb8
          go_wp2_with (refine wpList_store_mid rfl 46 _ _ rfl w.heap.size 0 #[.int .u16 0, .int .u16 0, .int .i64 0, .int .i64 0, .int .i64 0, .int .i64 0, .int .i64 0, .int .i64 0, .int .i64 0, .int .i64 0] rfl rfl (there_of_block HR8.out 0 10 (by simp [lgC, Lg.zero])) info_lrow (by simp [Value.oneCell']) ?_)
          exact ret_cell_tmp rfl w.heap.size 0 rfl (lgC Lg.zero) _ (RowAt.setCells (r := Lg.zero) (r' := Lg.zero) HR8.out rfl rfl).range Tryz.underlying46 rfl info_lrow rfl ⟨rfl, below_setCells HB8.out (Nat.le_refl _) _ _⟩
        · by_cases hv1 : 999999 < v
          · have hr := hbad.out (Lg.num_out hok (fun h => by omega))
            subst hr
            refine wp_region_over (by kernel_rfl) (by kernel_rfl) ?_
            repeat (go_big_quiet_step (fail))
            refine wpQuiet_nil ?_
            intro W8 hW8
            have hb8 := below_of_over hW8
            have HR8 := Lib.hid (show RowAt w.heap.size Lg.zero W8 from block_below hb8 HR7.out)
            have HB8 := Lib.hid (below_here HB7.out hb8)
            clear hW8 hb8
            go_wp2_with (refine wpList_store_mid rfl 46 _ _ rfl w.heap.size 0 #[.int .u16 0, .int .u16 0, .int .i64 0, .int .i64 0, .int .i64 0, .int .i64 0, .int .i64 0, .int .i64 0, .int .i64 0, .int .i64 0] rfl rfl (there_of_block HR8.out 0 10 (by simp [lgC, Lg.zero])) info_lrow (by simp [Value.oneCell']) ?_)
            exact ret_cell_tmp rfl w.heap.size 0 rfl (lgC Lg.zero) _ (RowAt.setCells (r := Lg.zero) (r' := Lg.zero) HR8.out rfl rfl).range Tryz.underlying46 rfl info_lrow rfl ⟨rfl, below_setCells HB8.out (Nat.le_refl _) _ _⟩
          · have HI := Lib.hid (fun w h => itoa_ok v (by omega) (by omega) w h)
            by_cases hI : (⟨(Lib.itoa v).toArray⟩ : ByteArray) = p
            · have hnum := Lg.num_is hok ⟨by omega, by omega, by rw [← hI]⟩
              have HNX := Lib.hid (hgood.out v hnum)
              rw [hI] at HI
              have hpe : (p.toList == p.toList) = true := by simp
              clear hok hnum hI hbad hgood
              refine wp_region_over (by kernel_rfl) (by kernel_rfl) ?_
              repeat (go_big_quiet_step ((go_at_call 79; exact Calls.over_of (HI.out _ (HL7.out.below (over_below _ _)).pow))))
              refine wpQuiet_nil ?_
              intro W8 hW8
              have hb8 := below_of_over hW8
              have hx8 := block_below hb8 HX7.out
              have HX8 := Lib.hid (show RowAt X ((q1, q2), ns ++ List.replicate (8 - k) 0) W8 from hx8)
              have HR8 := Lib.hid (show RowAt w.heap.size Lg.zero W8 from block_below hb8 HR7.out)
              have HP8 := Lib.hid (block_below hb8 HP7.out)
              have HB8 := Lib.hid (below_here HB7.out hb8)
              have hlen8 : (ns ++ List.replicate (8 - k) (0 : Int)).length = 8 := by simp; omega
              obtain ⟨z, hz⟩ : ∃ z : Value, W8.cell? ⟨X, 2 + k, none⟩ = some z := by
                rw [cell_of_row W8 X (2 + k) _ _ _ hx8]
                refine ⟨_, List.getElem?_toArray.trans (List.getElem?_eq_getElem ?_)⟩
                rw [lgC_len hlen8]; omega
              have hzf : W8.frozen? ⟨X, 2 + k, none⟩ = false := by simp [World.frozen?, hx8]
              have HS9 := Lib.hid (HX8.out.set k v)
              simp only at HS9
              rw [Lg.set_snoc hns hkl] at HS9
              have HR9 := Lib.hid (HR8.out.other X (2 + k) (.int .i64 v) (by have := HLX.out; omega))
              have HP9 := Lib.hid (show (W8.setCell ⟨X, 2 + k, none⟩ (.int .i64 v)).heap[P]? = _ from (Below.heap_setCell W8 ⟨X, 2 + k, none⟩ (.int .i64 v) P (by have := HLX.out; simp; omega)).trans HP8.out)
              have HB9 := Lib.hid (HB8.out.setCell (p := ⟨X, 2 + k, none⟩) (by have := HLX.out; show w.heap.size ≤ X; omega) (.int .i64 v))
              clear hW8 hb8 hx8 hcell7 hbl7 HI
              go_wp2_with fail
              go_roundw
              case rel => exact ⟨k + 1, ns ++ [v], by go_num, by omega, by simp [hns], HNX, HS9, HR9, HP9, HB9⟩
              case measure => simp [intOf]; omega
            · have hr := hbad.out (Lg.num_out hok (fun h => hI (by rw [h.2.2])))
              subst hr
              have hpe : ((⟨(Lib.itoa v).toArray⟩ : ByteArray).toList == p.toList) = false := (Lib.bytes_beq_false_iff _ _).2 hI
              generalize (⟨(Lib.itoa v).toArray⟩ : ByteArray) = I at HI hI hpe
              refine wp_region_over (by kernel_rfl) (by kernel_rfl) ?_
              repeat (go_big_quiet_step ((go_at_call 79; exact Calls.over_of (HI.out _ (HL7.out.below (over_below _ _)).pow))))
              refine wpQuiet_nil ?_
              intro W8 hW8
              have hb8 := below_of_over hW8
              have HR8 := Lib.hid (show RowAt w.heap.size Lg.zero W8 from block_below hb8 HR7.out)
              have HB8 := Lib.hid (below_here HB7.out hb8)
              clear hW8 hb8
              go_wp2_with (refine wpList_store_mid rfl 46 _ _ rfl w.heap.size 0 #[.int .u16 0, .int .u16 0, .int .i64 0, .int .i64 0, .int .i64 0, .int .i64 0, .int .i64 0, .int .i64 0, .int .i64 0, .int .i64 0] rfl rfl (there_of_block HR8.out 0 10 (by simp [lgC, Lg.zero])) info_lrow (by simp [Value.oneCell']) ?_)
              exact ret_cell_tmp rfl w.heap.size 0 rfl (lgC Lg.zero) _ (RowAt.setCells (r := Lg.zero) (r' := Lg.zero) HR8.out rfl rfl).range Tryz.underlying46 rfl info_lrow rfl ⟨rfl, below_setCells HB8.out (Nat.le_refl _) _ _⟩
      · have hr := hbad.out (Lg.num_bad hno)
        subst hr
        refine wp_region_over (by kernel_rfl) (by kernel_rfl) ?_
        repeat (go_big_quiet_step (fail))
        refine wpQuiet_nil ?_
        intro W8 hW8
        have hb8 := below_of_over hW8
        have HR8 := Lib.hid (show RowAt w.heap.size Lg.zero W8 from block_below hb8 HR7.out)
        have HB8 := Lib.hid (below_here HB7.out hb8)
        clear hW8 hb8
        go_wp2_with (refine wpList_store_mid rfl 46 _ _ rfl w.heap.size 0 #[.int .u16 0, .int .u16 0, .int .i64 0, .int .i64 0, .int .i64 0, .int .i64 0, .int .i64 0, .int .i64 0, .int .i64 0, .int .i64 0] rfl rfl (there_of_block HR8.out 0 10 (by simp [lgC, Lg.zero])) info_lrow (by simp [Value.oneCell']) ?_)
        exact ret_cell_tmp rfl w.heap.size 0 rfl (lgC Lg.zero) _ (RowAt.setCells (r := Lg.zero) (r' := Lg.zero) HR8.out rfl rfl).range Tryz.underlying46 rfl info_lrow rfl ⟨rfl, below_setCells HB8.out (Nat.le_refl _) _ _⟩
/-- ledger.Parse. -/
theorem lgparse_ok (s : ByteArray) (hs : s.size ≤ 1000) (w : World) (hL : LaidAt w) :
    Calls Tryz.prog 24 #[.string s] w fun e w' => e = .returned (.tuple #[lgV (Lg.parse s.data.toList).1, .int .i64 (Lg.parse s.data.toList).2]) ∧ Below w.heap.size w w' := by
  have hwi := Tr.words_is s
  unfold Lg.parse
  rw [← hwi]
  by_cases hn : (Tr.words s).length = 9
  · match hw : Tr.words s, hn with
    | a :: l, hn =>
      have h8 : l.length = 8 := by simpa using hn
      rw [List.map_cons]
      unfold Lg.parseL
      simp only
      by_cases hlb : (Lab.parse a.data.toList).2 = 0
      · rw [if_pos ⟨by rw [List.length_map]; exact h8, hlb⟩]
        exact lgparse_nine s hs a l hw h8 hlb w hL
      · rw [if_neg (fun h => hlb h.2)]
        exact lgparse_lab s hs a l hw h8 hlb w hL
  · have h0 : Lg.parseL ((Tr.words s).map (·.data.toList)) = none := by
      unfold Lg.parseL
      match hw : Tr.words s with
      | [] => rfl
      | a :: l =>
        rw [List.map_cons]
        simp only
        rw [if_neg (fun h => hn (by have h9 := h.1; rw [List.length_map] at h9; first | (rw [hw, List.length_cons, h9]; done) | (rw [List.length_cons, h9]; done) | omega))]
    rw [h0]
    exact lgparse_no s hs hn w hL
end Go.Proofs.YtlmacaenbililaaGreatDoor
namespace Go.Proofs.YtlmacaenbililaaGreatDoor
open Go.RowKit Go.Shelf
set_option linter.unusedSimpArgs false
set_option linter.unusedVariables false
attribute [local go_sem] cell_over frozen_over

def MRowAt (b : Nat) (r : Mt.R) (W : World) : Prop := W.heap[b]? = some (.cells (mtC r).toArray 87 (0, 0))
theorem MRowAt.range {b : Nat} {r : Mt.R} {w : World} (h : MRowAt b r w) : w.rangeAt b 0 (mtC r) := range_of_block h 0 _ (fun j _ => by rw [Nat.zero_add])
theorem MRowAt.there {b : Nat} {r : Mt.R} {w : World} (h : MRowAt b r w) : w.there b 0 7 := there_of_block h 0 7 (by simp [mtC])
theorem mtC_one (r : Mt.R) : ∀ v ∈ mtC r, v.oneCell' = true := by
  intro v hv
  unfold mtC at hv
  simp only [List.mem_cons, List.not_mem_nil, or_false] at hv
  rcases hv with rfl | rfl | rfl | rfl | rfl | rfl | rfl <;> rfl
theorem MRowAt.setCells {b : Nat} {r r' : Mt.R} {w : World} (h : MRowAt b r w) : MRowAt b r' (w.setCells b 0 (mtC r')) := by
  have := heap_setCells_same b 87 (mtC r') 0 w (mtC r) h (by simp [mtC])
  unfold MRowAt
  rw [this]
  rfl
set_option maxRecDepth 100000 in
set_option maxHeartbeats 4000000 in
theorem mtparse_no (s : ByteArray) (hs : s.size ≤ 1000) (hn : (Tr.words s).length ≠ 6) (w : World) (hL : LaidAt w) :
    Calls Tryz.prog 53 #[.string s] w fun e w' => e = .returned (.tuple #[mtV Mt.zero, .int .i64 3]) ∧ Below w.heap.size w w' := by
  have HR := Lib.hid (heap_alloc_new w (.cells #[.int .i64 0, .int .u16 0, .int .u16 0, .int .u16 0, .int .u16 0, .int .u16 0, .int .u16 0] 87))
  have HB0 := Lib.hid (below_fresh w (.cells #[.int .i64 0, .int .u16 0, .int .u16 0, .int .u16 0, .int .u16 0, .int .u16 0, .int .u16 0] 87))
  have HS := Lib.hid (words_ok s (by omega) _ (hL.below HB0.out))
  have HLw := Lib.hid hL
  clear hL
  have hn' : ¬ ((Tr.words s).length : Int) = 6 := by omega
  generalize (Tr.words s).length = nw at hn'
  go_enter Tryz.func53, Tryz.ntmps53
  go_wp2_with fail
  refine HS.out.mono ?_
  rintro e w1 ⟨P, rfl, hP, hb1⟩
  have HR1 := Lib.hid (show MRowAt w.heap.size Mt.zero w1 from block_below hb1 HR.out)
  have HB1 := Lib.hid (below_here HB0.out hb1)
  clear hb1
  go_wp2_with (refine wpList_store_mid rfl 87 _ _ rfl w.heap.size 0 (mtC Mt.zero).toArray rfl rfl HR1.out.there info_mrow (all_oneCell_toArray (mtC_one _)) ?_)
  exact ret_cell_tmp rfl w.heap.size 0 rfl (mtC Mt.zero) _ (MRowAt.setCells (r := Mt.zero) (r' := Mt.zero) HR1.out).range Tryz.underlying87 rfl info_mrow rfl ⟨rfl, below_setCells HB1.out (Nat.le_refl _) _ _⟩
namespace Mt
/-- The row behind k of its sets. -/
def mk (v : Int) (q : Lab.L) (l : List Nat) (k : Nat) : R := (v, q, if 0 < k then l.getD 0 0 else 0, if 1 < k then l.getD 1 0 else 0, if 2 < k then l.getD 2 0 else 0, if 3 < k then l.getD 3 0 else 0)
end Mt
theorem MRowAt.step {X k : Nat} {v : Int} {q : Lab.L} {l : List Nat} {w : World} (h : MRowAt X (Mt.mk v q l k) w) (hk : k < 4) : MRowAt X (Mt.mk v q l (k + 1)) (w.setCell ⟨X, 3 + k, none⟩ (.int .u16 ((l.getD k 0 : Nat) : Int))) := by
  unfold MRowAt at h ⊢
  have h4 : k = 0 ∨ k = 1 ∨ k = 2 ∨ k = 3 := by omega
  rcases h4 with rfl | rfl | rfl | rfl <;> simp [World.setCell, Array.getElem?_modify, h, mtC, Mt.mk]
theorem MRowAt.other {b : Nat} {r : Mt.R} {w : World} (h : MRowAt b r w) (c o : Nat) (v : Value) (hne : b ≠ c) : MRowAt b r (w.setCell ⟨c, o, none⟩ v) := by
  unfold MRowAt at h ⊢
  simp [World.setCell, Array.getElem?_modify, h, hne, Ne.symm hne]
theorem MRowAt.cell3 {X k : Nat} {v : Int} {q : Lab.L} {l : List Nat} {w : World} (h : MRowAt X (Mt.mk v q l k) w) (hk : k < 4) : w.cell? ⟨X, 3 + k, none⟩ = some (.int .u16 0) := by
  rw [cell_of_row w X (3 + k) _ _ _ h]
  have h4 : k = 0 ∨ k = 1 ∨ k = 2 ∨ k = 3 := by omega
  rcases h4 with rfl | rfl | rfl | rfl <;> rfl
theorem MRowAt.frozen3 {X : Nat} {r : Mt.R} {w : World} (h : MRowAt X r w) (k : Nat) : w.frozen? ⟨X, 3 + k, none⟩ = false := by
  unfold MRowAt at h
  simp [World.frozen?, h]
theorem mrow_build (v : Int) (q1 q2 : Nat) (W : World) : (Instr.build 87 #[(0, .int .i64 v), (1, labV (q1, q2))]).run Tryz.prog W = .ok (.agg (mtC (v, (q1, q2), 0, 0, 0, 0)).toArray) W := by kernel_rfl
theorem two_of {W : World} {b : Nat} {t : TypeId} {x0 x1 : Value} (h : W.heap[b]? = some (.cells #[x0, x1] t (0, 0))) : (W.cell? ⟨b, 0, none⟩ = some x0 ∧ W.cell? ⟨b, 1, none⟩ = some x1) ∧ b < W.heap.size :=
  ⟨⟨cell_of_row W b 0 _ t (0, 0) h, cell_of_row W b 1 _ t (0, 0) h⟩, (Array.getElem?_eq_some_iff.1 h).1⟩
set_option maxRecDepth 100000 in
set_option maxHeartbeats 8000000 in
theorem mtparse_six (s : ByteArray) (hs : s.size ≤ 1000) (a b c d e f : ByteArray) (hw : Tr.words s = [a, b, c, d, e, f]) (w : World) (hL : LaidAt w) :
    Calls Tryz.prog 53 #[.string s] w fun e' w' => e' = .returned (.tuple #[mtV (Mt.fin s.data.toList (Mt.cand6 a.data.toList b.data.toList c.data.toList d.data.toList e.data.toList f.data.toList)).1, .int .i64 (Mt.fin s.data.toList (Mt.cand6 a.data.toList b.data.toList c.data.toList d.data.toList e.data.toList f.data.toList)).2]) ∧ Below w.heap.size w w' := by
  have HR := Lib.hid (heap_alloc_new w (.cells #[.int .i64 0, .int .u16 0, .int .u16 0, .int .u16 0, .int .u16 0, .int .u16 0, .int .u16 0] 87))
  have HB0 := Lib.hid (below_fresh w (.cells #[.int .i64 0, .int .u16 0, .int .u16 0, .int .u16 0, .int .u16 0, .int .u16 0, .int .u16 0] 87))
  have HS := Lib.hid (words_ok s (by omega) _ (hL.below HB0.out))
  have HLw := Lib.hid hL
  clear hL
  have hsz : ∀ p ∈ [a, b, c, d, e, f], p.size ≤ 1000 := fun p hp => by have := Tr.words_size s p (by rw [hw]; exact hp); omega
  rw [hw] at HS
  have HA := Lib.hid (fun w h => atoi_any a (hsz a (by simp)) w h)
  have HLP := Lib.hid (fun w h => lparse_ok b (hsz b (by simp)) w h)
  obtain ⟨RES, hRES⟩ : ∃ RES, RES = Mt.fin s.data.toList (Mt.cand6 a.data.toList b.data.toList c.data.toList d.data.toList e.data.toList f.data.toList) := ⟨_, rfl⟩
  rw [← hRES]
  have HRES := Lib.hid hRES
  have HSZ := Lib.hid hsz
  clear hRES hsz
  go_enter Tryz.func53, Tryz.ntmps53
  go_wp2_with fail
  refine HS.out.mono ?_
  rintro e' w1 ⟨P, rfl, hP, hb1⟩
  have HR1 := Lib.hid (show MRowAt w.heap.size Mt.zero w1 from block_below hb1 HR.out)
  have HB1 := Lib.hid (below_here HB0.out hb1)
  have HP1 := Lib.hid hP
  have ca := word_cell hP 0 (by simp)
  have hPl := World.block_lt_of_cell? _ _ ca
  simp only [List.getElem_cons_zero] at ca
  clear hb1 hP
  go_wp2_with fail
  refine (HA.out _ (HLw.out.below HB1.out)).mono ?_
  rintro e' w2 ⟨v, ev, rfl, hAP, hb2⟩
  have HR2 := Lib.hid (show MRowAt w.heap.size Mt.zero w2 from block_below hb2 HR1.out)
  have HB2 := Lib.hid (below_here HB1.out hb2)
  have hP2 := block_below hb2 HP1.out
  have HP2 := Lib.hid hP2
  have cb := word_cell hP2 1 (by simp)
  have hPl2 := World.block_lt_of_cell? _ _ cb
  simp only [List.getElem_cons_succ, List.getElem_cons_zero] at cb
  clear hb2 hP2 ca hPl HR1 HB1 HP1
  go_wp2_with fail
  refine (HLP.out _ (HLw.out.below HB2.out)).mono ?_
  rintro e' w3 ⟨rfl, hb3⟩
  generalize hQ : Lab.parse b.data.toList = Q
  obtain ⟨⟨q1, q2⟩, q3⟩ := Q
  have HQ := Lib.hid hQ
  have HR4 := Lib.hid (show MRowAt w.heap.size Mt.zero (w3.alloc (.cells #[.int .u16 (q1 : Int), .int .u16 (q2 : Int)] 25)) from block_below (below_fresh w3 _) (block_below hb3 HR2.out))
  have HB4 := Lib.hid (below_new (below_here HB2.out hb3) (.cells #[.int .u16 (q1 : Int), .int .u16 (q2 : Int)] 25))
  have HP4 := Lib.hid (block_below (below_fresh w3 (.cells #[.int .u16 (q1 : Int), .int .u16 (q2 : Int)] 25)) (block_below hb3 HP2.out))
  have HX4 := Lib.hid (heap_alloc_new w3 (.cells #[.int .u16 (q1 : Int), .int .u16 (q2 : Int)] 25))
  have hPX3 : P < w3.heap.size + 1 := by have := (Array.getElem?_eq_some_iff.1 HP4.out).1; simp at this; omega
  clear hb3 cb hPl2 HR2 HB2 HP2 hQ
  rcases hAP with ⟨hok, rfl, hvb⟩ | ⟨hno, tx, N, rfl⟩
  · by_cases h1 : q3 = 0
    · by_cases h2 : v < 0
      · have hr : RES = (Mt.zero, 3) := by
          rw [HRES.out]
          unfold Mt.cand6
          rw [hok]
          simp only
          rw [if_neg (by omega)]
          rfl
        subst hr
        go_wp2_with (refine wpList_store_mid rfl 87 _ _ rfl w.heap.size 0 (mtC Mt.zero).toArray rfl rfl HR4.out.there info_mrow (all_oneCell_toArray (mtC_one _)) ?_)
        exact ret_cell_tmp rfl w.heap.size 0 rfl (mtC Mt.zero) _ (MRowAt.setCells (r := Mt.zero) (r' := Mt.zero) HR4.out).range Tryz.underlying87 rfl info_mrow rfl ⟨rfl, below_setCells HB4.out (Nat.le_refl _) _ _⟩
      · by_cases h3 : 16 ≤ v
        · have hr : RES = (Mt.zero, 3) := by
            rw [HRES.out]
            unfold Mt.cand6
            rw [hok]
            simp only
            rw [if_neg (by omega)]
            rfl
          subst hr
          go_wp2_with (refine wpList_store_mid rfl 87 _ _ rfl w.heap.size 0 (mtC Mt.zero).toArray rfl rfl HR4.out.there info_mrow (all_oneCell_toArray (mtC_one _)) ?_)
          exact ret_cell_tmp rfl w.heap.size 0 rfl (mtC Mt.zero) _ (MRowAt.setCells (r := Mt.zero) (r' := Mt.zero) HR4.out).range Tryz.underlying87 rfl info_mrow rfl ⟨rfl, below_setCells HB4.out (Nat.le_refl _) _ _⟩
        · obtain ⟨⟨y0, y1⟩, yl⟩ := two_of HX4.out
          have HXR := Lib.hid (heap_alloc_new (w3.alloc (.cells #[.int .u16 (q1 : Int), .int .u16 (q2 : Int)] 25)) (.cells (mtC (v, (q1, q2), 0, 0, 0, 0)).toArray 87))
          go_wp2_with (first
            | (refine wpList_build rfl 87 _ rfl #[(0, .int .i64 v), (1, labV (q1, q2))] ?b1 (mrow_build v q1 q2 _) ?_; (case b1 => simp [Act.eval, Act.put]))
            | (refine wpList_store_new rfl 87 (.tmp 9) (.tmp 51) rfl _ (mtC (v, (q1, q2), 0, 0, 0, 0)).toArray ?x1 ?x2 info_mrow rfl (all_oneCell_toArray (mtC_one _)) ?_; (case x1 => first | rfl | (rw [World.size_alloc]; rfl)); (case x2 => rfl))
            | (go_at_call 123; refine (sets_ok _ _).mono ?_; rintro e w5 ⟨rfl, hb5⟩))
          have hsl : w3.heap.size + 1 = (w3.alloc (.cells #[.int .u16 (q1 : Int), .int .u16 (q2 : Int)] 25)).heap.size := by simp
          have HR5 := Lib.hid (show MRowAt w.heap.size Mt.zero w5 from block_below hb5 (block_below (below_fresh _ _) HR4.out))
          have HP5 := Lib.hid (block_below hb5 (block_below (below_fresh _ _) HP4.out))
          have HX5 := Lib.hid (show MRowAt (w3.heap.size + 1) (Mt.mk v (q1, q2) [(Mt.set c.data.toList).1, (Mt.set d.data.toList).1, (Mt.set e.data.toList).1, (Mt.set f.data.toList).1] 0) w5 from by rw [hsl]; exact block_below hb5 HXR.out)
          have HB5 := Lib.hid (below_here (below_new HB4.out (.cells (mtC (v, (q1, q2), 0, 0, 0, 0)).toArray 87)) hb5)
          have hwx : w.heap.size < w3.heap.size + 1 := by have := HB4.out.size; simp at this; have h9 := (Array.getElem?_eq_some_iff.1 HR4.out).1; simp at h9; omega
          have HWX := Lib.hid hwx
          have HPX := Lib.hid (show P < w3.heap.size + 1 from hPX3)
          clear hb5 hsl hwx HXR HX4 HP4 HR4 HB4 y0 y1 yl hPX3
          generalize w3.heap.size + 1 = X at HX5 HWX HPX ⊢
          go_loopw [53] (fun i wr => ∃ k : Nat, i = .int .i64 (k : Int) ∧ k ≤ 4 ∧ Hid (∀ (j : Nat) (p : ByteArray), j < k → [c, d, e, f][j]? = some p → (Mt.set p.data.toList).2 = 0) ∧ Hid (MRowAt X (Mt.mk v (q1, q2) [(Mt.set c.data.toList).1, (Mt.set d.data.toList).1, (Mt.set e.data.toList).1, (Mt.set f.data.toList).1] k) wr) ∧ Hid (MRowAt w.heap.size Mt.zero wr) ∧ Hid (wr.heap[P]? = some (.cells ([a, b, c, d, e, f].map Value.string).toArray 9 (0, 0))) ∧ Hid (Below w.heap.size w wr)) (fun i _ => 4 - (intOf i).toNat)
          case atStart => exact ⟨0, rfl, by omega, Lib.hid (fun j p h => by omega), HX5, HR5, HP5, HB5⟩
          case round =>
            obtain ⟨k, rfl, hk, hN, hX, hR, hP, hB⟩ := hrel
            by_cases hk4 : k = 4
            · subst hk4
              have HRX := Lib.hid hX.out.range
              have HML := Lib.hid (fun hok w hT hW => mtline_ok (Mt.mk v (q1, q2) [(Mt.set c.data.toList).1, (Mt.set d.data.toList).1, (Mt.set e.data.toList).1, (Mt.set f.data.toList).1] 4) hok w hT hW)
              have hcan : Mt.can (Mt.mk v (q1, q2) [(Mt.set c.data.toList).1, (Mt.set d.data.toList).1, (Mt.set e.data.toList).1, (Mt.set f.data.toList).1] 4) := ⟨⟨by show 0 ≤ v; omega, by show v < 16; omega⟩, by have := Lab.parse_lt b.data.toList; rw [HQ.out] at this; exact this, Mt.set_lt _, Mt.set_lt _, Mt.set_lt _, Mt.set_lt _⟩
              have hr : RES = Mt.fin s.data.toList (some (Mt.mk v (q1, q2) [(Mt.set c.data.toList).1, (Mt.set d.data.toList).1, (Mt.set e.data.toList).1, (Mt.set f.data.toList).1] 4)) := by
                rw [HRES.out]
                unfold Mt.cand6
                rw [hok, HQ.out]
                simp only
                rw [if_pos ⟨h1, ⟨by omega, by omega⟩, hN.out 0 c (by omega) rfl, hN.out 1 d (by omega) rfl, hN.out 2 e (by omega) rfl, hN.out 3 f (by omega) rfl⟩]
                rfl
              have HCAN := Lib.hid hcan
              have HLr := Lib.hid (HLw.out.below hB.out)
              obtain ⟨r, hrr⟩ : ∃ r, r = Mt.mk v (q1, q2) [(Mt.set c.data.toList).1, (Mt.set d.data.toList).1, (Mt.set e.data.toList).1, (Mt.set f.data.toList).1] 4 := ⟨_, rfl⟩
              rw [← hrr] at HRX HML HCAN hr hX
              unfold Mt.fin at hr
              simp only at hr
              clear hcan hrr hN
              unfold mtV at HML
              go_wp2_with (refine wpList_load_mid rfl 87 (.tmp 9) rfl X 0 rfl (mtC r) _ HRX.out Tryz.underlying87 rfl info_mrow ?_)
              refine (HML.out (Mt.can_ok HCAN.out) _ HLr.out.tab HLr.out.pow).mono ?_
              rintro e' w8 ⟨rfl, hb8⟩
              have HR8 := Lib.hid (show MRowAt w.heap.size Mt.zero w8 from block_below hb8 hR.out)
              have HX8 := Lib.hid (show MRowAt X r w8 from block_below hb8 hX.out)
              have HB8 := Lib.hid (below_here hB.out hb8)
              clear hb8 HRX
              by_cases he : (⟨(Mt.line r).toArray⟩ : ByteArray) = s
              · have hr' : RES = (r, 0) := by rw [hr, if_pos (by rw [← he])]
                subst hr'
                rw [he]
                have hse : (s.toList == s.toList) = true := by simp
                clear hr he HML
                go_wp2_with (first
                  | (refine wpList_load_mid rfl 87 (.tmp 9) rfl X 0 rfl (mtC r) _ HX8.out.range Tryz.underlying87 rfl info_mrow ?_)
                  | (refine wpList_store_mid rfl 87 _ _ rfl w.heap.size 0 (mtC r).toArray rfl rfl HR8.out.there info_mrow (all_oneCell_toArray (mtC_one _)) ?_))
                exact ret_cell_tmp rfl w.heap.size 0 rfl (mtC r) _ (MRowAt.setCells (r := Mt.zero) (r' := r) HR8.out).range Tryz.underlying87 rfl info_mrow rfl ⟨rfl, below_setCells HB8.out (Nat.le_refl _) _ _⟩
              · have hr' : RES = (Mt.zero, 3) := by rw [hr, if_neg (fun h => he (by rw [h]))]
                subst hr'
                have hse : ((⟨(Mt.line r).toArray⟩ : ByteArray).toList == s.toList) = false := (Lib.bytes_beq_false_iff _ _).2 he
                generalize (⟨(Mt.line r).toArray⟩ : ByteArray) = LN at HML he hse ⊢
                go_wp2_with (refine wpList_store_mid rfl 87 _ _ rfl w.heap.size 0 (mtC Mt.zero).toArray rfl rfl HR8.out.there info_mrow (all_oneCell_toArray (mtC_one _)) ?_)
                exact ret_cell_tmp rfl w.heap.size 0 rfl (mtC Mt.zero) _ (MRowAt.setCells (r := Mt.zero) (r' := Mt.zero) HR8.out).range Tryz.underlying87 rfl info_mrow rfl ⟨rfl, below_setCells HB8.out (Nat.le_refl _) _ _⟩
            · have hkl : k < 4 := by omega
              have hki : (k : Int) < 4 := by omega
              obtain ⟨p, hp⟩ : ∃ p, [c, d, e, f][k]? = some p := ⟨_, List.getElem?_eq_getElem (show k < [c, d, e, f].length from hkl)⟩
              have hcell : wr.cell? ⟨P, 2 + k, none⟩ = some (.string p) := by
                rw [cell_of_row wr P (2 + k) _ _ _ hP.out, List.getElem?_toArray, List.getElem?_map, Nat.add_comm 2 k, List.getElem?_cons_succ, List.getElem?_cons_succ, hp]
                rfl
              have hpm : p ∈ [a, b, c, d, e, f] := by
                have := List.mem_of_getElem? hp
                simp only [List.mem_cons, List.not_mem_nil, or_false] at this ⊢
                rcases this with h | h | h | h <;> simp [h]
              have HTP := Lib.hid (fun w h => parse_ok p (HSZ.out p hpm) w h)
              rw [Mt.tag_e] at HTP
              have hbl := World.block_lt_of_cell? wr _ hcell
              have hix := fun W => mptrs_at X k hkl W
              have hk2 : (2 : Int) + (k : Int) < 6 := by omega
              have hgd : (Mt.set p.data.toList).1 = [(Mt.set c.data.toList).1, (Mt.set d.data.toList).1, (Mt.set e.data.toList).1, (Mt.set f.data.toList).1].getD k 0 := by
                have h4 : k = 0 ∨ k = 1 ∨ k = 2 ∨ k = 3 := by omega
                rcases h4 with rfl | rfl | rfl | rfl <;> (obtain rfl := Option.some.inj hp; rfl)
              have hbad : (Mt.set p.data.toList).2 ≠ 0 → RES = (Mt.zero, 3) := fun hne => by
                rw [HRES.out]
                unfold Mt.cand6
                rw [hok]
                simp only
                rw [if_neg (fun h => hne (by
                  have h4 : k = 0 ∨ k = 1 ∨ k = 2 ∨ k = 3 := by omega
                  rcases h4 with rfl | rfl | rfl | rfl
                  · obtain rfl := Option.some.inj hp; exact h.2.2.1
                  · obtain rfl := Option.some.inj hp; exact h.2.2.2.1
                  · obtain rfl := Option.some.inj hp; exact h.2.2.2.2.1
                  · obtain rfl := Option.some.inj hp; exact h.2.2.2.2.2))]
                rfl
              have HLr := Lib.hid (HLw.out.below hB.out)
              by_cases he : (Mt.set p.data.toList).2 = 0
              · have HN1 : Hid (∀ (j : Nat) (q : ByteArray), j < k + 1 → [c, d, e, f][j]? = some q → (Mt.set q.data.toList).2 = 0) := Lib.hid (fun j q hj hq => by
                  by_cases hjk : j = k
                  · subst hjk
                    rw [hp] at hq
                    obtain rfl := Option.some.inj hq
                    exact he
                  · exact hN.out j q (by omega) hq)
                rw [he] at HTP
                obtain ⟨x, hx⟩ : ∃ x, x = (Mt.set p.data.toList).1 := ⟨_, rfl⟩
                rw [← hx] at HTP hgd
                have HSX : Hid (∀ W, MRowAt X (Mt.mk v (q1, q2) [(Mt.set c.data.toList).1, (Mt.set d.data.toList).1, (Mt.set e.data.toList).1, (Mt.set f.data.toList).1] k) W → MRowAt X (Mt.mk v (q1, q2) [(Mt.set c.data.toList).1, (Mt.set d.data.toList).1, (Mt.set e.data.toList).1, (Mt.set f.data.toList).1] (k + 1)) (W.setCell ⟨X, 3 + k, none⟩ (.int .u16 (x : Int)))) := Lib.hid (fun W h => by rw [hgd]; exact h.step hkl)
                clear hbad hgd he hk4 hN hx
                go_wp2_with (first
                  | (go_at_call 124; refine (HTP.out _ HLr.out).mono ?_; rintro e' w7 ⟨rfl, hb7⟩; have HX7 := Lib.hid (show MRowAt X (Mt.mk v (q1, q2) [(Mt.set c.data.toList).1, (Mt.set d.data.toList).1, (Mt.set e.data.toList).1, (Mt.set f.data.toList).1] k) w7 from block_below hb7 hX.out); have HR7 := Lib.hid (show MRowAt w.heap.size Mt.zero w7 from block_below hb7 hR.out); have HP7 := Lib.hid (block_below hb7 hP.out); have HB7 := Lib.hid (below_here hB.out hb7); have hzc := HX7.out.cell3 hkl; have hzf := HX7.out.frozen3 k; clear hb7))
                have HS9 := Lib.hid (HSX.out _ HX7.out)
                have HR9 := Lib.hid (HR7.out.other X (3 + k) (.int .u16 (x : Int)) (by have := HWX.out; omega))
                have HP9 := Lib.hid (show (w7.setCell ⟨X, 3 + k, none⟩ (.int .u16 (x : Int))).heap[P]? = _ from (Below.heap_setCell w7 ⟨X, 3 + k, none⟩ (.int .u16 (x : Int)) P (by have := HPX.out; simp; omega)).trans HP7.out)
                have HB9 := Lib.hid (HB7.out.setCell (p := ⟨X, 3 + k, none⟩) (by have := HWX.out; show w.heap.size ≤ X; omega) (.int .u16 (x : Int)))
                go_roundw
                case rel => exact ⟨k + 1, by go_num, by omega, HN1, HS9, HR9, HP9, HB9⟩
                case measure => simp [intOf]; omega
              · have hr := hbad he
                subst hr
                have he' := he
                clear hbad hgd hk4 hN
                generalize Mt.set p.data.toList = T at HTP he
                obtain ⟨t1, t2⟩ := T
                simp only at HTP he
                go_wp2_with (first
                  | (go_at_call 124; refine (HTP.out _ HLr.out).mono ?_; rintro e' w7 ⟨rfl, hb7⟩; have HR7 := Lib.hid (show MRowAt w.heap.size Mt.zero w7 from block_below hb7 hR.out); have HB7 := Lib.hid (below_here hB.out hb7); clear hb7)
                  | (refine wpList_store_mid rfl 87 _ _ rfl w.heap.size 0 (mtC Mt.zero).toArray rfl rfl HR7.out.there info_mrow (all_oneCell_toArray (mtC_one _)) ?_))
                exact ret_cell_tmp rfl w.heap.size 0 rfl (mtC Mt.zero) _ (MRowAt.setCells (r := Mt.zero) (r' := Mt.zero) HR7.out).range Tryz.underlying87 rfl info_mrow rfl ⟨rfl, below_setCells HB7.out (Nat.le_refl _) _ _⟩
    · have hr : RES = (Mt.zero, 3) := by
        rw [HRES.out]
        unfold Mt.cand6
        rw [hok, HQ.out]
        simp only
        rw [if_neg (fun h => h1 h.1)]
        rfl
      subst hr
      go_wp2_with (refine wpList_store_mid rfl 87 _ _ rfl w.heap.size 0 (mtC Mt.zero).toArray rfl rfl HR4.out.there info_mrow (all_oneCell_toArray (mtC_one _)) ?_)
      exact ret_cell_tmp rfl w.heap.size 0 rfl (mtC Mt.zero) _ (MRowAt.setCells (r := Mt.zero) (r' := Mt.zero) HR4.out).range Tryz.underlying87 rfl info_mrow rfl ⟨rfl, below_setCells HB4.out (Nat.le_refl _) _ _⟩
  · have hr : RES = (Mt.zero, 3) := by
      rw [HRES.out]
      unfold Mt.cand6
      cases hx : Lib.atoiAll a.data.toList with
      | ok n => exact absurd hx (hno n)
      | _ => rfl
    subst hr
    go_wp2_with (refine wpList_store_mid rfl 87 _ _ rfl w.heap.size 0 (mtC Mt.zero).toArray rfl rfl HR4.out.there info_mrow (all_oneCell_toArray (mtC_one _)) ?_)
    exact ret_cell_tmp rfl w.heap.size 0 rfl (mtC Mt.zero) _ (MRowAt.setCells (r := Mt.zero) (r' := Mt.zero) HR4.out).range Tryz.underlying87 rfl info_mrow rfl ⟨rfl, below_setCells HB4.out (Nat.le_refl _) _ _⟩
/-- matrix.Parse. -/
theorem mtparse_ok (s : ByteArray) (hs : s.size ≤ 1000) (w : World) (hL : LaidAt w) :
    Calls Tryz.prog 53 #[.string s] w fun e w' => e = .returned (.tuple #[mtV (Mt.parse s.data.toList).1, .int .i64 (Mt.parse s.data.toList).2]) ∧ Below w.heap.size w w' := by
  have hwi := Tr.words_is s
  unfold Mt.parse
  rw [← hwi]
  by_cases hn : (Tr.words s).length = 6
  · match hw : Tr.words s, hn with
    | [a, b, c, d, e, f], _ => exact mtparse_six s hs a b c d e f hw w hL
  · have h0 : Mt.cand ((Tr.words s).map (·.data.toList)) = none := by
      match hw : Tr.words s with
      | [] => rfl
      | [_] => rfl
      | [_, _] => rfl
      | [_, _, _] => rfl
      | [_, _, _, _] => rfl
      | [_, _, _, _, _] => rfl
      | [_, _, _, _, _, _] => exact absurd (by rw [hw]; rfl) hn
      | _ :: _ :: _ :: _ :: _ :: _ :: _ :: _ => rfl
    rw [h0]
    exact mtparse_no s hs hn w hL
end Go.Proofs.YtlmacaenbililaaGreatDoor
namespace Go.Proofs.YtlmacaenbililaaGreatDoor
open Go.RowKit Go.Shelf
set_option linter.unusedSimpArgs false
set_option linter.unusedVariables false
attribute [local go_sem] cell_over frozen_over

namespace Lg
theorem raw_bound : ∀ (l : List UInt8) (acc B : Int), 0 ≤ B → -B ≤ acc ∧ acc ≤ B → -((B + 100) * 10 ^ l.length - 100) ≤ l.foldl (fun (n : Int) c => 10 * n + (c.toNat : Int) - 48) acc ∧ l.foldl (fun (n : Int) c => 10 * n + (c.toNat : Int) - 48) acc ≤ (B + 100) * 10 ^ l.length - 100
  | [], acc, B, hB, h => by simp only [List.length_nil, Int.pow_zero, Int.mul_one, List.foldl_nil]; omega
  | c :: l, acc, B, hB, h => by
    have hc := UInt8.toNat_lt c
    have ih := raw_bound l (10 * acc + (c.toNat : Int) - 48) (10 * B + 900) (by omega) (by omega)
    rw [List.foldl_cons]
    have e : (10 * B + 900 + 100) * 10 ^ l.length = (B + 100) * 10 ^ (c :: l).length := by
      rw [List.length_cons, Int.pow_succ, show 10 * B + 900 + 100 = (B + 100) * 10 by omega, Int.mul_assoc, Int.mul_comm 10]
    rw [e] at ih
    exact ih
theorem raw_small (l : List UInt8) (j : Nat) (hj : j ≤ 7) : -1000000000 ≤ (l.take j).foldl (fun (n : Int) c => 10 * n + (c.toNat : Int) - 48) 0 ∧ (l.take j).foldl (fun (n : Int) c => 10 * n + (c.toNat : Int) - 48) 0 ≤ 1000000000 := by
  have h := raw_bound (l.take j) 0 0 (by omega) (by omega)
  have h1 : (l.take j).length ≤ 7 := Nat.le_trans (List.length_take_le _ _) hj
  have h2 : (10 : Int) ^ (l.take j).length ≤ 10 ^ 7 := by
    have : (10 : Nat) ^ (l.take j).length ≤ 10 ^ 7 := Nat.pow_le_pow_right (by omega) h1
    have e : ∀ n : Nat, ((10 : Nat) ^ n : Nat) = ((10 : Int) ^ n) := fun n => by rw [Int.natCast_pow]; rfl
    rw [← e, ← e]; exact Int.ofNat_le.2 this
  have h3 : (10 : Int) ^ 7 = 10000000 := by decide
  omega
theorem raw_take (l : List UInt8) (j : Nat) (hj : j < l.length) : (l.take (j + 1)).foldl (fun (n : Int) c => 10 * n + (c.toNat : Int) - 48) 0 = 10 * (l.take j).foldl (fun (n : Int) c => 10 * n + (c.toNat : Int) - 48) 0 + ((l.getD j 0).toNat : Int) - 48 := by
  rw [Tr.take_succ_getD hj, List.foldl_append]; rfl
theorem rcand_bad {a : List UInt8} {l : List (List UInt8)} {x : List UInt8} (h : x ∈ l) (hx : ¬ (0 ≤ raw x ∧ raw x ≤ 999999)) : rcand (a :: l) = none := if_neg fun hh => hx (hh.2 x h)
end Lg
theorem rlparse_v (s : ByteArray) (hs : s.size ≤ 1000) (w : World) : Calls Tryz.prog 81 #[.string s] w fun e w' => (∃ b : Bool, e = .returned (.tuple #[labV (Lab.parse s.data.toList).1, .bool b])) ∧ Below w.heap.size w w' := by
  refine (rlparse_ok s hs w).mono ?_
  rintro e w' ⟨rfl, hb⟩
  refine ⟨?_, hb⟩
  unfold Lab.parse
  cases Lab.rparse s.data.toList with
  | none => exact ⟨false, rfl⟩
  | some a => exact ⟨true, rfl⟩
theorem ints_own {w : World} {base : Nat} {v : Value} {xs : List Value} {n : Nat} (h : w.ownsRow base 3 1 v (n + 1) xs) : ∃ g cap, v = .slice (some ⟨g, 0, none⟩) (n + 1) cap ∧ w.rangeAt g 0 xs := by
  obtain ⟨g, cap, rfl⟩ := ownsRow_succ h
  exact ⟨g, cap, rfl, fun j u hj => by rw [Nat.zero_add]; exact (own_cell h j u hj).1⟩
def rlgRes (o : Option Lg.R) : Value := match o with
  | some r => .tuple #[lgV r, .bool true]
  | none => .tuple #[lgV Lg.zero, .bool false]
def RRowAt (b : Nat) (r : Lg.R) (W : World) : Prop := W.heap[b]? = some (.cells (lgC r).toArray 48 (0, 0))
theorem RRowAt.range {b : Nat} {r : Lg.R} {w : World} (h : RRowAt b r w) : w.rangeAt b 0 (lgC r) := range_of_block h 0 _ (fun j _ => by rw [Nat.zero_add])
theorem RRowAt.setCells {b : Nat} {r r' : Lg.R} {w : World} (h : RRowAt b r w) (hl : r.2.length = 8) (hl' : r'.2.length = 8) : RRowAt b r' (w.setCells b 0 (lgC r')) := by
  have := heap_setCells_same b 48 (lgC r') 0 w (lgC r) h (by rw [lgC_len hl, lgC_len hl']; omega)
  unfold RRowAt
  rw [this]
  have e : splice (lgC r) 0 (lgC r') = lgC r' := by
    have h1 := lgC_len hl
    have h2 := lgC_len hl'
    unfold splice
    rw [List.take_zero, List.nil_append, List.drop_of_length_le (by omega), List.append_nil]
  rw [e]
set_option maxRecDepth 100000 in
set_option maxHeartbeats 4000000 in
theorem rlgparse_no (s : ByteArray) (hs : s.size ≤ 1000) (hn : (Tr.wordsL s.data.toList).length ≠ 9) (w : World) :
    Calls Tryz.prog 25 #[.string s] w fun e w' => e = .returned (rlgRes none) ∧ Below w.heap.size w w' := by
  have HR := Lib.hid (heap_alloc_new w (.cells #[.int .u16 0, .int .u16 0, .int .i64 0, .int .i64 0, .int .i64 0, .int .i64 0, .int .i64 0, .int .i64 0, .int .i64 0, .int .i64 0] 48))
  have HB0 := Lib.hid (below_fresh w (.cells #[.int .u16 0, .int .u16 0, .int .i64 0, .int .i64 0, .int .i64 0, .int .i64 0, .int .i64 0, .int .i64 0, .int .i64 0, .int .i64 0] 48))
  have HS := Lib.hid (rsplit_ok s hs (w.alloc (.cells #[.int .u16 0, .int .u16 0, .int .i64 0, .int .i64 0, .int .i64 0, .int .i64 0, .int .i64 0, .int .i64 0, .int .i64 0, .int .i64 0] 48)))
  have hn' : ¬ ((Tr.wordsL s.data.toList).length : Int) = 9 := by omega
  go_enter Tryz.func25, Tryz.ntmps25
  go_wp2_with fail
  refine HS.out.mono ?_
  rintro e w1 ⟨v, rfl, hv, hb1⟩
  obtain ⟨A, c, rfl⟩ : ∃ A c, v = .slice A (Tr.wordsL s.data.toList).length c := by
    rcases hv.2 with ⟨rfl, h⟩ | ⟨g, cap, cur, rfl, _⟩
    · exact ⟨none, 0, by rw [h]⟩
    · exact ⟨_, _, rfl⟩
  have HR1 := Lib.hid (block_below hb1 HR.out)
  have HB1 := Lib.hid (below_here HB0.out hb1)
  clear hv hb1
  generalize (Tr.wordsL s.data.toList).length = nw at hn'
  go_wp2_with (refine wpList_store_mid rfl 48 _ _ rfl w.heap.size 0 #[.int .u16 0, .int .u16 0, .int .i64 0, .int .i64 0, .int .i64 0, .int .i64 0, .int .i64 0, .int .i64 0, .int .i64 0, .int .i64 0] rfl rfl (there_of_block HR1.out 0 10 (by simp)) info_row (by simp [Value.oneCell']) ?_)
  exact ret_cell_tmp rfl w.heap.size 0 rfl (lgC Lg.zero) _ (RRowAt.setCells (r := Lg.zero) (r' := Lg.zero) HR1.out rfl rfl).range Tryz.underlying48 rfl info_row rfl ⟨rfl, below_setCells HB1.out (Nat.le_refl _) _ _⟩
set_option maxRecDepth 100000 in
set_option maxHeartbeats 8000000 in
theorem rlgparse_nine (s : ByteArray) (hs : s.size ≤ 1000) (a : List UInt8) (l : List (List UInt8)) (hw : Tr.wordsL s.data.toList = a :: l) (h8 : l.length = 8) (w : World) :
    Calls Tryz.prog 25 #[.string s] w fun e w' => e = .returned (rlgRes (Lg.rfin s.data.toList (Lg.rcand (a :: l)))) ∧ Below w.heap.size w w' := by
  have hsz : ∀ x ∈ a :: l, x.length ≤ 1000 := by
    rw [← hw]
    intro x hx
    have hl : s.data.toList.length = s.size := by rw [Array.length_toList]; rfl
    have := Tr.fold_size s.data.toList [[]] 0 (by simp) x (by rw [Tr.fold_words0]; exact hx)
    omega
  have HR := Lib.hid (heap_alloc_new w (.cells #[.int .u16 0, .int .u16 0, .int .i64 0, .int .i64 0, .int .i64 0, .int .i64 0, .int .i64 0, .int .i64 0, .int .i64 0, .int .i64 0] 48))
  have HB0 := Lib.hid (below_fresh w (.cells #[.int .u16 0, .int .u16 0, .int .i64 0, .int .i64 0, .int .i64 0, .int .i64 0, .int .i64 0, .int .i64 0, .int .i64 0, .int .i64 0] 48))
  have HS := Lib.hid (rsplit_ok s hs (w.alloc (.cells #[.int .u16 0, .int .u16 0, .int .i64 0, .int .i64 0, .int .i64 0, .int .i64 0, .int .i64 0, .int .i64 0, .int .i64 0, .int .i64 0] 48)))
  rw [hw] at HS
  have hnl : (a :: l).length = 9 := by rw [List.length_cons, h8]
  rw [hnl] at HS
  have HLP := Lib.hid (fun w => rlparse_v ⟨a.toArray⟩ (by show a.toArray.size ≤ 1000; rw [List.size_toArray]; exact hsz a List.mem_cons_self) w)
  have HSZ := Lib.hid (fun x hx => hsz x (List.mem_cons_of_mem _ hx))
  rw [show (⟨a.toArray⟩ : ByteArray).data.toList = a by simp] at HLP
  obtain ⟨RES, hRES⟩ : ∃ RES, RES = Lg.rfin s.data.toList (Lg.rcand (a :: l)) := ⟨_, rfl⟩
  rw [← hRES]
  have hbad : ∀ x ∈ l, ¬ (0 ≤ Lg.raw x ∧ Lg.raw x ≤ 999999) → RES = none := fun x hx h => by rw [hRES, Lg.rcand_bad hx h]; rfl
  have hgood : (∀ x ∈ l, 0 ≤ Lg.raw x ∧ Lg.raw x ≤ 999999) → RES = Lg.rfin s.data.toList (some ((Lab.parse a).1, l.map Lg.raw)) := fun h => by rw [hRES]; unfold Lg.rcand; simp only; rw [if_pos ⟨h8, h⟩]
  have HBAD := Lib.hid hbad
  have HGOOD := Lib.hid hgood
  have HOKL := Lib.hid (Lab.parse_lt a)
  clear hRES hbad hgood hsz hw
  obtain ⟨q, hq⟩ : ∃ q, q = (Lab.parse a).1 := ⟨_, rfl⟩
  rw [← hq] at HLP HGOOD HOKL
  clear hq
  obtain ⟨i0, hi, hz0, hz1, hz2⟩ := info_parts info_int
  have HI := Lib.hid hi
  have HZ0 := Lib.hid hz0
  have HZ1 := Lib.hid hz1
  have HZ2 := Lib.hid hz2
  clear hi hz0 hz1 hz2
  obtain ⟨q1, q2⟩ := q
  go_enter Tryz.func25, Tryz.ntmps25
  go_wp2_with fail
  refine HS.out.mono ?_
  rintro e w1 ⟨v, rfl, hv, hb1⟩
  obtain ⟨g, cap, rfl⟩ := ownsRow_succ hv
  have HWC := Lib.hid (show ∀ k (h : k < (a :: l).length), w1.cell? ⟨g, k, none⟩ = some (.string ⟨((a :: l)[k]).toArray⟩) from fun k h => (own_cell hv k _ (by rw [strs, List.getElem?_map, List.getElem?_eq_getElem h]; rfl)).1)
  have HR1 := Lib.hid (block_below hb1 HR.out)
  have HB1 := Lib.hid (below_here HB0.out hb1)
  have ha0 := HWC.out 0 (by rw [hnl]; omega)
  simp only [List.getElem_cons_zero] at ha0
  have hgl := World.block_lt_of_cell? _ _ ha0
  clear hv hb1
  go_wp2_with fail
  refine (HLP.out _).mono ?_
  rintro e w4 ⟨⟨bq, rfl⟩, hb4⟩
  have hb14 := hb4.trans ((below_fresh w4 (.cells #[.int .u16 (q1 : Int), .int .u16 (q2 : Int)] 25)).mono hb4.size)
  have HWC5 := Lib.hid (show ∀ k (h : k < (a :: l).length), (w4.alloc (.cells #[.int .u16 (q1 : Int), .int .u16 (q2 : Int)] 25)).cell? ⟨g, k, none⟩ = some (.string ⟨((a :: l)[k]).toArray⟩) from fun k h => (hb14.cell (p := ⟨g, k, none⟩) hgl).trans (HWC.out k h))
  have HR5 := Lib.hid (show RRowAt w.heap.size Lg.zero _ from block_below hb14 HR1.out)
  have HL5 := Lib.hid (heap_alloc_new w4 (.cells #[.int .u16 (q1 : Int), .int .u16 (q2 : Int)] 25))
  have HB5 := Lib.hid (below_here HB1.out hb14)
  clear ha0 hgl hb4 hb14 HWC HR1 HB1
  go_wp2_with fail
  generalize w4.heap.size = L at HL5 ⊢
  generalize (w4.alloc (.cells #[.int .u16 (q1 : Int), .int .u16 (q2 : Int)] 25)) = w5 at HWC5 HR5 HL5 HB5 ⊢
  go_loopw [7, 8, 9, 10] (fun o i _ _ wr => ∃ (k : Nat), i = .int .i64 ((k : Int) + 1) ∧ k ≤ 8 ∧ Hid (∀ x ∈ l.take k, 0 ≤ Lg.raw x ∧ Lg.raw x ≤ 999999) ∧ Hid (wr.ownsRow w5.heap.size 3 1 o k ((l.take k).map (fun x => Value.int .i64 (Lg.raw x)))) ∧ Hid (Below w5.heap.size w5 wr)) (fun _ i _ _ _ => 9 - (intOf i).toNat)
  case atStart => exact ⟨0, rfl, by omega, Lib.hid (fun x hx => by cases hx), Lib.hid (World.ownsRow_nil _ _ _ _), Lib.hid (Below.refl _ _)⟩
  case round =>
    obtain ⟨k, rfl, hk, hA, hO, hW⟩ := hrel
    by_cases hk8 : k = 8
    · subst hk8
      have hA8 := hA.out
      rw [List.take_of_length_le (by omega)] at hA8
      have ho := hO.out
      rw [List.take_of_length_le (by omega)] at ho
      obtain ⟨G, gc, rfl, hrg⟩ := ints_own ho
      have hr := HGOOD.out hA8
      have hcan : Lg.can ((q1, q2), l.map Lg.raw) := ⟨HOKL.out, by rw [List.length_map]; exact h8, fun n hn => by
        obtain ⟨x, hx, rfl⟩ := List.mem_map.1 hn
        exact hA8 x hx⟩
      have HMA := Lib.hid (r44made_ok ((q1, q2), l.map Lg.raw) hcan.2.1 G gc wr (by rw [List.map_map]; exact hrg))
      have HLN := Lib.hid (fun w => rlgline_ok ((q1, q2), l.map Lg.raw) hcan w)
      have hLr := block_below hW.out HL5.out
      obtain ⟨c0, c1, _, _⟩ := pair_cells hLr
      have hLl := World.block_lt_of_cell? wr _ c0
      have HRr := Lib.hid (show RRowAt w.heap.size Lg.zero wr from block_below hW.out HR5.out)
      have HBr := Lib.hid (below_here HB5.out hW.out)
      have h10 : (lgC ((q1, q2), l.map Lg.raw)).length = 10 := lgC_len hcan.2.1
      have h10' : (lgC ((q1, q2), l.map Lg.raw)).toArray.size = 10 := h10
      have hl8 : (Prod.snd (((q1, q2), l.map Lg.raw) : Lg.R)).length = 8 := hcan.2.1
      unfold Lg.rfin at hr
      simp only at hr
      clear hA hO ho hrg hA8 hcan hLr
      go_wp2_with fail
      refine HMA.out.mono ?_
      rintro e w6 ⟨rfl, hb6⟩
      have hb67 := hb6.trans ((below_fresh w6 (.cells (lgC ((q1, q2), l.map Lg.raw)).toArray 48)).mono hb6.size)
      have HR7 := Lib.hid (show RRowAt w.heap.size Lg.zero _ from block_below hb67 HRr.out)
      have HX7 := Lib.hid (show RRowAt w6.heap.size ((q1, q2), l.map Lg.raw) _ from heap_alloc_new w6 (.cells (lgC ((q1, q2), l.map Lg.raw)).toArray 48))
      have HB7 := Lib.hid (below_here HBr.out hb67)
      clear c0 c1 hLl hb6 hb67 HMA
      generalize Lg.line ((q1, q2), l.map Lg.raw) = ln at HLN hr
      generalize hrr : ((q1, q2), l.map Lg.raw) = r at HLN hr HX7 HR7 HB7 h10 h10' ⊢
      have hl8' : r.2.length = 8 := by rw [← hrr]; exact hl8
      clear hrr hl8
      unfold lgV at HLN ⊢
      go_wp2_with (first
        | (refine wpList_store_new rfl 48 (.tmp 11) (.tmp 66) rfl _ (lgC r).toArray ?x1 ?x2 ?x3 ?x4 (all_oneCell_toArray (lgC_one _)) ?_; (case x1 => rfl); (case x2 => rfl); (case x3 => rw [h10']; exact info_row); (case x4 => rw [h10']; rfl))
        | (refine wpList_load_mid rfl 48 (.tmp 11) rfl w6.heap.size 0 rfl (lgC r) _ HX7.out.range Tryz.underlying48 rfl (by rw [h10]; exact info_row) ?_))
      refine (HLN.out _).mono ?_
      rintro e w8 ⟨rfl, hb8⟩
      have HR8 := Lib.hid (show RRowAt w.heap.size Lg.zero w8 from block_below hb8 HR7.out)
      have HX8 := Lib.hid (show RRowAt w6.heap.size r w8 from block_below hb8 HX7.out)
      have HB8 := Lib.hid (below_here HB7.out hb8)
      clear hb8
      by_cases he : (⟨ln.toArray⟩ : ByteArray) = s
      · have hr' : RES = some r := by rw [hr, if_pos (by rw [← he])]
        subst hr'
        have HE := Lib.hid (RRowAt.setCells (r' := r) HR8.out rfl hl8').range
        have hth := there_of_block HR8.out 0 10 (by simp [lgC, Lg.zero])
        rw [he]
        have hse : (s.toList == s.toList) = true := by simp
        clear hr he HLN
        go_wp2_with (first
          | (refine wpList_load_mid rfl 48 (.tmp 11) rfl w6.heap.size 0 rfl (lgC r) _ HX8.out.range Tryz.underlying48 rfl (by rw [h10]; exact info_row) ?_)
          | (refine wpList_store_mid rfl 48 _ _ rfl w.heap.size 0 (lgC r).toArray rfl rfl (by rw [h10']; exact hth) (by rw [h10']; exact info_row) (all_oneCell_toArray (lgC_one _)) ?_))
        exact ret_cell_tmp rfl w.heap.size 0 rfl (lgC r) _ HE.out Tryz.underlying48 rfl (by rw [h10]; exact info_row) rfl ⟨rfl, below_setCells HB8.out (Nat.le_refl _) _ _⟩
      · have hr' : RES = none := by rw [hr, if_neg (fun h => he (by rw [h]))]
        subst hr'
        have hse : ((⟨ln.toArray⟩ : ByteArray).toList == s.toList) = false := (Lib.bytes_beq_false_iff _ _).2 he
        generalize (⟨ln.toArray⟩ : ByteArray) = LN at HLN he hse ⊢
        go_wp2_with (refine wpList_store_mid rfl 48 _ _ rfl w.heap.size 0 #[.int .u16 0, .int .u16 0, .int .i64 0, .int .i64 0, .int .i64 0, .int .i64 0, .int .i64 0, .int .i64 0, .int .i64 0, .int .i64 0] rfl rfl (there_of_block HR8.out 0 10 (by simp [lgC, Lg.zero])) info_row (by simp [Value.oneCell']) ?_)
        exact ret_cell_tmp rfl w.heap.size 0 rfl (lgC Lg.zero) _ (RRowAt.setCells (r := Lg.zero) (r' := Lg.zero) HR8.out rfl rfl).range Tryz.underlying48 rfl info_row rfl ⟨rfl, below_setCells HB8.out (Nat.le_refl _) _ _⟩
    · have hkl : k < 8 := by omega
      have hki : (k : Int) + 1 < 9 := by omega
      have hkl2 : k < l.length := by omega
      obtain ⟨wo, rfl⟩ : ∃ wo : World, wo = wr := ⟨_, rfl⟩
      have hcw := HWC5.out (k + 1) (by rw [hnl]; omega)
      simp only [List.getElem_cons_succ] at hcw
      have hgl5 := World.block_lt_of_cell? w5 _ hcw
      have hcell : wo.cell? ⟨g, k + 1, none⟩ = some (.string ⟨(l[k]).toArray⟩) := (hW.out.cell (p := ⟨g, k + 1, none⟩) hgl5).trans hcw
      have hgo := World.block_lt_of_cell? wo _ hcell
      have hxs := HSZ.out l[k] (List.getElem_mem hkl2)
      have HBx := Lib.hid (HBAD.out (l[k]'hkl2) (List.getElem_mem hkl2))
      have HTK : Hid (l.take (k + 1) = l.take k ++ [l[k]]) := Lib.hid (List.take_succ_eq_append_getElem hkl2)
      obtain ⟨x, hx⟩ : ∃ x, x = l[k] := ⟨_, rfl⟩
      rw [← hx] at hcell hxs HBx HTK
      obtain ⟨X, hX⟩ : ∃ X : ByteArray, X = ⟨x.toArray⟩ := ⟨_, rfl⟩
      have hXd : X.data.toList = x := by rw [hX]
      have hXs : X.size = x.length := by rw [hX]; exact List.size_toArray
      rw [← hX] at hcell
      clear hx hX hcw hgl5 hk8
      go_wp2_with fail
      go_loopw [9, 10] (fun nv jv wr => ∃ (j : Nat) (n : Int), jv = .int .i64 (j : Int) ∧ nv = .int .i64 n ∧ j ≤ 7 ∧ j ≤ X.size ∧ Hid (n = (x.take j).foldl (fun (n : Int) c => 10 * n + (c.toNat : Int) - 48) 0) ∧ wr = wo) (fun _ i _ => 7 - (intOf i).toNat)
      case atStart => exact ⟨0, 0, rfl, rfl, by omega, by omega, Lib.hid rfl, rfl⟩
      case round =>
        obtain ⟨j, n, rfl, rfl, hj7, hjs, hn, rfl⟩ := hrel
        have hnb := Lg.raw_small x j hj7
        rw [← hn.out] at hnb
        by_cases hgoon : j < X.size ∧ j < 7
        · obtain ⟨h1, h2⟩ := hgoon
          have h1i : (j : Int) < (X.size : Int) := by omega
          have h2i : (j : Int) < 7 := by omega
          have hx0 := index_string X (j : Int) j rfl h1
          rw [hXd] at hx0
          have hstep := Lg.raw_take x j (by omega)
          rw [← hn.out] at hstep
          have hcn := UInt8.toNat_lt (x.getD j 0)
          generalize (x.getD j 0).toNat = cn at hx0 hstep hcn
          have HST := Lib.hid hstep.symm
          have hw1 : IntKind.i64.wrap (10 * n) = 10 * n := IntWalk.i64_in _ (by omega)
          have hw2 : IntKind.i64.wrap (10 * n + (cn : Int)) = 10 * n + (cn : Int) := IntWalk.i64_in _ (by omega)
          have hw3 : IntKind.i64.wrap (10 * n + (cn : Int) - 48) = 10 * n + (cn : Int) - 48 := IntWalk.i64_in _ (by omega)
          have hw4 : IntKind.i64.wrap (cn : Int) = (cn : Int) := IntWalk.i64_in _ (by omega)
          clear hstep hn
          go_wp2_with fail
          go_roundw
          case rel => exact ⟨j + 1, _, by go_num, rfl, by omega, by omega, HST, by first | rfl | trivial⟩
          case measure => simp [intOf]; omega
        · have hraw : n = Lg.raw x := by
            rw [hn.out]
            unfold Lg.raw
            by_cases h7 : j = 7
            · rw [h7]
            · rw [List.take_of_length_le (by omega), List.take_of_length_le (by omega)]
          have HRW := Lib.hid hraw
          have HEX : (¬ (j : Int) < (X.size : Int)) ∨ ((j : Int) < (X.size : Int) ∧ ¬ (j : Int) < 7) := by
            by_cases h : j < X.size
            · exact .inr ⟨by omega, by omega⟩
            · exact .inl (by omega)
          clear hgoon hn hraw
          by_cases hn0 : n < 0
          · have hr : RES = none := HBx.out (by have := HRW.out; omega)
            subst hr
            have HR8 := Lib.hid (show RRowAt w.heap.size Lg.zero wr from block_below hW.out HR5.out)
            have HB8 := Lib.hid (below_here HB5.out hW.out)
            rcases HEX with e1 | ⟨e1, e2⟩
            · go_wp2_with (refine wpList_store_mid rfl 48 _ _ rfl w.heap.size 0 #[.int .u16 0, .int .u16 0, .int .i64 0, .int .i64 0, .int .i64 0, .int .i64 0, .int .i64 0, .int .i64 0, .int .i64 0, .int .i64 0] rfl rfl (there_of_block HR8.out 0 10 (by simp [lgC, Lg.zero])) info_row (by simp [Value.oneCell']) ?_)
              exact ret_cell_tmp rfl w.heap.size 0 rfl (lgC Lg.zero) _ (RRowAt.setCells (r := Lg.zero) (r' := Lg.zero) HR8.out rfl rfl).range Tryz.underlying48 rfl info_row rfl ⟨rfl, below_setCells HB8.out (Nat.le_refl _) _ _⟩
            · go_wp2_with (refine wpList_store_mid rfl 48 _ _ rfl w.heap.size 0 #[.int .u16 0, .int .u16 0, .int .i64 0, .int .i64 0, .int .i64 0, .int .i64 0, .int .i64 0, .int .i64 0, .int .i64 0, .int .i64 0] rfl rfl (there_of_block HR8.out 0 10 (by simp [lgC, Lg.zero])) info_row (by simp [Value.oneCell']) ?_)
              exact ret_cell_tmp rfl w.heap.size 0 rfl (lgC Lg.zero) _ (RRowAt.setCells (r := Lg.zero) (r' := Lg.zero) HR8.out rfl rfl).range Tryz.underlying48 rfl info_row rfl ⟨rfl, below_setCells HB8.out (Nat.le_refl _) _ _⟩
          · by_cases hn1 : 999999 < n
            · have hr : RES = none := HBx.out (by have := HRW.out; omega)
              subst hr
              have HR8 := Lib.hid (show RRowAt w.heap.size Lg.zero wr from block_below hW.out HR5.out)
              have HB8 := Lib.hid (below_here HB5.out hW.out)
              rcases HEX with e1 | ⟨e1, e2⟩
              · go_wp2_with (refine wpList_store_mid rfl 48 _ _ rfl w.heap.size 0 #[.int .u16 0, .int .u16 0, .int .i64 0, .int .i64 0, .int .i64 0, .int .i64 0, .int .i64 0, .int .i64 0, .int .i64 0, .int .i64 0] rfl rfl (there_of_block HR8.out 0 10 (by simp [lgC, Lg.zero])) info_row (by simp [Value.oneCell']) ?_)
                exact ret_cell_tmp rfl w.heap.size 0 rfl (lgC Lg.zero) _ (RRowAt.setCells (r := Lg.zero) (r' := Lg.zero) HR8.out rfl rfl).range Tryz.underlying48 rfl info_row rfl ⟨rfl, below_setCells HB8.out (Nat.le_refl _) _ _⟩
              · go_wp2_with (refine wpList_store_mid rfl 48 _ _ rfl w.heap.size 0 #[.int .u16 0, .int .u16 0, .int .i64 0, .int .i64 0, .int .i64 0, .int .i64 0, .int .i64 0, .int .i64 0, .int .i64 0, .int .i64 0] rfl rfl (there_of_block HR8.out 0 10 (by simp [lgC, Lg.zero])) info_row (by simp [Value.oneCell']) ?_)
                exact ret_cell_tmp rfl w.heap.size 0 rfl (lgC Lg.zero) _ (RRowAt.setCells (r := Lg.zero) (r' := Lg.zero) HR8.out rfl rfl).range Tryz.underlying48 rfl info_row rfl ⟨rfl, below_setCells HB8.out (Nat.le_refl _) _ _⟩
            · have HA' : Hid (∀ y ∈ l.take (k + 1), 0 ≤ Lg.raw y ∧ Lg.raw y ≤ 999999) := Lib.hid (fun y hy => by
                rw [HTK.out] at hy
                rcases List.mem_append.1 hy with h | h
                · exact hA.out y h
                · obtain rfl : y = x := by simpa using h
                  have := HRW.out
                  omega)
              have HM' : Hid ((l.take (k + 1)).map (fun x => Value.int .i64 (Lg.raw x)) = (l.take k).map (fun x => Value.int .i64 (Lg.raw x)) ++ [.int .i64 n]) := Lib.hid (by rw [HTK.out, List.map_append, List.map_singleton, HRW.out])
              have HO9 := Lib.hid (own_below hO.out (below_fresh wr (.cells #[.int .i64 n] 3)))
              have hbz := hW.out.size
              generalize (l.take k).map (fun x => Value.int .i64 (Lg.raw x)) = cs at HO9 HM'
              obtain ⟨A, c, hfo⟩ : ∃ A c, u7 = Value.slice A k c := by
                rcases hO.out.2 with ⟨h1, h⟩ | ⟨g', cap', cur, h1, _⟩
                · exact ⟨none, 0, by rw [h1, h]⟩
                · exact ⟨_, _, h1⟩
              subst hfo
              rcases HEX with e1 | ⟨e1, e2⟩
              · go_wp2_with (at_builtin; refine wpList_append_own _ rfl (.tmp 60) (.tmp 62) 58 rfl w5.heap.size 3 i0 _ 1 8 Tryz.underlying58 HI.out HZ0.out HZ1.out HZ2.out rfl (by decide) (.slice A k c) k cs (by simp [Act.eval, Act.put]) HO9.out ⟨wr.heap.size, 0, none⟩ 1 1 [.int .i64 n] (by simp [Act.eval, Act.put]) rfl (news_block (heap_alloc_new wr _)) (by simp [Value.oneCell']) (by unfold maxLen; omega) (by omega) (by simp; omega) ?_; intro v' w7 hown' hgrow _; have HOW := Lib.hid hown'; have HG := Lib.hid hgrow; clear hown' hgrow)
                have hb7 : Below w5.heap.size w5 w7 := (below_new hW.out (.cells #[.int .i64 n] 3)).grown HG.out (by simp; omega) (fun k h => (HO9.out.lt k h).1)
                have HB7 := Lib.hid hb7
                clear hb7
                go_wp2_with fail
                go_roundw
                case rel => exact ⟨k + 1, by go_num, by omega, HA', by rw [HM'.out]; exact HOW, HB7⟩
                case measure => simp [intOf]; omega
              · go_wp2_with (at_builtin; refine wpList_append_own _ rfl (.tmp 60) (.tmp 62) 58 rfl w5.heap.size 3 i0 _ 1 8 Tryz.underlying58 HI.out HZ0.out HZ1.out HZ2.out rfl (by decide) (.slice A k c) k cs (by simp [Act.eval, Act.put]) HO9.out ⟨wr.heap.size, 0, none⟩ 1 1 [.int .i64 n] (by simp [Act.eval, Act.put]) rfl (news_block (heap_alloc_new wr _)) (by simp [Value.oneCell']) (by unfold maxLen; omega) (by omega) (by simp; omega) ?_; intro v' w7 hown' hgrow _; have HOW := Lib.hid hown'; have HG := Lib.hid hgrow; clear hown' hgrow)
                have hb7 : Below w5.heap.size w5 w7 := (below_new hW.out (.cells #[.int .i64 n] 3)).grown HG.out (by simp; omega) (fun k h => (HO9.out.lt k h).1)
                have HB7 := Lib.hid hb7
                clear hb7
                go_wp2_with fail
                go_roundw
                case rel => exact ⟨k + 1, by go_num, by omega, HA', by rw [HM'.out]; exact HOW, HB7⟩
                case measure => simp [intOf]; omega
/-- R44.Parse. -/
theorem rlgparse_ok (s : ByteArray) (hs : s.size ≤ 1000) (w : World) :
    Calls Tryz.prog 25 #[.string s] w fun e w' => e = .returned (rlgRes (Lg.rparse s.data.toList)) ∧ Below w.heap.size w w' := by
  unfold Lg.rparse
  by_cases hn : (Tr.wordsL s.data.toList).length = 9
  · obtain ⟨a, l, hw⟩ := Tr.wordsL_ne s.data.toList
    have h8 : l.length = 8 := by rw [hw] at hn; simpa using hn
    rw [hw]
    exact rlgparse_nine s hs a l hw h8 w
  · have h0 : Lg.rcand (Tr.wordsL s.data.toList) = none := by
      obtain ⟨a, l, hw⟩ := Tr.wordsL_ne s.data.toList
      rw [hw] at hn ⊢
      exact if_neg (fun h => hn (by rw [List.length_cons, h.1]))
    rw [h0]
    exact rlgparse_no s hs hn w
end Go.Proofs.YtlmacaenbililaaGreatDoor
namespace Go.Proofs.YtlmacaenbililaaGreatDoor
open Go.RowKit Go.Shelf
set_option linter.unusedSimpArgs false
set_option linter.unusedVariables false
attribute [local go_sem] cell_over frozen_over

theorem rtparse_v (s : ByteArray) (hs : s.size ≤ 1000) (w : World) : Calls Tryz.prog 125 #[.string s] w fun e w' => (∃ b : Bool, e = .returned (.tuple #[.int .u16 ((Mt.set s.data.toList).1 : Int), .bool b])) ∧ w' = w := by
  refine (rparse_ok s hs w).mono ?_
  rintro e w' ⟨rfl, hb⟩
  refine ⟨?_, hb⟩
  unfold Mt.set
  cases Tag.rparse s.data.toList with
  | none => exact ⟨false, rfl⟩
  | some a => exact ⟨true, rfl⟩
def rmtRes (o : Option Mt.R) : Value := match o with
  | some r => .tuple #[mtV r, .bool true]
  | none => .tuple #[mtV Mt.zero, .bool false]
def QRowAt (b : Nat) (r : Mt.R) (W : World) : Prop := W.heap[b]? = some (.cells (mtC r).toArray 86 (0, 0))
theorem QRowAt.range {b : Nat} {r : Mt.R} {w : World} (h : QRowAt b r w) : w.rangeAt b 0 (mtC r) := range_of_block h 0 _ (fun j _ => by rw [Nat.zero_add])
theorem QRowAt.there {b : Nat} {r : Mt.R} {w : World} (h : QRowAt b r w) : w.there b 0 7 := there_of_block h 0 7 (by simp [mtC])
theorem QRowAt.setCells {b : Nat} {r r' : Mt.R} {w : World} (h : QRowAt b r w) : QRowAt b r' (w.setCells b 0 (mtC r')) := by
  have := heap_setCells_same b 86 (mtC r') 0 w (mtC r) h (by simp [mtC])
  unfold QRowAt
  rw [this]
  rfl
set_option maxRecDepth 100000 in
set_option maxHeartbeats 4000000 in
theorem rmtparse_no (s : ByteArray) (hs : s.size ≤ 1000) (hn : (Tr.wordsL s.data.toList).length ≠ 6) (w : World) :
    Calls Tryz.prog 54 #[.string s] w fun e w' => e = .returned (rmtRes none) ∧ Below w.heap.size w w' := by
  have HR := Lib.hid (heap_alloc_new w (.cells (mtC Mt.zero).toArray 86))
  have HB0 := Lib.hid (below_fresh w (.cells (mtC Mt.zero).toArray 86))
  have HS := Lib.hid (rsplit_ok s hs (w.alloc (.cells (mtC Mt.zero).toArray 86)))
  have hn' : ¬ ((Tr.wordsL s.data.toList).length : Int) = 6 := by omega
  go_enter Tryz.func54, Tryz.ntmps54
  go_wp2_with fail
  refine HS.out.mono ?_
  rintro e w1 ⟨v, rfl, hv, hb1⟩
  obtain ⟨A, c, rfl⟩ : ∃ A c, v = .slice A (Tr.wordsL s.data.toList).length c := by
    rcases hv.2 with ⟨rfl, h⟩ | ⟨g, cap, cur, rfl, _⟩
    · exact ⟨none, 0, by rw [h]⟩
    · exact ⟨_, _, rfl⟩
  have HR1 := Lib.hid (show QRowAt w.heap.size Mt.zero w1 from block_below hb1 HR.out)
  have HB1 := Lib.hid (below_here HB0.out hb1)
  clear hv hb1
  generalize (Tr.wordsL s.data.toList).length = nw at hn'
  go_wp2_with (refine wpList_store_mid rfl 86 _ _ rfl w.heap.size 0 (mtC Mt.zero).toArray rfl rfl HR1.out.there info_rmrow (all_oneCell_toArray (mtC_one _)) ?_)
  exact ret_cell_tmp rfl w.heap.size 0 rfl (mtC Mt.zero) _ (QRowAt.setCells (r := Mt.zero) (r' := Mt.zero) HR1.out).range Tryz.underlying86 rfl info_rmrow rfl ⟨rfl, below_setCells HB1.out (Nat.le_refl _) _ _⟩
theorem Mt.rseek_first {s b c d e f : List UInt8} {k : Nat} (hn : Mt.rseek s b c d e f k = none) (hl : Mt.line (Mt.rrow k b c d e f) = s) : ∀ n, k < n → Mt.rseek s b c d e f n = some (Mt.rrow k b c d e f)
  | 0, h => absurd h (Nat.not_lt_zero _)
  | n + 1, h => by
    unfold Mt.rseek
    by_cases e : k = n
    · subst e
      rw [hn]
      simp only
      rw [if_pos hl]
    · rw [Mt.rseek_first hn hl n (by omega)]
theorem frozen_of_block {W : World} {b : Nat} {cs : Array Value} {t : TypeId} (h : W.heap[b]? = some (.cells cs t (0, 0))) (j : Nat) : W.frozen? ⟨b, j, none⟩ = false := by
  simp [World.frozen?, h]
theorem rmrow_build (n : Int) (W : World) : (Instr.build 86 #[(0, .int .i64 n)]).run Tryz.prog W = .ok (.agg #[.int .i64 n, .int .u16 0, .int .u16 0, .int .u16 0, .int .u16 0, .int .u16 0, .int .u16 0]) W := by kernel_rfl
set_option maxRecDepth 100000 in
set_option maxHeartbeats 8000000 in
theorem rmtparse_six (s : ByteArray) (hs : s.size ≤ 1000) (a b c d e f : List UInt8) (hw : Tr.wordsL s.data.toList = [a, b, c, d, e, f]) (w : World) :
    Calls Tryz.prog 54 #[.string s] w fun e' w' => e' = .returned (rmtRes (Mt.rseek s.data.toList b c d e f 16)) ∧ Below w.heap.size w w' := by
  have hsz : ∀ x ∈ [a, b, c, d, e, f], x.length ≤ 1000 := by
    rw [← hw]
    intro x hx
    have hl : s.data.toList.length = s.size := by rw [Array.length_toList]; rfl
    have := Tr.fold_size s.data.toList [[]] 0 (by simp) x (by rw [Tr.fold_words0]; exact hx)
    omega
  have HR := Lib.hid (heap_alloc_new w (.cells (mtC Mt.zero).toArray 86))
  have HB0 := Lib.hid (below_fresh w (.cells (mtC Mt.zero).toArray 86))
  have HS := Lib.hid (rsplit_ok s hs (w.alloc (.cells (mtC Mt.zero).toArray 86)))
  rw [hw] at HS
  have hbz : ∀ x ∈ [a, b, c, d, e, f], (⟨x.toArray⟩ : ByteArray).size ≤ 1000 := fun x hx => by show x.toArray.size ≤ 1000; rw [List.size_toArray]; exact hsz x hx
  have HLB := Lib.hid (fun w => rlparse_v ⟨b.toArray⟩ (hbz b (by simp)) w)
  have HTC := Lib.hid (fun w => rtparse_v ⟨c.toArray⟩ (hbz c (by simp)) w)
  have HTD := Lib.hid (fun w => rtparse_v ⟨d.toArray⟩ (hbz d (by simp)) w)
  have HTE := Lib.hid (fun w => rtparse_v ⟨e.toArray⟩ (hbz e (by simp)) w)
  have HTF := Lib.hid (fun w => rtparse_v ⟨f.toArray⟩ (hbz f (by simp)) w)
  rw [show (⟨b.toArray⟩ : ByteArray).data.toList = b by simp] at HLB
  rw [show (⟨c.toArray⟩ : ByteArray).data.toList = c by simp] at HTC
  rw [show (⟨d.toArray⟩ : ByteArray).data.toList = d by simp] at HTD
  rw [show (⟨e.toArray⟩ : ByteArray).data.toList = e by simp] at HTE
  rw [show (⟨f.toArray⟩ : ByteArray).data.toList = f by simp] at HTF
  obtain ⟨RES, hRES⟩ : ∃ RES, RES = Mt.rseek s.data.toList b c d e f 16 := ⟨_, rfl⟩
  rw [← hRES]
  have HRES := Lib.hid hRES
  have HLN := Lib.hid (fun (k : Nat) (hk : k < 16) w => rmtline_ok (Mt.rrow k b c d e f) (Mt.rrow_can hk b c d e f) w)
  have HRW : Hid (∀ k : Nat, Mt.rrow k b c d e f = ((k : Int), (Lab.parse b).1, (Mt.set c).1, (Mt.set d).1, (Mt.set e).1, (Mt.set f).1)) := Lib.hid (fun k => rfl)
  generalize (Lab.parse b).1 = q at HLB HRW
  obtain ⟨q1, q2⟩ := q
  generalize (Mt.set c).1 = sc at HTC HRW
  generalize (Mt.set d).1 = sd at HTD HRW
  generalize (Mt.set e).1 = se at HTE HRW
  generalize (Mt.set f).1 = sf at HTF HRW
  clear hRES hsz hw hbz
  go_enter Tryz.func54, Tryz.ntmps54
  go_wp2_with fail
  refine HS.out.mono ?_
  rintro e' w1 ⟨v, rfl, hv, hb1⟩
  obtain ⟨g, cap, rfl⟩ := ownsRow_succ hv
  have HWC := Lib.hid (show ∀ k (h : k < [a, b, c, d, e, f].length), w1.cell? ⟨g, k, none⟩ = some (.string ⟨([a, b, c, d, e, f][k]).toArray⟩) from fun k h => (own_cell hv k _ (by rw [strs, List.getElem?_map, List.getElem?_eq_getElem h]; rfl)).1)
  have HR1 := Lib.hid (show QRowAt w.heap.size Mt.zero w1 from block_below hb1 HR.out)
  have HB1 := Lib.hid (below_here HB0.out hb1)
  have hg1 := World.block_lt_of_cell? w1 _ (HWC.out 0 (by simp))
  clear hv hb1
  go_wp2_with fail
  go_loopw [5] (fun i wr => ∃ k : Nat, i = .int .i64 (k : Int) ∧ k ≤ 16 ∧ Hid (Mt.rseek s.data.toList b c d e f k = none) ∧ Hid (Below w1.heap.size w1 wr)) (fun i _ => 16 - (intOf i).toNat)
  case atStart => exact ⟨0, rfl, by omega, Lib.hid rfl, Lib.hid (Below.refl _ _)⟩
  case round =>
    obtain ⟨k, rfl, hk, hN, hW⟩ := hrel
    have HRr := Lib.hid (show QRowAt w.heap.size Mt.zero wr from block_below hW.out HR1.out)
    have HBr := Lib.hid (below_here HB1.out hW.out)
    by_cases hk16 : k = 16
    · subst hk16
      have hr : RES = none := by rw [HRES.out, hN.out]
      subst hr
      go_wp2_with (refine wpList_store_mid rfl 86 _ _ rfl w.heap.size 0 (mtC Mt.zero).toArray rfl rfl HRr.out.there info_rmrow (all_oneCell_toArray (mtC_one _)) ?_)
      exact ret_cell_tmp rfl w.heap.size 0 rfl (mtC Mt.zero) _ (QRowAt.setCells (r := Mt.zero) (r' := Mt.zero) HRr.out).range Tryz.underlying86 rfl info_rmrow rfl ⟨rfl, below_setCells HBr.out (Nat.le_refl _) _ _⟩
    · have hkl : k < 16 := by omega
      have hki : (k : Int) < 16 := by omega
      have hbd := rmrow_build (k : Int)
      clear hk16
      have HBX := Lib.hid (below_fresh wr (.cells #[.int .i64 (k : Int), .int .u16 0, .int .u16 0, .int .u16 0, .int .u16 0, .int .u16 0, .int .u16 0] 86))
      have HXX := Lib.hid (heap_alloc_new wr (.cells #[.int .i64 (k : Int), .int .u16 0, .int .u16 0, .int .u16 0, .int .u16 0, .int .u16 0, .int .u16 0] 86))
      have HWX := Lib.hid (show ∀ j (h : j < [a, b, c, d, e, f].length), (wr.alloc (.cells #[.int .i64 (k : Int), .int .u16 0, .int .u16 0, .int .u16 0, .int .u16 0, .int .u16 0, .int .u16 0] 86)).cell? ⟨g, j, none⟩ = some (.string ⟨([a, b, c, d, e, f][j]).toArray⟩) from fun j h => (HBX.out.cell (p := ⟨g, j, none⟩) (Nat.lt_of_lt_of_le hg1 hW.out.size)).trans ((hW.out.cell (p := ⟨g, j, none⟩) hg1).trans (HWC.out j h)))
      have cb := HWX.out 1 (by simp)
      simp only [List.getElem_cons_succ, List.getElem_cons_zero] at cb
      have hgX := World.block_lt_of_cell? _ _ cb
      go_wp2_with (first
        | (refine wpList_build rfl 86 _ rfl #[(0, .int .i64 (k : Int))] ?b1 (hbd _) ?_; (case b1 => simp [Act.eval, Act.put]))
        | (refine wpList_store_new rfl 86 (.tmp 6) (.tmp 28) rfl _ #[.int .i64 (k : Int), .int .u16 0, .int .u16 0, .int .u16 0, .int .u16 0, .int .u16 0, .int .u16 0] ?x1 ?x2 info_rmrow rfl (by simp [Value.oneCell']) ?_; (case x1 => first | rfl | (rw [World.size_alloc]; rfl)); (case x2 => rfl)))
      refine (HLB.out _).mono ?_
      rintro e' w4 ⟨⟨bq, rfl⟩, hb4⟩
      have hb5 := hb4.trans ((below_fresh w4 (.cells #[.int .u16 (q1 : Int), .int .u16 (q2 : Int)] 25)).mono hb4.size)
      have hX5 := block_below hb5 HXX.out
      have HL5 := Lib.hid (heap_alloc_new w4 (.cells #[.int .u16 (q1 : Int), .int .u16 (q2 : Int)] 25))
      have HW5 := Lib.hid (show ∀ j (h : j < [a, b, c, d, e, f].length), (w4.alloc (.cells #[.int .u16 (q1 : Int), .int .u16 (q2 : Int)] 25)).cell? ⟨g, j, none⟩ = some (.string ⟨([a, b, c, d, e, f][j]).toArray⟩) from fun j h => (hb5.cell (p := ⟨g, j, none⟩) hgX).trans (HWX.out j h))
      have HB5 := Lib.hid (below_here hW.out (below_here HBX.out hb5))
      have HR5 := Lib.hid (show QRowAt w.heap.size Mt.zero (w4.alloc (.cells #[.int .u16 (q1 : Int), .int .u16 (q2 : Int)] 25)) from block_below hb5 (block_below HBX.out HRr.out))
      have HX5 := Lib.hid hX5
      have hXne : wr.heap.size ≠ w4.heap.size := fun h => by
        have := hb4.size
        rw [World.size_alloc] at this
        omega
      have HXN := Lib.hid (show w1.heap.size ≤ wr.heap.size ∧ w.heap.size < wr.heap.size ∧ wr.heap.size < w4.heap.size from ⟨hW.out.size, (Array.getElem?_eq_some_iff.1 HRr.out).1, by have := hb4.size; rw [World.size_alloc] at this; omega⟩)
      clear cb hgX hb4 hb5 hX5 HWX hbd hXne
      generalize hw5 : w4.alloc (.cells #[.int .u16 (q1 : Int), .int .u16 (q2 : Int)] 25) = w5 at HL5 HW5 HB5 HR5 HX5
      have cc := HW5.out 2 (by simp)
      have cd := HW5.out 3 (by simp)
      have ce := HW5.out 4 (by simp)
      have cf := HW5.out 5 (by simp)
      simp only [List.getElem_cons_succ, List.getElem_cons_zero] at cc cd ce cf
      have hg5 := World.block_lt_of_cell? _ _ cc
      go_wp2_with fail
      clear hw5
      generalize w4.heap.size = LX at HL5 HXN ⊢
      generalize wr.heap.size = X at HX5 HXN ⊢
      obtain ⟨⟨x0, x1, x2, x3, x4, x5, x6⟩, xl⟩ := seven_of HX5.out
      have hz1 := frozen_of_block HX5.out 1
      have hz2 := frozen_of_block HX5.out 2
      have hz3 := frozen_of_block HX5.out 3
      have hz4 := frozen_of_block HX5.out 4
      have hz5 := frozen_of_block HX5.out 5
      have hz6 := frozen_of_block HX5.out 6
      obtain ⟨m1, m2, m3, m4⟩ := pair_cells HL5.out
      have ml := World.block_lt_of_cell? _ _ m1
      refine (HTC.out _).mono ?_
      rintro e' w' ⟨⟨b1, rfl⟩, hw'⟩
      obtain rfl := hw'.symm
      go_wp2_with fail
      refine (HTD.out _).mono ?_
      rintro e' w' ⟨⟨b2, rfl⟩, hw'⟩
      obtain rfl := hw'.symm
      go_wp2_with fail
      refine (HTE.out _).mono ?_
      rintro e' w' ⟨⟨b3, rfl⟩, hw'⟩
      obtain rfl := hw'.symm
      go_wp2_with fail
      refine (HTF.out _).mono ?_
      rintro e' w' ⟨⟨b4, rfl⟩, hw'⟩
      obtain rfl := hw'.symm
      go_wp2_with fail
      have HX6 := Lib.hid (show QRowAt X ((k : Int), (q1, q2), sc, sd, se, sf) ((((((w5.setCell ⟨X, 1, none⟩ (.int .u16 (q1 : Int))).setCell ⟨X, 2, none⟩ (.int .u16 (q2 : Int))).setCell ⟨X, 3, none⟩ (.int .u16 (sc : Int))).setCell ⟨X, 4, none⟩ (.int .u16 (sd : Int))).setCell ⟨X, 5, none⟩ (.int .u16 (se : Int))).setCell ⟨X, 6, none⟩ (.int .u16 (sf : Int))) from by
        have h := HX5.out
        unfold QRowAt
        simp [World.setCell, Array.getElem?_modify, h, mtC])
      have HR6 := Lib.hid (show QRowAt w.heap.size Mt.zero ((((((w5.setCell ⟨X, 1, none⟩ (.int .u16 (q1 : Int))).setCell ⟨X, 2, none⟩ (.int .u16 (q2 : Int))).setCell ⟨X, 3, none⟩ (.int .u16 (sc : Int))).setCell ⟨X, 4, none⟩ (.int .u16 (sd : Int))).setCell ⟨X, 5, none⟩ (.int .u16 (se : Int))).setCell ⟨X, 6, none⟩ (.int .u16 (sf : Int))) from by
        have h := HR5.out
        have hne : ¬ X = w.heap.size := by have := HXN.out; omega
        unfold QRowAt at h ⊢
        simp [World.setCell, Array.getElem?_modify, h, hne])
      have HB6 := Lib.hid (show Below w1.heap.size w1 ((((((w5.setCell ⟨X, 1, none⟩ (.int .u16 (q1 : Int))).setCell ⟨X, 2, none⟩ (.int .u16 (q2 : Int))).setCell ⟨X, 3, none⟩ (.int .u16 (sc : Int))).setCell ⟨X, 4, none⟩ (.int .u16 (sd : Int))).setCell ⟨X, 5, none⟩ (.int .u16 (se : Int))).setCell ⟨X, 6, none⟩ (.int .u16 (sf : Int))) from (((((HB5.out.setCell (p := ⟨X, 1, none⟩) HXN.out.1 _).setCell (p := ⟨X, 2, none⟩) HXN.out.1 _).setCell (p := ⟨X, 3, none⟩) HXN.out.1 _).setCell (p := ⟨X, 4, none⟩) HXN.out.1 _).setCell (p := ⟨X, 5, none⟩) HXN.out.1 _).setCell (p := ⟨X, 6, none⟩) HXN.out.1 _)
      have HLk := Lib.hid (HLN.out k hkl)
      rw [HRW.out k] at HLk
      have hseek : Mt.line ((k : Int), (q1, q2), sc, sd, se, sf) = s.data.toList → RES = some ((k : Int), (q1, q2), sc, sd, se, sf) := fun h => by
        rw [HRES.out, Mt.rseek_first hN.out (by rw [HRW.out k]; exact h) 16 hkl, HRW.out k]
      have hnext : Mt.line ((k : Int), (q1, q2), sc, sd, se, sf) ≠ s.data.toList → Mt.rseek s.data.toList b c d e f (k + 1) = none := fun h => by
        unfold Mt.rseek
        rw [hN.out]
        simp only
        rw [HRW.out k, if_neg h]
      have HSK := Lib.hid hseek
      have HNX := Lib.hid hnext
      generalize ((((((w5.setCell ⟨X, 1, none⟩ (.int .u16 (q1 : Int))).setCell ⟨X, 2, none⟩ (.int .u16 (q2 : Int))).setCell ⟨X, 3, none⟩ (.int .u16 (sc : Int))).setCell ⟨X, 4, none⟩ (.int .u16 (sd : Int))).setCell ⟨X, 5, none⟩ (.int .u16 (se : Int))).setCell ⟨X, 6, none⟩ (.int .u16 (sf : Int))) = w6 at HX6 HR6 HB6 ⊢
      generalize Mt.line ((k : Int), (q1, q2), sc, sd, se, sf) = ln at HLk HSK HNX
      clear hseek hnext x0 x1 x2 x3 x4 x5 x6 xl hz1 hz2 hz3 hz4 hz5 hz6 m1 m2 m3 m4 ml cc cd ce cf hg5
      refine (HLk.out _).mono ?_
      rintro e' w8 ⟨rfl, hb8⟩
      have HX8 := Lib.hid (show QRowAt X ((k : Int), (q1, q2), sc, sd, se, sf) w8 from block_below hb8 HX6.out)
      have HR8 := Lib.hid (show QRowAt w.heap.size Mt.zero w8 from block_below hb8 HR6.out)
      have HB8 := Lib.hid (below_here HB6.out hb8)
      have HBW := Lib.hid (below_here HB1.out HB8.out)
      clear hb8
      by_cases he : (⟨ln.toArray⟩ : ByteArray) = s
      · have hr' : RES = some ((k : Int), (q1, q2), sc, sd, se, sf) := HSK.out (by rw [← he])
        subst hr'
        rw [he]
        have hse : (s.toList == s.toList) = true := by simp
        clear he HLk HSK HNX
        go_wp2_with (first
          | (refine wpList_load_mid rfl 86 (.tmp 6) rfl X 0 rfl (mtC ((k : Int), (q1, q2), sc, sd, se, sf)) _ HX8.out.range Tryz.underlying86 rfl info_rmrow ?_)
          | (refine wpList_store_mid rfl 86 _ _ rfl w.heap.size 0 (mtC ((k : Int), (q1, q2), sc, sd, se, sf)).toArray rfl rfl HR8.out.there info_rmrow (all_oneCell_toArray (mtC_one _)) ?_))
        exact ret_cell_tmp rfl w.heap.size 0 rfl (mtC ((k : Int), (q1, q2), sc, sd, se, sf)) _ (QRowAt.setCells (r := Mt.zero) (r' := ((k : Int), (q1, q2), sc, sd, se, sf)) HR8.out).range Tryz.underlying86 rfl info_rmrow rfl ⟨rfl, below_setCells HBW.out (Nat.le_refl _) _ _⟩
      · have hN2 := Lib.hid (HNX.out (fun h => he (by rw [h])))
        have hse : ((⟨ln.toArray⟩ : ByteArray).toList == s.toList) = false := (Lib.bytes_beq_false_iff _ _).2 he
        generalize (⟨ln.toArray⟩ : ByteArray) = LN at HLk he hse ⊢
        clear HSK HNX
        go_wp2_with fail
        go_roundw
        case rel => exact ⟨k + 1, by go_num, by omega, hN2, HB8⟩
        case measure => simp [intOf]; omega
/-- R47.Parse. -/
theorem rmtparse_ok (s : ByteArray) (hs : s.size ≤ 1000) (w : World) :
    Calls Tryz.prog 54 #[.string s] w fun e w' => e = .returned (rmtRes (Mt.rparse s.data.toList)) ∧ Below w.heap.size w w' := by
  unfold Mt.rparse
  by_cases hn : (Tr.wordsL s.data.toList).length = 6
  · match hw : Tr.wordsL s.data.toList, hn with
    | [a, b, c, d, e, f], _ => exact rmtparse_six s hs a b c d e f hw w
  · match hw : Tr.wordsL s.data.toList with
    | [] => exact rmtparse_no s hs hn w
    | [_] => exact rmtparse_no s hs hn w
    | [_, _] => exact rmtparse_no s hs hn w
    | [_, _, _] => exact rmtparse_no s hs hn w
    | [_, _, _, _] => exact rmtparse_no s hs hn w
    | [_, _, _, _, _] => exact rmtparse_no s hs hn w
    | [_, _, _, _, _, _] => exact absurd (by rw [hw]; rfl) hn
    | _ :: _ :: _ :: _ :: _ :: _ :: _ :: _ => exact rmtparse_no s hs hn w
end Go.Proofs.YtlmacaenbililaaGreatDoor
