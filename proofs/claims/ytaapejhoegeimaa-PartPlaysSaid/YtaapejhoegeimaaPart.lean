/- Contracts of package part (New, Birth, at, Put, Set, Drop, Get) over a part that is told as a function from lanes to objects. No conditions. -/
import Derived.Test.YtaapejhoegeimaaBase
namespace Go.Proofs.Ytaapejhoegeimaa
open Go.RowKit
attribute [local go_sem] cell_over frozen_over

/-- The cells of an object that is nothing. -/
def zobj : List Value := [.int .u16 0, .int .u16 0, .int .i64 0, .int .i64 0, .int .u16 0, .int .u16 0, .int .i64 0, .bool false, .int .u16 0, .int .u16 0, .int .i64 0, .string ⟨#[]⟩, .bool false, .int .i64 0, .slice none 0 0, .slice none 0 0, .slice none 0 0]
/-- What lies in a place. -/
def encP : Option (List Value) → List Value
  | none => zobj ++ [.bool false]
  | some o => o ++ [.bool true]
/-- A part's cells. -/
def partCells (S I : Int) (st : Nat → Option (List Value)) : List Value := [.int .u16 S, .int .u16 I] ++ (List.range 12).flatMap fun k => encP (st k)
def PartWf (st : Nat → Option (List Value)) : Prop := ∀ k o, st k = some o → o.length = 17 ∧ ∀ v ∈ o, v.oneCell' = true
/-- Block p holds a part. -/
def PartIs (w : World) (p : Nat) (S I : Int) (st : Nat → Option (List Value)) : Prop := w.heap[p]? = some (.cells (partCells S I st).toArray 86 (0, 0)) ∧ PartWf st
def upd (st : Nat → Option (List Value)) (k : Nat) (o : Option (List Value)) : Nat → Option (List Value) := fun j => if j = k then o else st j

theorem encP_len {st : Nat → Option (List Value)} (h : PartWf st) (k : Nat) : (encP (st k)).length = 18 := by
  cases e : st k with
  | none => rfl
  | some o => simp [encP, (h k o e).1]
theorem flat_len (f : Nat → List Value) (n : Nat) (h : ∀ k, (f k).length = 18) : ∀ m, ((List.range' n m).flatMap f).length = 18 * m := by
  intro m
  induction m generalizing n with
  | zero => rfl
  | succ m ih => rw [List.range'_succ, List.flatMap_cons, List.length_append, h, ih]; omega
theorem partCells_len {S I : Int} {st : Nat → Option (List Value)} (h : PartWf st) : (partCells S I st).length = 218 := by
  unfold partCells
  rw [List.length_append, List.range_eq_range', flat_len _ 0 (encP_len h) 12]; rfl
theorem flat_at (f : Nat → List Value) (h : ∀ k, (f k).length = 18) : ∀ (m n k j : Nat), k < m → j < 18 → ((List.range' n m).flatMap f)[18 * k + j]? = (f (n + k))[j]? := by
  intro m
  induction m with
  | zero => intro n k j hk; omega
  | succ m ih =>
    intro n k j hk hj
    rw [List.range'_succ, List.flatMap_cons]
    cases k with
    | zero => rw [List.getElem?_append_left (by rw [h]; omega)]; simp
    | succ k =>
      rw [List.getElem?_append_right (by rw [h]; omega), h, show 18 * (k + 1) + j - 18 = 18 * k + j from by omega, ih (n + 1) k j (by omega) hj, show n + 1 + k = n + (k + 1) from by omega]
theorem partCells_at {S I : Int} {st : Nat → Option (List Value)} (h : PartWf st) (k j : Nat) (hk : k < 12) (hj : j < 18) : (partCells S I st)[2 + 18 * k + j]? = (encP (st k))[j]? := by
  unfold partCells
  rw [List.getElem?_append_right (by simp; omega), List.range_eq_range', show 2 + 18 * k + j - [Value.int .u16 S, .int .u16 I].length = 18 * k + j from by simp; omega, flat_at _ (encP_len h) 12 0 k j hk hj, Nat.zero_add]
theorem upd_wf {st : Nat → Option (List Value)} (h : PartWf st) (k : Nat) (o : Option (List Value)) (ho : ∀ x, o = some x → x.length = 17 ∧ ∀ v ∈ x, v.oneCell' = true) : PartWf (upd st k o) := by
  intro j x hx
  unfold upd at hx
  split at hx
  · exact ho x hx
  · exact h j x hx
/-- The cells of place k written anew. -/
theorem splice_part {S I : Int} {st : Nat → Option (List Value)} (h : PartWf st) (k : Nat) (hk : k < 12) (o : Option (List Value)) (ho : ∀ x, o = some x → x.length = 17 ∧ ∀ v ∈ x, v.oneCell' = true) :
    splice (partCells S I st) (2 + 18 * k) (encP o) = partCells S I (upd st k o) := by
  have hw := upd_wf h k o ho
  have hl : (encP o).length = 18 := by
    cases e : o with
    | none => rfl
    | some x => simp [encP, (ho x e).1]
  have hL := partCells_len (S := S) (I := I) h
  have hL' := partCells_len (S := S) (I := I) hw
  apply List.ext_getElem?
  intro i
  by_cases h0 : i < 218
  · by_cases h1 : i < 2
    · unfold splice
      rw [List.getElem?_append_left (by simp; omega), List.getElem?_take, if_pos (by omega)]
      unfold partCells
      rw [List.getElem?_append_left (by simpa using h1), List.getElem?_append_left (by simpa using h1)]
    · obtain ⟨q, r, hq, hr, rfl⟩ : ∃ q r, q < 12 ∧ r < 18 ∧ i = 2 + 18 * q + r := ⟨(i - 2) / 18, (i - 2) % 18, by omega, by omega, by omega⟩
      rw [partCells_at hw q r hq hr]
      unfold splice
      rcases Nat.lt_trichotomy q k with hlt | rfl | hgt
      · rw [List.getElem?_append_left (by simp; omega), List.getElem?_take, if_pos (by omega), partCells_at h q r hq hr]
        simp [upd, show q ≠ k from by omega]
      · rw [List.getElem?_append_right (by simp; omega), List.getElem?_append_left (by simp; omega)]
        simp [upd, Nat.min_eq_left (show 2 + 18 * q ≤ (partCells S I st).length from by omega)]
      · rw [List.getElem?_append_right (by simp; omega), List.getElem?_append_right (by simp; omega), List.getElem?_drop]
        rw [show 2 + 18 * k + (encP o).length + (2 + 18 * q + r - (List.take (2 + 18 * k) (partCells S I st)).length - (encP o).length) = 2 + 18 * q + r from by simp; omega, partCells_at h q r hq hr]
        simp [upd, show q ≠ k from by omega]
  · rw [List.getElem?_eq_none (by rw [splice_length _ _ _ (by omega)]; omega), List.getElem?_eq_none (by omega)]

theorem PartIs.below {w w1 : World} {p : Nat} {S I : Int} {st : Nat → Option (List Value)} (h : PartIs w p S I st) (hb : Below w.heap.size w w1) : PartIs w1 p S I st := ⟨block_below hb h.1, h.2⟩
theorem PartIs.lt {w : World} {p : Nat} {S I : Int} {st : Nat → Option (List Value)} (h : PartIs w p S I st) : p < w.heap.size := (Array.getElem?_eq_some_iff.1 h.1).1
theorem PartIs.range {w : World} {p : Nat} {S I : Int} {st : Nat → Option (List Value)} (h : PartIs w p S I st) (k : Nat) (hk : k < 12) : w.rangeAt p (2 + 18 * k) (encP (st k)) :=
  range_of_block h.1 _ _ fun j hj => partCells_at h.2 k j hk (by rw [encP_len h.2] at hj; exact hj)
theorem PartIs.there {w : World} {p : Nat} {S I : Int} {st : Nat → Option (List Value)} (h : PartIs w p S I st) (k : Nat) (hk : k < 12) : w.there p (2 + 18 * k) 18 :=
  there_of_block h.1 _ _ (by simp [partCells_len h.2]; omega)
theorem PartIs.birth {w : World} {p : Nat} {S I : Int} {st : Nat → Option (List Value)} (h : PartIs w p S I st) : w.cell? ⟨p, 0, none⟩ = some (.int .u16 S) ∧ w.cell? ⟨p, 1, none⟩ = some (.int .u16 I) := by
  constructor
  · rw [cell_of_row w p 0 _ _ _ h.1]; rfl
  · rw [cell_of_row w p 1 _ _ _ h.1]; rfl
/-- A place is written anew. -/
theorem PartIs.put {w : World} {p : Nat} {S I : Int} {st : Nat → Option (List Value)} (h : PartIs w p S I st) (k : Nat) (hk : k < 12) (o : Option (List Value)) (ho : ∀ x, o = some x → x.length = 17 ∧ ∀ v ∈ x, v.oneCell' = true) :
    PartIs (w.setCells p (2 + 18 * k) (encP o)) p S I (upd st k o) := by
  have hl : (encP o).length = 18 := by
    cases e : o with
    | none => rfl
    | some x => simp [encP, (ho x e).1]
  exact ⟨by rw [heap_setCells_same p _ _ _ _ _ h.1 (by rw [partCells_len h.2]; omega), splice_part h.2 k hk o ho], upd_wf h.2 k o ho⟩

/-- A lane's number, of a kind and a number. -/
def laneOf (k n : Int) : Nat := ((k - 1) * 4 + n).toNat

/-! ### ident -/
def Fine (k n : Int) : Prop := 1 ≤ k ∧ k ≤ 3 ∧ 0 ≤ n ∧ n < 4
instance (k n : Int) : Decidable (Fine k n) := by unfold Fine; infer_instance
theorem fine_true (a b : Value) (k n : Int) (w : World) (h : Fine k n) :
    Calls Try.prog 51 #[.agg #[a, b, .int .i64 k, .int .i64 n]] w fun e w' => e = .returned (.bool true) ∧ Below w.heap.size w w' := by
  obtain ⟨h1, h2, h3, h4⟩ := h
  go_enter Try.func51, Try.ntmps51
  go_wp2_with fail
  go_ret
  exact ⟨rfl, below_new (Below.refl _ _) _⟩
theorem fine_false (a b : Value) (k n : Int) (w : World) (h : ¬ Fine k n) :
    Calls Try.prog 51 #[.agg #[a, b, .int .i64 k, .int .i64 n]] w fun e w' => e = .returned (.bool false) ∧ Below w.heap.size w w' := by
  unfold Fine at h
  by_cases h1 : 1 ≤ k
  · by_cases h2 : k ≤ 3
    · by_cases h3 : 0 ≤ n
      · have h4 : ¬ n < 4 := by omega
        clear h
        go_enter Try.func51, Try.ntmps51
        go_wp2_with fail
        go_ret
        exact ⟨rfl, below_new (Below.refl _ _) _⟩
      · clear h
        go_enter Try.func51, Try.ntmps51
        go_wp2_with fail
        go_ret
        exact ⟨rfl, below_new (Below.refl _ _) _⟩
    · clear h
      go_enter Try.func51, Try.ntmps51
      go_wp2_with fail
      go_ret
      exact ⟨rfl, below_new (Below.refl _ _) _⟩
  · clear h
    go_enter Try.func51, Try.ntmps51
    go_wp2_with fail
    go_ret
    exact ⟨rfl, below_new (Below.refl _ _) _⟩
theorem lane_ok (a b : Value) (k n : Int) (w : World) (h : Fine k n) :
    Calls Try.prog 57 #[.agg #[a, b, .int .i64 k, .int .i64 n]] w fun e w' => e = .returned (.int .i64 ((k - 1) * 4 + n)) ∧ Below w.heap.size w w' := by
  have H := Lib.hid h
  obtain ⟨h1, h2, h3, h4⟩ := h
  go_enter Try.func57, Try.ntmps57
  go_wp2_with (go_at_call 51; refine (fine_true _ _ _ _ _ H.out).mono ?_; rintro e w' ⟨rfl, hb⟩; obtain ⟨hc, hf⟩ := bcell hb)
  go_ret
  exact ⟨rfl, below_here (below_new (Below.refl _ _) _) hb⟩
theorem lane_bad (a b : Value) (k n : Int) (w : World) (h : ¬ Fine k n) :
    Calls Try.prog 57 #[.agg #[a, b, .int .i64 k, .int .i64 n]] w fun e w' => e = .returned (.int .i64 (-1)) ∧ Below w.heap.size w w' := by
  have H := Lib.hid h
  clear h
  go_enter Try.func57, Try.ntmps57
  go_wp2_with (go_at_call 51; refine (fine_false _ _ _ _ _ H.out).mono ?_; rintro e w' ⟨rfl, hb⟩; obtain ⟨hc, hf⟩ := bcell hb)
  go_ret
  exact ⟨rfl, below_here (below_new (Below.refl _ _) _) hb⟩

/-! ### at -/
theorem at_nil (a b k n : Value) (w : World) :
    Calls Try.prog 48 #[.pointer none, .agg #[a, b, k, n]] w fun e w' => e = .returned (.tuple #[.pointer none, .int .i64 2]) ∧ Below w.heap.size w w' := by
  go_enter Try.func48, Try.ntmps48
  go_wp2_with fail
  go_ret2
  exact ⟨rfl, below_new (Below.refl _ _) _⟩
theorem at_unfine (p : Nat) (a b : Value) (k n : Int) (w : World) (h : ¬ Fine k n) :
    Calls Try.prog 48 #[.pointer (some ⟨p, 0, none⟩), .agg #[a, b, .int .i64 k, .int .i64 n]] w fun e w' => e = .returned (.tuple #[.pointer none, .int .i64 1]) ∧ Below w.heap.size w w' := by
  have H := Lib.hid h
  clear h
  go_enter Try.func48, Try.ntmps48
  go_wp2_with fail
  refine wp_region_over (by kernel_rfl) (by kernel_rfl) ?_
  repeat (go_big_quiet_step ((go_at_call 51; exact Calls.over_of (fine_false _ _ _ _ _ H.out))))
  refine wpQuiet_nil ?_
  intro W1 hW1
  have hb1 := below_of_over hW1
  clear hW1
  go_wp2_with fail
  go_ret2
  exact ⟨rfl, below_here (below_new (Below.refl _ _) _) hb1⟩
theorem eql_label (x0 x1 y0 y1 : Int) (W : World) : (binOp .eql 24 (.agg #[.int .u16 x0, .int .u16 x1]) (.agg #[.int .u16 y0, .int .u16 y1])).run Try.prog W = .ok (.bool (x0 == y0 && x1 == y1)) W := by
  have h := Try.underlying24
  rw [run_eql_struct]
  go_simp
  by_cases h0 : x0 = y0 <;> by_cases h1 : x1 = y1 <;> simp [h0, h1]
theorem neq_label (x0 x1 y0 y1 : Int) (W : World) : (binOp .neq 24 (.agg #[.int .u16 x0, .int .u16 x1]) (.agg #[.int .u16 y0, .int .u16 y1])).run Try.prog W = .ok (.bool (!(x0 == y0 && x1 == y1))) W := by
  have h := Try.underlying24
  rw [run_neq_struct]
  go_simp
  by_cases h0 : x0 = y0 <;> by_cases h1 : x1 = y1 <;> simp [h0, h1]
theorem neq_label_true {x0 x1 y0 y1 : Int} (h : ¬ (x0 = y0 ∧ x1 = y1)) (W : World) : (binOp .neq 24 (.agg #[.int .u16 x0, .int .u16 x1]) (.agg #[.int .u16 y0, .int .u16 y1])).run Try.prog W = .ok (.bool true) W := by
  rw [neq_label]
  by_cases h0 : x0 = y0 <;> by_cases h1 : x1 = y1 <;> simp_all
theorem neq_label_same (x0 x1 : Int) (W : World) : (binOp .neq 24 (.agg #[.int .u16 x0, .int .u16 x1]) (.agg #[.int .u16 x0, .int .u16 x1])).run Try.prog W = .ok (.bool false) W := by
  rw [neq_label]; simp
theorem at_other (p : Nat) (S I a b k n : Int) (st : Nat → Option (List Value)) (w : World) (hP : PartIs w p S I st) (h : Fine k n) (hne : ¬ (a = S ∧ b = I)) :
    Calls Try.prog 48 #[.pointer (some ⟨p, 0, none⟩), .agg #[.int .u16 a, .int .u16 b, .int .i64 k, .int .i64 n]] w fun e w' => e = .returned (.tuple #[.pointer none, .int .i64 1]) ∧ Below w.heap.size w w' := by
  have H := Lib.hid h
  clear h
  obtain ⟨hc0, hc1⟩ := hP.birth
  have hp := hP.lt
  have hp1 : p < w.heap.size + 1 := by omega
  have e1 := neq_label_true hne
  clear hne hP
  go_enter Try.func48, Try.ntmps48
  go_wp2_with fail
  refine wp_region_over (by kernel_rfl) (by kernel_rfl) ?_
  repeat (go_big_quiet_step ((go_at_call 51; exact Calls.over_of (fine_true _ _ _ _ _ H.out))))
  refine wpQuiet_nil ?_
  intro W1 hW1
  have hb1 := below_of_over hW1
  clear hW1
  go_wp2_with fail
  go_ret2
  exact ⟨rfl, below_here (below_new (Below.refl _ _) _) hb1⟩
/-- Where an object's place is. -/
def placeOf (k n : Int) : Nat := 2 + 18 * laneOf k n
theorem lane_lt {k n : Int} (h : Fine k n) : laneOf k n < 12 := by
  obtain ⟨h1, h2, h3, h4⟩ := h
  unfold laneOf; omega
theorem at_ok (p : Nat) (S I k n : Int) (st : Nat → Option (List Value)) (w : World) (hP : PartIs w p S I st) (h : Fine k n) :
    Calls Try.prog 48 #[.pointer (some ⟨p, 0, none⟩), .agg #[.int .u16 S, .int .u16 I, .int .i64 k, .int .i64 n]] w fun e w' => e = .returned (.tuple #[.pointer (some ⟨p, placeOf k n, none⟩), .int .i64 0]) ∧ Below w.heap.size w w' := by
  have H := Lib.hid h
  have h0 : 0 ≤ (k - 1) * 4 + n := by obtain ⟨h1, h2, h3, h4⟩ := h; omega
  have h12 : (k - 1) * 4 + n < 12 := by obtain ⟨h1, h2, h3, h4⟩ := h; omega
  clear h
  obtain ⟨hc0, hc1⟩ := hP.birth
  have hp := hP.lt
  have hp1 : p < w.heap.size + 1 := by omega
  have e1 := neq_label_same S I
  clear hP
  have hpl : Hid (placeOf k n = 2 + ((k - 1) * 4 + n).toNat * 18) := Lib.hid (by unfold placeOf laneOf; omega)
  go_enter Try.func48, Try.ntmps48
  go_wp2_with fail
  refine wp_region_over (by kernel_rfl) (by kernel_rfl) ?_
  repeat (go_big_quiet_step ((go_at_call 51; exact Calls.over_of (fine_true _ _ _ _ _ H.out))))
  refine wpQuiet_nil ?_
  intro W1 hW1
  have hb1 := below_of_over hW1
  obtain ⟨hc, hf⟩ := bcell hb1
  have hz : w.heap.size < W1.heap.size := by have := hb1.size; simp at this; omega
  clear hW1
  go_wp2_with fail
  refine wp_region_over (by kernel_rfl) (by kernel_rfl) ?_
  repeat (go_big_quiet_step ((go_at_call 57; exact Calls.over_of (lane_ok _ _ _ _ _ H.out))))
  refine wpQuiet_nil ?_
  intro W2 hW2
  have hb2 := below_of_over hW2
  clear hW2
  go_wp2_with fail
  go_ret2
  exact ⟨by rw [hpl.out]; rfl, below_here (below_here (below_new (Below.refl _ _) _) hb1) hb2⟩
def idOf (a b k n : Int) (r : List Value) : List Value := .int .u16 a :: .int .u16 b :: .int .i64 k :: .int .i64 n :: r
theorem PartIs.used {w : World} {p : Nat} {S I k n : Int} {st : Nat → Option (List Value)} (h : PartIs w p S I st) (hf : Fine k n) : w.cell? ⟨p, placeOf k n + 17, none⟩ = some (.bool (st (laneOf k n)).isSome) := by
  have hr := h.range _ (lane_lt hf)
  refine hr 17 _ ?_
  cases e : st (laneOf k n) with
  | none => rfl
  | some o => simp [encP, (h.2 _ _ e).1]
theorem build_place (o : List Value) (h : o.length = 17) (W : World) : (Instr.build 83 #[(0, .agg o.toArray), (1, .bool true)]).run Try.prog W = .ok (.agg (o ++ [Value.bool true]).toArray) W := by
  rcases o with _ | ⟨x0, _ | ⟨x1, _ | ⟨x2, _ | ⟨x3, _ | ⟨x4, _ | ⟨x5, _ | ⟨x6, _ | ⟨x7, _ | ⟨x8, _ | ⟨x9, _ | ⟨x10, _ | ⟨x11, _ | ⟨x12, _ | ⟨x13, _ | ⟨x14, _ | ⟨x15, _ | ⟨x16, _ | ⟨y, t⟩⟩⟩⟩⟩⟩⟩⟩⟩⟩⟩⟩⟩⟩⟩⟩⟩⟩
  all_goals first | (simp at h; done) | (exfalso; simp at h; omega) | kernel_rfl
theorem put_ok (p : Nat) (S I k n : Int) (r : List Value) (st : Nat → Option (List Value)) (w : World) (hP : PartIs w p S I st) (h : Fine k n) (hr : r.length = 13) (h1 : ∀ v ∈ r, v.oneCell' = true) (hn : st (laneOf k n) = none) :
    Calls Try.prog 15 #[.pointer (some ⟨p, 0, none⟩), .agg (idOf S I k n r).toArray] w fun e w' => e = .returned (.int .i64 0) ∧ w.grownBy w' (some p) ∧ PartIs w' p S I (upd st (laneOf k n) (some (idOf S I k n r))) := by
  have H := Lib.hid h
  have hu : w.cell? ⟨p, placeOf k n + 17, none⟩ = some (.bool false) := by have := hP.used h; rw [hn] at this; exact this
  have hp := hP.lt
  have HP := Lib.hid hP
  have hL := Lib.hid (show (idOf S I k n r).length = 17 by simp [idOf, hr])
  have hO := Lib.hid (show ∀ v ∈ idOf S I k n r ++ [Value.bool true], v.oneCell' = true by
    intro v hv
    simp only [idOf, List.cons_append, List.mem_cons, List.mem_append, List.not_mem_nil, or_false] at hv
    rcases hv with rfl | rfl | rfl | rfl | hv | rfl
    all_goals first | rfl | exact h1 v hv)
  clear h hP hn hr h1
  go_enter Try.func15, Try.ntmps15
  unfold idOf
  go_wp2_with (first | (go_at_call 48; refine (at_ok _ _ _ _ _ _ _ (HP.out.below (below_new (Below.refl _ _) _)) H.out).mono ?_; rintro e w1 ⟨rfl, hb1⟩; obtain ⟨hc, hf⟩ := bcell hb1) | (refine wpList_load_mid rfl 39 (.tmp 3) rfl w.heap.size 0 rfl (idOf S I k n r) _ (range_of_block (block_below hb1 (heap_alloc_new _ _)) 0 _ (fun j hj => by rw [Nat.zero_add]; rfl)) Try.underlying39 rfl (by rw [hL.out]; kernel_rfl) ?_; unfold idOf) | (refine wpList_build rfl 83 #[(0, .tmp 24), (1, .const (.bool true))] rfl #[(0, .agg (idOf S I k n r).toArray), (1, .bool true)] ?hb (build_place (idOf S I k n r) hL.out _) ?_; (case hb => simp [Act.eval, Act.put, idOf]); unfold idOf; simp only [List.cons_append]) | (refine wpList_store_mid rfl 83 (.tmp 26) (.tmp 25) rfl p (placeOf k n) (idOf S I k n r ++ [Value.bool true]).toArray rfl rfl (by rw [List.size_toArray, List.length_append, hL.out]; exact (HP.out.below (below_here (below_new (Below.refl _ _) _) hb1)).there _ (lane_lt H.out)) (by rw [List.size_toArray, List.length_append, hL.out]; kernel_rfl) (all_oneCell_toArray hO.out) ?_))
  go_ret
  have hP1 := HP.out.below (below_here (below_new (Below.refl _ _) _) hb1)
  exact ⟨rfl, grown_trans (grown_below (below_here (below_new (Below.refl _ _) _) hb1) _) (grown_setCells _ _ _ _), hP1.put _ (lane_lt H.out) (some (idOf S I k n r)) (fun x hx => by cases hx; exact ⟨hL.out, fun v hv => hO.out v (by simp [hv])⟩)⟩

/-- What 'at' refuses, Put refuses. -/
theorem put_err (pv a b k n : Value) (r : List Value) (c : Int) (w : World) (hc : (c != 0) = true)
    (hat : ∀ W : World, Below w.heap.size w W → Calls Try.prog 48 #[pv, .agg #[a, b, k, n]] W fun e w' => e = .returned (.tuple #[.pointer none, .int .i64 c]) ∧ Below W.heap.size W w') :
    Calls Try.prog 15 #[pv, .agg (a :: b :: k :: n :: r).toArray] w fun e w' => e = .returned (.int .i64 c) ∧ Below w.heap.size w w' := by
  have H := Lib.hid hat
  clear hat
  go_enter Try.func15, Try.ntmps15
  go_wp2_with (go_at_call 48; refine (H.out _ (below_new (Below.refl _ _) _)).mono ?_; rintro e w1 ⟨rfl, hb1⟩)
  go_ret
  exact ⟨rfl, below_here (below_new (Below.refl _ _) _) hb1⟩
theorem set_err (pv a b k n : Value) (r : List Value) (c : Int) (w : World) (hc : (c != 0) = true)
    (hat : ∀ W : World, Below w.heap.size w W → Calls Try.prog 48 #[pv, .agg #[a, b, k, n]] W fun e w' => e = .returned (.tuple #[.pointer none, .int .i64 c]) ∧ Below W.heap.size W w') :
    Calls Try.prog 16 #[pv, .agg (a :: b :: k :: n :: r).toArray] w fun e w' => e = .returned (.int .i64 c) ∧ Below w.heap.size w w' := by
  have H := Lib.hid hat
  clear hat
  go_enter Try.func16, Try.ntmps16
  go_wp2_with (go_at_call 48; refine (H.out _ (below_new (Below.refl _ _) _)).mono ?_; rintro e w1 ⟨rfl, hb1⟩)
  go_ret
  exact ⟨rfl, below_here (below_new (Below.refl _ _) _) hb1⟩
theorem put_there (p : Nat) (S I k n : Int) (r : List Value) (st : Nat → Option (List Value)) (w : World) (hP : PartIs w p S I st) (h : Fine k n) (hn : (st (laneOf k n)).isSome = true) :
    Calls Try.prog 15 #[.pointer (some ⟨p, 0, none⟩), .agg (idOf S I k n r).toArray] w fun e w' => e = .returned (.int .i64 7) ∧ Below w.heap.size w w' := by
  have H := Lib.hid h
  have hu : w.cell? ⟨p, placeOf k n + 17, none⟩ = some (.bool true) := by have := hP.used h; rw [hn] at this; exact this
  have hp := hP.lt
  have HP := Lib.hid hP
  clear h hP hn
  go_enter Try.func15, Try.ntmps15
  unfold idOf
  go_wp2_with (go_at_call 48; refine (at_ok _ _ _ _ _ _ _ (HP.out.below (below_new (Below.refl _ _) _)) H.out).mono ?_; rintro e w1 ⟨rfl, hb1⟩; obtain ⟨hc, hf⟩ := bcell hb1)
  go_ret
  exact ⟨rfl, below_here (below_new (Below.refl _ _) _) hb1⟩
theorem set_none (p : Nat) (S I k n : Int) (r : List Value) (st : Nat → Option (List Value)) (w : World) (hP : PartIs w p S I st) (h : Fine k n) (hn : st (laneOf k n) = none) :
    Calls Try.prog 16 #[.pointer (some ⟨p, 0, none⟩), .agg (idOf S I k n r).toArray] w fun e w' => e = .returned (.int .i64 6) ∧ Below w.heap.size w w' := by
  have H := Lib.hid h
  have hu : w.cell? ⟨p, placeOf k n + 17, none⟩ = some (.bool false) := by have := hP.used h; rw [hn] at this; exact this
  have hp := hP.lt
  have HP := Lib.hid hP
  clear h hP hn
  go_enter Try.func16, Try.ntmps16
  unfold idOf
  go_wp2_with (go_at_call 48; refine (at_ok _ _ _ _ _ _ _ (HP.out.below (below_new (Below.refl _ _) _)) H.out).mono ?_; rintro e w1 ⟨rfl, hb1⟩; obtain ⟨hc, hf⟩ := bcell hb1)
  go_ret
  exact ⟨rfl, below_here (below_new (Below.refl _ _) _) hb1⟩
/-- The object alone written anew, where one is. -/
theorem PartIs.set {w : World} {p : Nat} {S I : Int} {st : Nat → Option (List Value)} (h : PartIs w p S I st) (k : Nat) (hk : k < 12) (hs : (st k).isSome = true) (o : List Value) (ho : o.length = 17 ∧ ∀ v ∈ o, v.oneCell' = true) :
    PartIs (w.setCells p (2 + 18 * k) o) p S I (upd st k (some o)) := by
  have hL := partCells_len (S := S) (I := I) h.2
  obtain ⟨x, hx⟩ := Option.isSome_iff_exists.1 hs
  have hlast : (partCells S I st)[2 + 18 * k + 17]? = some (.bool true) := by
    rw [partCells_at h.2 k 17 hk (by omega), hx]
    simp [encP, (h.2 k x hx).1]
  have e : splice (partCells S I st) (2 + 18 * k) o = splice (partCells S I st) (2 + 18 * k) (encP (some o)) := by
    have hd : (partCells S I st).drop (2 + 18 * k + 17) = .bool true :: (partCells S I st).drop (2 + 18 * k + 18) := by
      rw [List.drop_eq_getElem_cons (by omega), show 2 + 18 * k + 17 + 1 = 2 + 18 * k + 18 from by omega]
      congr 1
      rw [List.getElem?_eq_getElem (by omega)] at hlast
      exact Option.some.inj hlast
    simp only [splice, encP, List.length_append, ho.1, List.length_cons, List.length_nil]
    rw [hd, List.append_assoc]; rfl
  refine ⟨?_, upd_wf h.2 k _ (fun y hy => by cases hy; exact ho)⟩
  rw [heap_setCells_same p _ _ _ _ _ h.1 (by rw [hL, ho.1]; omega), e, splice_part h.2 k hk _ (fun y hy => by cases hy; exact ho)]
theorem set_ok (p : Nat) (S I k n : Int) (r : List Value) (st : Nat → Option (List Value)) (w : World) (hP : PartIs w p S I st) (h : Fine k n) (hr : r.length = 13) (h1 : ∀ v ∈ r, v.oneCell' = true) (hn : (st (laneOf k n)).isSome = true) :
    Calls Try.prog 16 #[.pointer (some ⟨p, 0, none⟩), .agg (idOf S I k n r).toArray] w fun e w' => e = .returned (.int .i64 0) ∧ w.grownBy w' (some p) ∧ PartIs w' p S I (upd st (laneOf k n) (some (idOf S I k n r))) := by
  have H := Lib.hid h
  have hu : w.cell? ⟨p, placeOf k n + 17, none⟩ = some (.bool true) := by have := hP.used h; rw [hn] at this; exact this
  have hp := hP.lt
  have HP := Lib.hid hP
  have HN := Lib.hid hn
  have hL := Lib.hid (show (idOf S I k n r).length = 17 by simp [idOf, hr])
  have hO := Lib.hid (show ∀ v ∈ idOf S I k n r, v.oneCell' = true by
    intro v hv
    simp only [idOf, List.mem_cons] at hv
    rcases hv with rfl | rfl | rfl | rfl | hv
    all_goals first | rfl | exact h1 v hv)
  clear h hP hn hr h1
  go_enter Try.func16, Try.ntmps16
  unfold idOf
  go_wp2_with (first | (go_at_call 48; refine (at_ok _ _ _ _ _ _ _ (HP.out.below (below_new (Below.refl _ _) _)) H.out).mono ?_; rintro e w1 ⟨rfl, hb1⟩; obtain ⟨hc, hf⟩ := bcell hb1) | (refine wpList_load_mid rfl 39 (.tmp 3) rfl w.heap.size 0 rfl (idOf S I k n r) _ (range_of_block (block_below hb1 (heap_alloc_new _ _)) 0 _ (fun j hj => by rw [Nat.zero_add]; rfl)) Try.underlying39 rfl (by rw [hL.out]; kernel_rfl) ?_; unfold idOf) | (refine wpList_store_mid rfl 39 (.tmp 27) (.tmp 25) rfl p (placeOf k n) (idOf S I k n r).toArray rfl rfl (by rw [List.size_toArray, hL.out]; exact fun j hj => ((HP.out.below (below_here (below_new (Below.refl _ _) _) hb1)).there _ (lane_lt H.out)) j (by omega)) (by rw [List.size_toArray, hL.out]; kernel_rfl) (all_oneCell_toArray hO.out) ?_))
  go_ret
  have hP1 := HP.out.below (below_here (below_new (Below.refl _ _) _) hb1)
  exact ⟨rfl, grown_trans (grown_below (below_here (below_new (Below.refl _ _) _) hb1) _) (grown_setCells _ _ _ _), hP1.set _ (lane_lt H.out) HN.out _ ⟨hL.out, hO.out⟩⟩
end Go.Proofs.Ytaapejhoegeimaa
