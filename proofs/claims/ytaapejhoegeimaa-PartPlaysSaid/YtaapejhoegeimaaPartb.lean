/- Contracts of package part: Get, Drop, New, Birth. No conditions. -/
import Derived.Test.YtaapejhoegeimaaPart
import Derived.Test.YtaapejhoegeimaaRegs
namespace Go.Proofs.Ytaapejhoegeimaa
open Go.RowKit
set_option linter.unusedSimpArgs false
attribute [local go_sem] cell_over frozen_over cell_ws frozen_ws size_ws besideAt

theorem sizeObj : (Try.prog.info? 39).map (·.size) = some 17 := by kernel_rfl
theorem sizePlace : (Try.prog.info? 83).map (·.size) = some 18 := by kernel_rfl
theorem zobj_one : ∀ v ∈ zobj, v.oneCell' = true := by simp [zobj, Value.oneCell']
theorem build_zobj (W : World) : (Instr.build 39 #[]).run Try.prog W = .ok (.agg zobj.toArray) W := by kernel_rfl
theorem build_zplace (W : World) : (Instr.build 83 #[]).run Try.prog W = .ok (.agg (encP none).toArray) W := by kernel_rfl
theorem encN_one : ∀ v ∈ encP none, v.oneCell' = true := by simp [encP, zobj, Value.oneCell']
/-- The object of a place, or nothing. -/
def objOf (x : Option (List Value)) : List Value := x.getD zobj
theorem objOf_len {st : Nat → Option (List Value)} (h : PartWf st) (k : Nat) : (objOf (st k)).length = 17 := by
  cases e : st k with
  | none => rfl
  | some o => exact (h k o e).1
theorem objOf_one {st : Nat → Option (List Value)} (h : PartWf st) (k : Nat) : ∀ v ∈ objOf (st k), v.oneCell' = true := by
  cases e : st k with
  | none => exact zobj_one
  | some o => exact (h k o e).2

/-! ### Get -/
theorem zero_there (w : World) : (w.alloc (.cells zobj.toArray 39)).there w.heap.size 0 17 := there_of_block (heap_alloc_new w _) 0 17 (by simp [zobj])
/-- Out of the lanes, or of a nil part: nothing. -/
theorem get_out (pv : Value) (l : Int) (w : World) (h : (pv = .pointer none) ∨ (∃ p, pv = .pointer (some p)) ∧ (l < 0 ∨ 12 ≤ l)) :
    Calls Try.prog 19 #[pv, .int .i64 l] w fun e w' => e = .returned (.tuple #[.agg zobj.toArray, .bool false]) ∧ Below w.heap.size w w' := by
  rcases h with rfl | ⟨⟨p, rfl⟩, h | h⟩
  all_goals
    go_enter Try.func19, Try.ntmps19
    go_wp2_with (refine wpList_store_mid rfl 39 (.tmp 4) (.tmp 17) rfl w.heap.size 0 zobj.toArray rfl rfl (zero_there w) sizeObj (all_oneCell_toArray zobj_one) ?_)
    refine ret_cell_tmp rfl w.heap.size 0 rfl zobj _ (World.rangeAt_setCells_same _ _ _ _ (zero_there w)) Try.underlying39 rfl sizeObj rfl ⟨rfl, ?_⟩
    exact below_setCells (below_new (Below.refl _ _) _) (Nat.le_refl _) _ _
theorem enc_at {st : Nat → Option (List Value)} (h : PartWf st) (k j : Nat) (hj : j < 17) : (encP (st k))[j]? = (objOf (st k))[j]? := by
  cases e : st k with
  | none => simp only [encP, objOf, Option.getD_none]; rw [List.getElem?_append_left (by simpa [zobj] using hj)]
  | some o => simp only [encP, objOf, Option.getD_some]; rw [List.getElem?_append_left (by rw [(h k o e).1]; exact hj)]
theorem enc_last {st : Nat → Option (List Value)} (h : PartWf st) (k : Nat) : (encP (st k))[17]? = some (.bool (st k).isSome) := by
  cases e : st k with
  | none => rfl
  | some o => simp [encP, (h k o e).1]
theorem enc_one {st : Nat → Option (List Value)} (h : PartWf st) (k : Nat) : ∀ v ∈ encP (st k), v.oneCell' = true := by
  intro v hv
  cases e : st k with
  | none => rw [e] at hv; revert v; simp [encP, zobj, Value.oneCell']
  | some o =>
    rw [e] at hv
    simp only [encP, List.mem_append, List.mem_singleton] at hv
    rcases hv with hv | rfl
    · exact (h k o e).2 v hv
    · rfl
set_option maxRecDepth 100000 in
/-- In a lane: what is there. -/
theorem get_in (p : Nat) (S I : Int) (st : Nat → Option (List Value)) (l : Int) (w : World) (hP : PartIs w p S I st) (h0 : 0 ≤ l) (h1 : l < 12) :
    Calls Try.prog 19 #[.pointer (some ⟨p, 0, none⟩), .int .i64 l] w fun e w' => e = .returned (.tuple #[.agg (objOf (st l.toNat)).toArray, .bool (st l.toNat).isSome]) ∧ Below w.heap.size w w' := by
  have HP := Lib.hid hP
  have hL := Lib.hid (encP_len hP.2 l.toNat)
  have hu := enc_last hP.2 l.toNat
  clear hP
  go_enter Try.func19, Try.ntmps19
  go_wp2_with (first | (refine wpList_load_mid rfl 83 (.tmp 22) rfl p (2 + l.toNat * 18) rfl (encP (st l.toNat)) _ (by rw [Nat.mul_comm]; exact (HP.out.below (below_new (Below.refl _ _) _)).range l.toNat (by omega)) Try.underlying83 rfl (by rw [hL.out]; exact sizePlace) ?_) | (refine wpList_store_new rfl 83 (.tmp 6) (.tmp 23) rfl _ (encP (st l.toNat)).toArray ?x1 rfl ?x3 ?x4 (all_oneCell_toArray (enc_one HP.out.2 _)) ?_; (case x1 => simp [Act.eval]); (case x3 => rw [List.size_toArray, hL.out]; exact sizePlace); (case x4 => rw [List.size_toArray, List.size_toArray, hL.out]; rfl)))
  have hz : w.heap.size + 1 < w.heap.size + 1 + 1 := by omega
  refine wp_region_put 4 w.heap.size 0 (objOf (st l.toNat)) (by simp) (by kernel_rfl) (by kernel_rfl) ?_
  simp only [Act.put]
  refine wpS_step rfl (fun K hK => ?_); go_simp; refine hK _ ?_; clear hK K
  refine wpS_load rfl rfl 39 (.tmp 24) rfl (w.heap.size + 1) 0 rfl (objOf (st l.toNat)) _ ?_ Try.underlying39 rfl (by rw [objOf_len HP.out.2]; exact sizeObj) ?_
  · intro f
    refine rangeAt_ws (range_of_block (heap_alloc2_new w _ _) 0 _ (fun j hj => ?_)) (by omega)
    rw [objOf_len HP.out.2] at hj
    rw [Nat.zero_add]
    exact enc_at HP.out.2 _ j hj
  simp only [Act.put]
  refine wpS_step rfl (fun K hK => ?_); go_simp; refine hK _ ?_; clear hK K
  refine wpS_step rfl (fun K hK => ?_); go_simp; refine hK _ ?_; clear hK K
  refine wpS_store rfl rfl 39 (.tmp 4) (.tmp 25) rfl rfl rfl (there_of_block (heap_alloc2_old w _ _) 0 _ (by rw [objOf_len HP.out.2]; exact Nat.le_refl _)) (by simp; omega) (by rw [objOf_len HP.out.2]; exact sizeObj) (objOf_one HP.out.2 _) ?_
  simp only [Act.put]
  refine wpS_step rfl (fun K hK => ?_); go_simp; refine hK _ ?_; clear hK K
  refine wpS_nil ?_
  intro W hb
  go_wp2_with fail
  refine ret_cell_tmp rfl w.heap.size 0 rfl (objOf (st l.toNat)) _ (range_below (World.rangeAt_setCells_same _ _ _ _ (there_of_block (heap_alloc2_old w _ _) 0 _ (by rw [objOf_len HP.out.2]; exact Nat.le_refl _))) hb (by simp; omega)) Try.underlying39 rfl (by rw [objOf_len HP.out.2]; exact sizeObj) rfl ⟨rfl, ?_⟩
  refine Below.trans (below_setCells (below_new (below_new (Below.refl _ _) _) _) (Nat.le_refl _) 0 _) (hb.mono (by simp; omega))
/-! ### Drop, New, Birth -/
theorem drop_nil (l : Value) (w : World) : Calls Try.prog 18 #[.pointer none, l] w fun e w' => e = .returned (.int .i64 2) ∧ w' = w := by
  go_enter Try.func18, Try.ntmps18
  go_wp2_with fail
  go_ret
  exact ⟨rfl, rfl⟩
set_option maxRecDepth 100000 in
theorem drop_out (p : Nat) (l : Int) (w : World) (h : l < 0 ∨ 12 ≤ l) : Calls Try.prog 18 #[.pointer (some ⟨p, 0, none⟩), .int .i64 l] w fun e w' => e = .returned (.int .i64 6) ∧ Below w.heap.size w w' := by
  have H := Lib.hid h
  clear h
  go_enter Try.func18, Try.ntmps18
  go_wp2_with (first | (go_at_call 19; refine (get_out _ _ _ (.inr ⟨⟨_, rfl⟩, H.out⟩)).mono ?_; rintro e w1 ⟨rfl, hb1⟩) | (refine wpList_store_new rfl 39 (.tmp 5) (.tmp 13) rfl _ zobj.toArray ?x1 ?x2 sizeObj rfl (all_oneCell_toArray zobj_one) ?_; (case x1 => simp [Act.eval, Act.put]); (case x2 => simp [Act.eval, Act.put])))
  go_ret
  exact ⟨rfl, below_new hb1 _⟩
set_option maxRecDepth 100000 in
theorem drop_none (p : Nat) (S I : Int) (st : Nat → Option (List Value)) (l : Int) (w : World) (hP : PartIs w p S I st) (h0 : 0 ≤ l) (h1 : l < 12) (hn : st l.toNat = none) : Calls Try.prog 18 #[.pointer (some ⟨p, 0, none⟩), .int .i64 l] w fun e w' => e = .returned (.int .i64 6) ∧ Below w.heap.size w w' := by
  have hg := get_in p S I st l w hP h0 h1
  rw [hn] at hg
  have H := Lib.hid hg
  clear hg hP hn
  go_enter Try.func18, Try.ntmps18
  go_wp2_with (first | (go_at_call 19; refine H.out.mono ?_; rintro e w1 ⟨rfl, hb1⟩) | (refine wpList_store_new rfl 39 (.tmp 5) (.tmp 13) rfl _ (objOf none).toArray ?x1 ?x2 sizeObj rfl (all_oneCell_toArray zobj_one) ?_; (case x1 => simp [Act.eval, Act.put]); (case x2 => simp [Act.eval, Act.put])))
  go_ret
  exact ⟨rfl, below_new hb1 _⟩
set_option maxRecDepth 100000 in
theorem drop_ok (p : Nat) (S I : Int) (st : Nat → Option (List Value)) (l : Int) (w : World) (hP : PartIs w p S I st) (h0 : 0 ≤ l) (h1 : l < 12) (hn : (st l.toNat).isSome = true) :
    Calls Try.prog 18 #[.pointer (some ⟨p, 0, none⟩), .int .i64 l] w fun e w' => e = .returned (.int .i64 0) ∧ w.grownBy w' (some p) ∧ PartIs w' p S I (upd st l.toNat none) := by
  have hg := get_in p S I st l w hP h0 h1
  rw [hn] at hg
  have H := Lib.hid hg
  have HP := Lib.hid hP
  clear hg hP hn
  go_enter Try.func18, Try.ntmps18
  go_wp2_with (first | (go_at_call 19; refine H.out.mono ?_; rintro e w1 ⟨rfl, hb1⟩) | (refine wpList_store_new rfl 39 (.tmp 5) (.tmp 13) rfl _ (objOf (st l.toNat)).toArray ?x1 ?x2 ?x3 ?x4 (all_oneCell_toArray (objOf_one HP.out.2 _)) ?_; (case x1 => simp [Act.eval, Act.put]); (case x2 => simp [Act.eval, Act.put]); (case x3 => rw [List.size_toArray, objOf_len HP.out.2]; exact sizeObj); (case x4 => rw [List.size_toArray, List.size_toArray, objOf_len HP.out.2]; rfl)) | (refine wpList_store_mid rfl 83 (.tmp 22) (.tmp 19) rfl p (2 + l.toNat * 18) (encP none).toArray ?y2 ?y3 ?y1 sizePlace (all_oneCell_toArray encN_one) ?_; (case y2 => simp [Act.eval, Act.put]); (case y3 => simp [Act.eval, Act.put, encP, zobj]); (case y1 => show World.there _ p (2 + l.toNat * 18) 18; rw [Nat.mul_comm]; exact (HP.out.below (below_new hb1 _)).there _ (by omega))))
  go_ret
  refine ⟨rfl, grown_trans (grown_below (below_new hb1 _) _) (grown_setCells _ _ _ _), ?_⟩
  rw [show l.toNat * 18 = 18 * l.toNat from Nat.mul_comm _ _]
  exact (HP.out.below (below_new hb1 _)).put _ (by omega) none (fun x hx => by cases hx)
theorem birth_nil (w : World) : Calls Try.prog 12 #[.pointer none] w fun e w' => e = .returned (.agg #[.int .u16 0, .int .u16 0]) ∧ Below w.heap.size w w' := by
  go_enter Try.func12, Try.ntmps12
  go_wp2_with fail
  exact ret_cell rfl w.heap.size 0 rfl [.int .u16 0, .int .u16 0] _ (range_of_block (heap_alloc_new w _) 0 _ (fun j _ => by rw [Nat.zero_add])) Try.underlying24 rfl (by kernel_rfl) rfl ⟨rfl, below_new (Below.refl _ _) _⟩
theorem birth_ok (p : Nat) (S I : Int) (st : Nat → Option (List Value)) (w : World) (hP : PartIs w p S I st) : Calls Try.prog 12 #[.pointer (some ⟨p, 0, none⟩)] w fun e w' => e = .returned (.agg #[.int .u16 S, .int .u16 I]) ∧ Below w.heap.size w w' := by
  obtain ⟨hc0, hc1⟩ := hP.birth
  have hp := hP.lt
  clear hP
  go_enter Try.func12, Try.ntmps12
  go_wp2_with fail
  exact ret_cell rfl w.heap.size 0 rfl [.int .u16 S, .int .u16 I] _ (range_of_block (heap_alloc_new w _) 0 _ (fun j _ => by rw [Nat.zero_add])) Try.underlying24 rfl (by kernel_rfl) rfl ⟨rfl, below_new (Below.refl _ _) _⟩
theorem new_ok (S I : Int) (w : World) : Calls Try.prog 11 #[.agg #[.int .u16 S, .int .u16 I]] w fun e w' => ∃ p, e = .returned (.pointer (some ⟨p, 0, none⟩)) ∧ w.heap.size ≤ p ∧ PartIs w' p S I (fun _ => none) ∧ Below w.heap.size w w' := by
  go_enter Try.func11, Try.ntmps11
  go_wp2_with fail
  have e : ((Try.zeroCells86.setIfInBounds 0 (Value.int IntKind.u16 S)).setIfInBounds 1 (Value.int IntKind.u16 I)) = (partCells S I (fun _ => none)).toArray := by kernel_rfl
  rw [e]
  go_ret
  exact ⟨_, rfl, Nat.le_succ _, ⟨heap_alloc2_new w _ _, fun k o h => by cases h⟩, below_new (below_new (Below.refl _ _) _) _⟩
end Go.Proofs.Ytaapejhoegeimaa
