/- Package part: the reference's Same at zero objects; the conditions' mailbox (alive). No conditions. -/
import Derived.Test.YtaapejhoegeimaaPartc
import Derived.Test.YtaapejhoegeimaaRegc
namespace Go.Proofs.Ytaapejhoegeimaa
open Go.RowKit Go.Shelf
set_option linter.unusedSimpArgs false

theorem ref22_same_nil (w : World) : Calls Try.prog 59 #[.slice none 0 0, .slice none 0 0] w fun e w' => e = .returned (.bool true) ∧ w' = w := by
  go_enter Try.func59, Try.ntmps59
  go_wp2_with fail
  go_loopw [5] (fun i wr => i = .int .i64 0 ∧ wr = w) (fun i _ => 0)
  case atStart => exact ⟨rfl, rfl⟩
  case round =>
    obtain ⟨rfl, rfl⟩ := hrel
    go_wp2_with fail
    go_ret
    exact ⟨rfl, rfl⟩
theorem ref23_same_zero (w : World) : Calls Try.prog 49 #[.agg #[.int .i64 0, .slice none 0 0, .slice none 0 0, .slice none 0 0], .agg #[.int .i64 0, .slice none 0 0, .slice none 0 0, .slice none 0 0]] w fun e w' => e = .returned (.bool true) ∧ Below w.heap.size w w' := by
  go_enter Try.func49, Try.ntmps49
  go_wp2_with (go_at_call 59; refine (ref22_same_nil _).mono ?_; rintro e w1 ⟨rfl, rfl⟩)
  go_ret
  exact ⟨rfl, below_new (below_new (Below.refl _ _) _) _⟩
theorem ref25_same_zero (w : World) : Calls Try.prog 21 #[.agg zobj.toArray, .agg zobj.toArray] w fun e w' => e = .returned (.bool true) ∧ Below w.heap.size w w' := by
  unfold zobj
  go_enter Try.func21, Try.ntmps21
  go_wp2_with (go_at_call 49; refine (ref23_same_zero _).mono ?_; rintro e w1 ⟨rfl, hb1⟩)
  go_ret
  exact ⟨rfl, below_here (below_new (below_new (Below.refl _ _) _) _) hb1⟩
/-- A load of many cells that is guarded, the guard being decided. -/
theorem wpList_load_wanted {P : Program} {ops : Array Oper} {rest : List Oper} {op : Oper} {a : Act} {w : World} {Q : Exit → Act → World → Prop} (ty : TypeId) (x : Operand) (ho : op.op = .load ty x) (hgd : Region.wanted op (yielded ops a.tmps) = true)
    (b o : Nat) (hx : a.eval x = .pointer (some ⟨b, o, none⟩)) (cs : List Value) (d : TypeDesc) (hc : w.rangeAt b o cs)
    (hu : P.underlying ty = some d) (hd : d.isRow = true) (hi : (P.info? ty).map (·.size) = some cs.length)
    (h : wpList P ops Q rest (a.put op.dst (.agg cs.toArray)) w) : wpList P ops Q (op :: rest) a w :=
  wpList_step fun K hK => by rw [if_pos hgd]; exact wp_load_mid ty x ho b o hx cs d hc hu hd hi (hK _ _ h)
/-- The mailbox: what follows its name. -/
def mRest (n : Int) : List Value := [.int .u16 0, .int .u16 0, .int .i64 n, .bool false, .int .u16 0, .int .u16 0, .int .i64 0, .string ⟨#[]⟩, .bool false, .int .i64 0, .slice none 0 0, .slice none 0 0, .slice none 0 0]
theorem mRest_len (n : Int) : (mRest n).length = 13 := rfl
theorem mRest_one (n : Int) : ∀ v ∈ mRest n, v.oneCell' = true := by simp [mRest, Value.oneCell']
theorem mObj_one (n : Int) : ∀ v ∈ idOf 1 0 2 2 (mRest n), v.oneCell' = true := by simp [idOf, mRest, Value.oneCell']
theorem build_m (W : World) : (Instr.build 39 #[(0, .agg #[.int .u16 1, .int .u16 0, .int .i64 2, .int .i64 2]), (2, .int .i64 4)]).run Try.prog W = .ok (.agg (idOf 1 0 2 2 (mRest 4)).toArray) W := by kernel_rfl
theorem mObj_set (w : World) (b : Nat) (h : w.heap[b]? = some (.cells (idOf 1 0 2 2 (mRest 4)).toArray 39 (0, 0))) : (w.setCell ⟨b, 6, none⟩ (.int .i64 5)).heap[b]? = some (.cells (idOf 1 0 2 2 (mRest 5)).toArray 39 (0, 0)) := by
  obtain ⟨hlt, hk⟩ := Array.getElem?_eq_some_iff.1 h
  show (w.heap.modify b _)[b]? = _
  rw [Array.getElem?_eq_getElem (by rw [Array.size_modify]; exact hlt), Array.getElem_modify_self, hk]
  rfl
def zRest : List Value := [.int .u16 0, .int .u16 0, .int .i64 0, .bool false, .int .u16 0, .int .u16 0, .int .i64 0, .string ⟨#[]⟩, .bool false, .int .i64 0, .slice none 0 0, .slice none 0 0, .slice none 0 0]
theorem build_z (W : World) : (Instr.build 39 #[(0, .agg #[.int .u16 0, .int .u16 0, .int .i64 2, .int .i64 0])]).run Try.prog W = .ok (.agg (idOf 0 0 2 0 zRest).toArray) W := by kernel_rfl
def sNone : Nat → Option (List Value) := fun _ => none
def sOne (n : Int) : Nat → Option (List Value) := upd sNone 6 (some (idOf 1 0 2 2 (mRest n)))
theorem get_some (p : Nat) (S I : Int) (st : Nat → Option (List Value)) (l : Int) (w : World) (hP : PartIs w p S I st) (h0 : 0 ≤ l) (h1 : l < 12) (o : List Value) (ho : st l.toNat = some o) :
    Calls Try.prog 19 #[.pointer (some ⟨p, 0, none⟩), .int .i64 l] w fun e w' => e = .returned (.tuple #[.agg o.toArray, .bool true]) ∧ Below w.heap.size w w' := by
  have := get_in p S I st l w hP h0 h1
  rw [ho] at this
  exact this
def sTwo : Nat → Option (List Value) := upd (sOne 4) (laneOf 2 2) (some (idOf 1 0 2 2 (mRest 5)))
theorem present_two (h : PartWf sTwo) : (present sTwo h 12).length = 1 := by
  have h6 : sTwo 6 = some (idOf 1 0 2 2 (mRest 5)) := rfl
  have e0 : present sTwo h 6 = [] := by
    rw [present_no h (k := 5) rfl, present_no h (k := 4) rfl, present_no h (k := 3) rfl, present_no h (k := 2) rfl, present_no h (k := 1) rfl, present_no h (k := 0) rfl]; rfl
  obtain ⟨x, _, h7⟩ := present_some h h6
  rw [present_no h (k := 11) rfl, present_no h (k := 10) rfl, present_no h (k := 9) rfl, present_no h (k := 8) rfl, present_no h (k := 7) rfl, h7, e0]; rfl
/-- What the walk holds on the way: the part; the block of the mailbox. -/
structure Mid (w W : World) (p m : Nat) (st : Nat → Option (List Value)) : Prop where
  b : Below w.heap.size w W
  is : PartIs W p 1 0 st
  mo : W.heap[m]? = some (.cells (idOf 1 0 2 2 (mRest 4)).toArray 39 (0, 0))
  p0 : w.heap.size ≤ p
  ne : m ≠ p
theorem Mid.below {w W W' : World} {p m : Nat} {st : Nat → Option (List Value)} (h : Mid w W p m st) (hb : Below W.heap.size W W') : Mid w W' p m st :=
  ⟨h.b.trans (hb.mono h.b.size), h.is.below hb, block_below hb h.mo, h.p0, h.ne⟩
theorem keep_g {w w' : World} {p b : Nat} {o : Obj} (hg : w.grownBy w' (some p)) (h : w.heap[b]? = some o) (hne : b ≠ p) : w'.heap[b]? = some o := (hg.block b (Array.getElem?_eq_some_iff.1 h).1 (fun e => hne (Option.some.inj e))).trans h
theorem below_grown {B : Nat} {w a b : World} {p : Nat} (h : Below B w a) (hg : a.grownBy b (some p)) (hp : B ≤ p) (hB : B ≤ a.heap.size) : Below B w b := h.grown hg hB fun j ej => by
  rw [← Option.some.inj ej]; exact hp
theorem Mid.grown {w W W' : World} {p m : Nat} {st st' : Nat → Option (List Value)} (h : Mid w W p m st) (hg : W.grownBy W' (some p)) (hP : PartIs W' p 1 0 st') : Mid w W' p m st' :=
  ⟨below_grown h.b hg h.p0 h.b.size, hP, keep_g hg h.mo h.ne, h.p0, h.ne⟩
def aliveC (w : World) (p m x : Nat) (j : Nat) (W : World) : Prop := Mid w W p m (if 2 ≤ j then sOne 4 else sNone) ∧ x ≠ p ∧ W.heap[x]? = some (.cells (idOf 1 0 2 2 (mRest 5)).toArray 39 (0, 0))
set_option maxRecDepth 100000 in
set_option maxHeartbeats 2000000 in
theorem alive_ok (w : World) : Calls Try.prog 10 #[] w fun e w' => e = .returned (.bool true) ∧ Below w.heap.size w w' := by
  go_enter Try.func10, Try.ntmps10
  go_wp2_with (first | (go_at_call 11; refine (new_ok 1 0 _).mono ?_; rintro e w1 ⟨p, rfl, hp, hP, hb⟩) | (refine wpList_build rfl 39 _ rfl #[(0, .agg #[.int .u16 1, .int .u16 0, .int .i64 2, .int .i64 2]), (2, .int .i64 4)] ?b1 (build_m _) ?_; (case b1 => simp [Act.eval, Act.put])) | (refine wpList_store_new rfl 39 (.tmp 2) (.tmp 19) rfl _ (idOf 1 0 2 2 (mRest 4)).toArray ?x1 ?x2 sizeObj rfl (all_oneCell_toArray (mObj_one 4)) ?_; (case x1 => simp [Act.eval, Act.put]); (case x2 => simp [Act.eval, Act.put])) | (refine wpList_load_mid rfl 39 (.tmp 2) rfl w1.heap.size 0 rfl (idOf 1 0 2 2 (mRest 4)) _ (range_of_block (heap_alloc_new w1 _) 0 _ (fun j hj => by rw [Nat.zero_add])) Try.underlying39 rfl sizeObj ?_) | (refine wpList_store_new rfl 39 (.tmp 3) (.tmp 20) rfl _ (idOf 1 0 2 2 (mRest 4)).toArray ?x1 ?x2 sizeObj rfl (all_oneCell_toArray (mObj_one 4)) ?_; (case x1 => simp [Act.eval, Act.put]); (case x2 => simp [Act.eval, Act.put]); have hc6 := cell_of_row _ _ 6 _ _ _ (heap_alloc_new (w1.alloc (.cells (idOf 1 0 2 2 (mRest 4)).toArray 39)) (.cells (idOf 1 0 2 2 (mRest 4)).toArray 39))))
  obtain ⟨w2, hw2⟩ : ∃ w2, w2 = ((w1.alloc (.cells (idOf 1 0 2 2 (mRest 4)).toArray 39)).alloc (.cells ((idOf 1 0 2 2 (mRest 4)).set 6 (Value.int IntKind.i64 5)).toArray 39)) := ⟨_, rfl⟩
  obtain ⟨m, hm⟩ : ∃ m, m = w1.heap.size := ⟨_, rfl⟩
  have hM : aliveC w p m (m + 1) 0 w2 := by
    have hp1 := hP.lt
    rw [hm, hw2]
    refine ⟨⟨below_new (below_new hb _) _, hP.below (below_new (below_new (Below.refl _ _) _) _), heap_alloc2_old w1 _ _, hp, by omega⟩, by omega, heap_alloc2_new w1 _ _⟩
  rw [← hw2, ← hm]
  clear hw2 hP hc6 hb hp hm
  refine wp_region_chain [2, 5, 8] (aliveC w p m (m + 1)) (by kernel_rfl) (by kernel_rfl) (by decide) (by kernel_rfl) (by kernel_rfl) ⟨hM.1.below (Below.refl _ _).drew, hM.2⟩ ?_
  have nb : Nonempty { W : World // ∃ j, aliveC w p m (m + 1) j W } := ⟨⟨w2, 0, hM⟩⟩
  have HM : Hid (∀ W : World, (∃ s : { W : World // ∃ j, aliveC w p m (m + 1) j W }, W = s.1) → W.rangeAt m 0 (idOf 1 0 2 2 (mRest 4))) := Lib.hid (by
    rintro W ⟨⟨W, j, hg, _⟩, rfl⟩
    exact range_of_block hg.mo 0 _ (fun j hj => by rw [Nat.zero_add]))
  have HX : Hid (∀ W : World, (∃ s : { W : World // ∃ j, aliveC w p m (m + 1) j W }, W = s.1) → W.rangeAt (m + 1) 0 (idOf 1 0 2 2 (mRest 5))) := Lib.hid (by
    rintro W ⟨⟨W, j, _, _, hx⟩, rfl⟩
    exact range_of_block hx 0 _ (fun j hj => by rw [Nat.zero_add]))
  clear hM
  refine wpC_seg 2 _ _ _ (by kernel_rfl) ?_
  simp only [List.take_succ_cons, List.take_zero, List.drop_succ_cons, List.drop_zero, List.length_cons, List.length_nil, Nat.zero_add, Nat.reduceAdd]
  repeat (first | (go_big_quiet_want; refine quiet_load_mid 39 (.tmp 2) rfl m 0 rfl (idOf 1 0 2 2 (mRest 4)) _ HM.out Try.underlying39 rfl sizeObj ?_; go_big_quiet_on) | go_big_quiet_step (fail))
  refine wpQuiet_nil ?_
  refine wpC_turn rfl rfl (.int .i64 6) (fun W hW => ?t1) (fun K hK => ?nt1)
  case t1 =>
    unfold goesAt
    go_simp
    exact (set_none p 1 0 2 2 (mRest 4) _ W hW.1.is (by decide) rfl).mono fun e w' ⟨he, hb⟩ => ⟨he, hW.1.below hb, hW.2.1, block_below hb hW.2.2⟩
  go_simp
  refine hK _ ?_
  clear hK K
  refine wpC_seg 2 _ _ _ (by kernel_rfl) ?_
  simp only [List.take_succ_cons, List.take_zero, List.drop_succ_cons, List.drop_zero, List.length_cons, List.length_nil, Nat.zero_add, Nat.reduceAdd]
  repeat (first | (go_big_quiet_want; refine quiet_load_mid 39 (.tmp 2) rfl m 0 rfl (idOf 1 0 2 2 (mRest 4)) _ HM.out Try.underlying39 rfl sizeObj ?_; go_big_quiet_on) | go_big_quiet_step (fail))
  refine wpQuiet_nil ?_
  refine wpC_turn rfl rfl (.int .i64 0) (fun W hW => ?t2) (fun K hK => ?nt2)
  case t2 =>
    unfold goesAt
    go_simp
    exact (put_ok p 1 0 2 2 (mRest 4) _ W hW.1.is (by decide) rfl (mRest_one 4) rfl).mono fun e w' ⟨he, hg, hP⟩ => ⟨he, hW.1.grown hg hP, hW.2.1, keep_g hg hW.2.2 hW.2.1⟩
  go_simp
  refine hK _ ?_
  clear hK K
  refine wpC_seg 2 _ _ _ (by kernel_rfl) ?_
  simp only [List.take_succ_cons, List.take_zero, List.drop_succ_cons, List.drop_zero, List.length_cons, List.length_nil, Nat.zero_add, Nat.reduceAdd]
  repeat (first | (go_big_quiet_want; refine quiet_load_mid 39 (.tmp 3) rfl (m + 1) 0 rfl (idOf 1 0 2 2 (mRest 5)) _ HX.out Try.underlying39 rfl sizeObj ?_; go_big_quiet_on) | go_big_quiet_step (fail))
  refine wpQuiet_nil ?_
  refine wpC_turn rfl rfl (.int .i64 7) (fun W hW => ?t3) (fun K hK => ?nt3)
  case t3 =>
    unfold goesAt
    go_simp
    exact (put_there p 1 0 2 2 (mRest 5) _ W hW.1.is (by decide) rfl).mono fun e w' ⟨he, hb⟩ => ⟨he, hW.1.below hb, hW.2.1, block_below hb hW.2.2⟩
  go_simp
  refine hK _ ?_
  clear hK K
  refine wpC_seg 3 _ _ _ (by kernel_rfl) ?_
  simp only [List.take_succ_cons, List.take_zero, List.drop_succ_cons, List.drop_zero, List.length_cons, List.length_nil, Nat.zero_add, Nat.reduceAdd]
  repeat (go_big_quiet_step (fail))
  refine wpQuiet_nil ?_
  refine wpC_nil ?_
  rintro W3 ⟨hM3, hxp, hx3⟩
  clear HM HX nb
  go_wp2_with (first
    | (refine wpList_load_mid rfl 39 (.tmp 3) rfl (m + 1) 0 rfl (idOf 1 0 2 2 (mRest 5)) _ (range_of_block hx3 0 _ (fun j hj => by rw [Nat.zero_add])) Try.underlying39 rfl sizeObj ?_)
    | (go_at_call 16; refine (set_ok p 1 0 2 2 (mRest 5) (sOne 4) _ hM3.is (by decide) rfl (mRest_one 5) rfl).mono ?_; rintro e w4 ⟨rfl, hg4, hP4⟩; have hM4 : Mid w w4 p m sTwo := hM3.grown hg4 hP4)
    | (go_at_call 19; refine (get_some p 1 0 _ 6 _ hM4.is (by decide) (by decide) (idOf 1 0 2 2 (mRest 5)) rfl).mono ?_; rintro e w5 ⟨rfl, hb5⟩; have hM5 := hM4.below hb5)
    | (refine wpList_store_new rfl 39 (.tmp 8) (.tmp 39) rfl _ (idOf 1 0 2 2 (mRest 5)).toArray ?x1 ?x2 sizeObj rfl (all_oneCell_toArray (mObj_one 5)) ?_; (case x1 => simp [Act.eval, Act.put]); (case x2 => simp [Act.eval, Act.put]); have hM6 := hM5.below (below_new (Below.refl _ _) (.cells (idOf 1 0 2 2 (mRest 5)).toArray 39)); have hx6 := heap_alloc_new w5 (.cells (idOf 1 0 2 2 (mRest 5)).toArray 39))
    | (refine wpList_build rfl 39 _ rfl #[(0, .agg #[.int .u16 0, .int .u16 0, .int .i64 2, .int .i64 0])] ?b1 (build_z _) ?_; (case b1 => simp [Act.eval, Act.put]))
    | (have _hm := hM11; go_at_call 15; refine (put_err (.pointer none) (.int .u16 1) (.int .u16 0) (.int .i64 2) (.int .i64 2) (mRest 4) 2 _ rfl (fun W _ => at_nil _ _ _ _ W)).mono ?_; rintro e w12 ⟨rfl, hb12⟩; have hM12 := hM11.below hb12)
    | (have _hm := hM12; go_at_call 22; refine (len_ok (.pointer none) rfl [] (by decide) _ (.inl ⟨rfl, rfl⟩)).mono ?_; rintro e w13 ⟨rfl, hb13⟩; have hM13 := hM12.below hb13)
    | (go_at_call 15; refine (put_err (.pointer (some ⟨p, 0, none⟩)) (.int .u16 0) (.int .u16 0) (.int .i64 2) (.int .i64 0) zRest 1 _ rfl (fun W hW => at_other p 1 0 0 0 2 0 sTwo W (hM6.is.below hW) (by decide) (by decide))).mono ?_; rintro e w7 ⟨rfl, hb7⟩; have hM7 := hM6.below hb7; have hx7 := block_below hb7 hx6)
    | (go_at_call 22; refine (len_ok (.pointer (some ⟨p, 0, none⟩)) rfl (present sTwo hM7.is.2 12) (by rw [present_two]; decide) _ (.inr ⟨p, 1, 0, sTwo, hM7.is, rfl, rfl⟩)).mono ?_; rintro e w8 ⟨rfl, hb8⟩; have hM8 := hM7.below hb8; have hx8 := block_below hb8 hx7; rw [present_two])
    | (go_at_call 18; refine (drop_none p 1 0 _ 6 _ hM9.is (by decide) (by decide) rfl).mono ?_; rintro e w10 ⟨rfl, hb10⟩; have hM10 := hM9.below hb10; have hx10 := block_below hb10 hx9; have hc10 : w10.cell? ⟨w5.heap.size, 6, none⟩ = some (.int .i64 5) := cell_of_row _ _ 6 _ _ _ hx10)
    | (go_at_call 18; refine (drop_ok p 1 0 sTwo 6 _ hM8.is (by decide) (by decide) rfl).mono ?_; rintro e w9 ⟨rfl, hg9, hP9⟩; have hM9 := hM8.grown hg9 hP9; have hx9 := keep_g hg9 hx8 (by have := hM5.is.lt; omega))
    | (go_at_call 12; refine (birth_ok p 1 0 _ _ hM10.is).mono ?_; rintro e w11 ⟨rfl, hb11⟩; have hM11 := hM10.below hb11)
    | (refine wpList_load_wanted 39 (.tmp 2) rfl (by kernel_rfl) m 0 rfl (idOf 1 0 2 2 (mRest 4)) _ (range_of_block hM11.mo 0 _ (fun j hj => by rw [Nat.zero_add])) Try.underlying39 rfl sizeObj ?_))
  go_ret
  exact ⟨rfl, hM13.b⟩
end Go.Proofs.Ytaapejhoegeimaa
