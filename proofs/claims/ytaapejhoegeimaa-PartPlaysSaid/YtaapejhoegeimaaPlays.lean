/- PartPlays: what its walk holds on the way; an act's kind. No conditions. -/
import Derived.Test.YtaapejhoegeimaaTiedb
import Derived.Test.YtaapejhoegeimaaRego
import Derived.Test.YtaapejhoegeimaaKeeps
namespace Go.Proofs.Ytaapejhoegeimaa
open Go.RowKit Go.Shelf Go.Proofs.YtaapejhoegeimaaW.PrintWords Go.Proofs.Ytaapejhoegeimaa.PPartPlays
open Plaw (lane FineP born laneP)
set_option linter.unusedSimpArgs false
set_option linter.unusedVariables false

/-- An act: its kind, its object, its lane. -/
def kAct : Kd (Int × S39 × Int) := Kd.pair (Kd.int .u8) (Kd.pair k39 (Kd.int .i64))
theorem kAct_sz : kAct.sz = 19 := by kernel_rfl
theorem kAct_heap : Kd.Heap kAct := Kd.heap_pair (Kd.heap_int .u8) (Kd.heap_pair k39_heap (Kd.heap_int .i64))
def okp (p r : Nat) : Nat → Prop := fun k => k ≠ p ∧ k ≠ r
/-- At the loop's head. -/
structure PlW (w W : World) (S I : Int) (p r : Nat) (A : Option Addr) (c : Nat) (st : Nat → Option (List Value)) (sto : Sto) : Prop where
  b : Below w.heap.size w W
  is : PartIs W p S I st
  rb : W.heap[r]? = some (.cells #[.int .u16 S, .int .u16 I, .slice A (lst sto).length c] 31 (0, 0))
  v : Kd.V k39 39 W 0 (okp p r) (.slice A (lst sto).length c) (lst sto)
  tie : Tied W (okp p r) S I st sto
  p0 : w.heap.size ≤ p
  r0 : w.heap.size ≤ r
  ne : p ≠ r
theorem PlW.lt {w W : World} {S I : Int} {p r : Nat} {A : Option Addr} {c : Nat} {st : Nat → Option (List Value)} {sto : Sto} (h : PlW w W S I p r A c st sto) : p < W.heap.size ∧ r < W.heap.size := ⟨h.is.lt, (Array.getElem?_eq_some_iff.1 h.rb).1⟩
theorem PlW.below {w W W' : World} {S I : Int} {p r : Nat} {A : Option Addr} {c : Nat} {st : Nat → Option (List Value)} {sto : Sto} (h : PlW w W S I p r A c st sto) (hb : Below W.heap.size W W') : PlW w W' S I p r A c st sto :=
  ⟨below_here h.b hb, h.is.below hb, block_below hb h.rb, Kd.V_below h.v hb, h.tie.step (fun k _ hk => hb.block k hk), h.p0, h.r0, h.ne⟩
theorem PlW.new_ok {w W : World} {S I : Int} {p r : Nat} {A : Option Addr} {c : Nat} {st : Nat → Option (List Value)} {sto : Sto} (h : PlW w W S I p r A c st sto) : ∀ k, W.heap.size ≤ k → okp p r k := fun k hk => by
  have := h.lt
  exact ⟨by omega, by omega⟩
/-- Between the two: the reference's answer lies in its own block (xb); the part and the variable (r) follow. -/
structure Half (w W : World) (S I : Int) (p r ab xb : Nat) (ac : List Value) (A : Option Addr) (c : Nat) (st' : Nat → Option (List Value)) (sto' : Sto) : Prop where
  b : Below w.heap.size w W
  hab : W.heap[ab]? = some (.cells ac.toArray 41 (0, 0))
  hxb : W.heap[xb]? = some (.cells #[.int .u16 S, .int .u16 I, .slice A (lst sto').length c] 31 (0, 0))
  v : Kd.V k39 39 W 0 (okp p r) (.slice A (lst sto').length c) (lst sto')
  tie : Tied W (okp p r) S I st' sto'
  p0 : w.heap.size ≤ p
  r0 : w.heap.size ≤ r
  ne : p ≠ r
  na : okp p r ab
  nx : okp p r xb
theorem Half.step {w W W' : World} {S I : Int} {p r ab xb : Nat} {ac : List Value} {A : Option Addr} {c : Nat} {st' : Nat → Option (List Value)} {sto' : Sto} (h : Half w W S I p r ab xb ac A c st' sto') (hb : Below w.heap.size w W') (hm : ∀ k, okp p r k → k < W.heap.size → W'.heap[k]? = W.heap[k]?) : Half w W' S I p r ab xb ac A c st' sto' :=
  ⟨hb, (hm ab h.na (Array.getElem?_eq_some_iff.1 h.hab).1).trans h.hab, (hm xb h.nx (Array.getElem?_eq_some_iff.1 h.hxb).1).trans h.hxb, Kd.V_step h.v hm, h.tie.step hm, h.p0, h.r0, h.ne, h.na, h.nx⟩
/-- The stages: 0: neither has turned; 1: the part; 2: the variable, too. -/
def Stage (w : World) (S I : Int) (p r ab xb : Nat) (ac : List Value) (A : Option Addr) (c : Nat) (st st' : Nat → Option (List Value)) (sto' : Sto) (j : Nat) (W : World) : Prop :=
  Half w W S I p r ab xb ac A c st' sto' ∧ PartIs W p S I (if 1 ≤ j then st' else st) ∧ ∃ rc : Array Value, W.heap[r]? = some (.cells rc 31 (0, 0)) ∧ rc.size = 3 ∧ (2 ≤ j → rc = #[.int .u16 S, .int .u16 I, .slice A (lst sto').length c])
theorem Stage.turn {w W W' : World} {S I : Int} {p r ab xb : Nat} {ac : List Value} {A : Option Addr} {c : Nat} {st st' : Nat → Option (List Value)} {sto' : Sto} (h : Stage w S I p r ab xb ac A c st st' sto' 0 W) (hg : W.grownBy W' (some p)) (hP : PartIs W' p S I st') : Stage w S I p r ab xb ac A c st st' sto' 1 W' := by
  obtain ⟨h1, h2, rc, h3, h4, _⟩ := h
  refine ⟨h1.step (below_grown h1.b hg h1.p0 h1.b.size) (fun k hk hl => hg.block k hl (fun e => hk.1 (Option.some.inj e))), hP, rc, ?_, h4, fun h => by omega⟩
  exact keep_g hg h3 (Ne.symm h1.ne)
theorem Stage.still {w W W' : World} {S I : Int} {p r ab xb : Nat} {ac : List Value} {A : Option Addr} {c : Nat} {st st' : Nat → Option (List Value)} {sto' : Sto} {j : Nat} (h : Stage w S I p r ab xb ac A c st st' sto' j W) (hb : Below W.heap.size W W') : Stage w S I p r ab xb ac A c st st' sto' j W' := by
  obtain ⟨h1, h2, rc, h3, h4, h5⟩ := h
  exact ⟨h1.step (below_here h1.b hb) (fun k _ hl => hb.block k hl), h2.below hb, rc, block_below hb h3, h4, h5⟩
theorem Stage.store {w W : World} {S I : Int} {p r ab xb : Nat} {ac : List Value} {A : Option Addr} {c : Nat} {st st' : Nat → Option (List Value)} {sto' : Sto} (h : Stage w S I p r ab xb ac A c st st' sto' 1 W) : Stage w S I p r ab xb ac A c st st' sto' 2 (W.setCells r 0 [.int .u16 S, .int .u16 I, .slice A (lst sto').length c]) := by
  obtain ⟨h1, h2, rc, h3, h4, _⟩ := h
  have hh : ∀ k, k ≠ r → (W.setCells r 0 [.int .u16 S, .int .u16 I, .slice A (lst sto').length c]).heap[k]? = W.heap[k]? := fun k hk => by
    simp only [World.setCells]
    rw [Below.heap_setCell _ _ _ _ (by simpa using hk), Below.heap_setCell _ _ _ _ (by simpa using hk), Below.heap_setCell _ _ _ _ (by simpa using hk)]
  obtain ⟨l⟩ := rc
  match l, h4, h3 with
  | [x, y, z], _, h3 =>
    exact ⟨h1.step (below_setCells h1.b h1.r0 0 _) (fun k hk _ => hh k hk.2), ⟨(hh p h1.ne).trans h2.1, h2.2⟩, #[.int .u16 S, .int .u16 I, .slice A (lst sto').length c], heap_setCells_same r _ [.int .u16 S, .int .u16 I, .slice A (lst sto').length c] 0 W [x, y, z] h3 (by simp), rfl, fun _ => rfl⟩
theorem Stage.done {w W : World} {S I : Int} {p r ab xb : Nat} {ac : List Value} {A : Option Addr} {c : Nat} {st st' : Nat → Option (List Value)} {sto' : Sto} (h : Stage w S I p r ab xb ac A c st st' sto' 2 W) : PlW w W S I p r A c st' sto' ∧ W.heap[ab]? = some (.cells ac.toArray 41 (0, 0)) := by
  obtain ⟨h1, h2, rc, h3, h4, h5⟩ := h
  rw [h5 (by omega)] at h3
  exact ⟨⟨h1.b, h2, h3, h1.v, h1.tie, h1.p0, h1.r0, h1.ne⟩, h1.hab⟩
section
variable {P : Program} {o : Oper} {a : Act}
/-- In a quiet walk: a load of one cell. -/
theorem run_loadVar_one (w : World) (b off : Nat) (ty : TypeId) (v : Value) (d : TypeDesc) (hc : w.cell? ⟨b, off, none⟩ = some v) (hu : P.underlying ty = some d) (hd : d.isRow = false) : (loadVar ty ⟨b, off, none⟩).run P w = .ok v w := by
  have hagg : (isAgg ty).run P w = .ok false w := by
    unfold isAgg
    rw [Sem.run_bind, run_underlying hu w]
    cases d <;> simp_all [TypeDesc.isRow]
  simp [loadVar, Sem.run_bind, hagg, hc]
theorem quiet_load_one {C : World → Prop} {K : Act → Prop} (ty : TypeId) (x : Operand) (ho : o.op = .load ty x) (b off : Nat) (hx : a.eval x = .pointer (some ⟨b, off, none⟩)) (v : Value) (d : TypeDesc) (hC : ∀ w, C w → w.cell? ⟨b, off, none⟩ = some v)
    (hu : P.underlying ty = some d) (hd : d.isRow = false) (hk : K (a.put o.dst v)) : o.quiet P a C K :=
  ⟨_, fun w hw => by
    unfold Oper.quietAt execOp
    simp only [ho, hx, Instr.loadAt, Instr.sureAddr, Sem.run_bind, Sem.run_pure, Result.andThen_ok, run_loadVar_one w b off ty v d (hC w hw) hu hd]
    exact ⟨rfl, rfl⟩, hk⟩
end
/-- One operation of the list that turns nothing. -/
theorem wpO_one {P : Program} {ops : Array Oper} {C : World → Prop} {T : List Nat} {Q : Exit → Act → World → Prop} {w : World} {i : Nat} {r : List Nat} {a : Act} {o : Oper} (ho : ops[i]? = some o) (hs : quietB ops T [i] = true)
    (h : wpQuiet P ops (fun w' => ∃ s : { w : World // C w }, w' = s.1) (fun a' => wpO P ops C T Q r a' w) [o] a) : wpO P ops C T Q (i :: r) a w := by
  refine wpO_seg 1 (i :: r) a hs ?_
  simp only [List.take_succ_cons, List.take_zero, opsAt, List.filterMap_cons, ho, List.filterMap_nil, List.drop_succ_cons, List.drop_zero]
  exact h
theorem wpO_still {P : Program} {ops : Array Oper} {C : World → Prop} {T : List Nat} {Q : Exit → Act → World → Prop} {w : World} {i : Nat} {r : List Nat} {a : Act} {o : Oper} (v : Value) (ho : ops[i]? = some o) (hT : T.contains i = false) (hw : Region.wanted o (yielded ops a.tmps) = true)
    (h : ∀ w, C w → (execOp a.eval o).run P w = .ok (.value v) w) (hn : wpO P ops C T Q r (a.put o.dst v) w) : wpO P ops C T Q (i :: r) a w := by
  unfold wpO
  rw [if_neg (by rw [hT]; exact Bool.false_ne_true)]
  exact ⟨o, v, ho, .inl ⟨hw, fun w hc => .inl (h w hc)⟩, hn⟩
theorem present_le12 (st : Nat → Option (List Value)) (h : PartWf st) : (present st h 12).length ≤ 12 := by
  unfold present
  refine Nat.le_trans (List.length_filterMap_le _ _) ?_
  simp
theorem sizePart : (Try.prog.info? 31).map (·.size) = some 3 := by kernel_rfl
theorem store_goes {w : World} {S I : Int} {p r ab xb : Nat} {ac : List Value} {A : Option Addr} {c : Nat} {st st' : Nat → Option (List Value)} {sto' : Sto} {o : Oper} {a : Act} {x y : Operand} (ho : o.op = .store 31 x y) (hx : a.eval x = .pointer (some ⟨r, 0, none⟩)) (hy : a.eval y = .agg #[.int .u16 S, .int .u16 I, .slice A (lst sto').length c])
    {W : World} (h : Stage w S I p r ab xb ac A c st st' sto' 1 W) : goesAt Try.prog o a (Stage w S I p r ab xb ac A c st st' sto' 2) W undef := by
  have h2 := h
  obtain ⟨h1, _, rc, h3, h4, _⟩ := h2
  have ht : W.there r 0 3 := there_of_block h3 0 3 (by omega)
  unfold goesAt execOp
  simp only [ho, hx, hy, Instr.storeAt, Instr.sureAddr, Sem.run_bind, Sem.run_pure, Result.andThen_ok, run_storeVar_mid W r 0 _ #[.int .u16 S, .int .u16 I, .slice A (lst sto').length c] ht sizePart (by simp [Value.oneCell'])]
  exact ⟨h.store, rfl⟩
end Go.Proofs.Ytaapejhoegeimaa
