/- Package part: All, as an iterator; Len. No conditions. -/
import Derived.Test.YtaapejhoegeimaaPartb
import Derived.Test.YtaapejhoegeimaaIn
namespace Go.Proofs.Ytaapejhoegeimaa
open Go.RowKit Go.Shelf
set_option linter.unusedSimpArgs false
attribute [local go_sem] Oper.semAt_some

/-- An object: seventeen cells. -/
abbrev Obj17 : Type := { x : List Value // x.length = 17 ∧ ∀ v ∈ x, v.oneCell' = true }
def objAt (st : Nat → Option (List Value)) (h : PartWf st) (k : Nat) : Option Obj17 :=
  match e : st k with
  | none => none
  | some o => some ⟨o, h k o e⟩
theorem objAt_none {st : Nat → Option (List Value)} (h : PartWf st) {k : Nat} (e : st k = none) : objAt st h k = none := by
  unfold objAt; split
  · rfl
  · rename_i o e'; rw [e] at e'; cases e'
theorem objAt_some {st : Nat → Option (List Value)} (h : PartWf st) {k : Nat} {o : List Value} (e : st k = some o) : objAt st h k = some ⟨o, h k o e⟩ := by
  unfold objAt; split
  · rename_i e'; rw [e] at e'; cases e'
  · rename_i o' e'
    have : o' = o := by rw [e] at e'; exact (Option.some.inj e').symm
    subst this; rfl
/-- What lies in the first n places. -/
def present (st : Nat → Option (List Value)) (h : PartWf st) (n : Nat) : List Obj17 := (List.range n).filterMap (objAt st h)
theorem present_succ (st : Nat → Option (List Value)) (h : PartWf st) (n : Nat) : present st h (n + 1) = present st h n ++ (objAt st h n).toList := by
  unfold present; rw [List.range_succ, List.filterMap_append]
  cases e : objAt st h n <;> simp [e]
theorem present_some {st : Nat → Option (List Value)} (h : PartWf st) {k : Nat} {o : List Value} (e : st k = some o) : ∃ x : Obj17, x.1 = o ∧ present st h (k + 1) = present st h k ++ [x] :=
  ⟨⟨o, h k o e⟩, rfl, by rw [present_succ, objAt_some h e]; rfl⟩
theorem present_no {st : Nat → Option (List Value)} (h : PartWf st) {k : Nat} (e : st k = none) : present st h (k + 1) = present st h k := by
  rw [present_succ, objAt_none h e]; simp
theorem present_prefix (st : Nat → Option (List Value)) (h : PartWf st) (m n : Nat) (hmn : m ≤ n) : present st h m <+: present st h n := by
  induction n with
  | zero => obtain rfl : m = 0 := by omega
            exact List.prefix_refl _
  | succ n ih =>
    by_cases e : m = n + 1
    · subst e; exact List.prefix_refl _
    · exact (ih (by omega)).trans (by rw [present_succ]; exact List.prefix_append _ _)

/-- Blocks p and b, if they are cells, lie as they lay. -/
def Keeps2 (p b : Nat) (W W' : World) : Prop := ∀ k, (k = p ∨ k = b) → ∀ c t fr, t ≠ 39 → W.heap[k]? = some (.cells c t fr) → W'.heap[k]? = some (.cells c t fr)
theorem keeps2_t {p b : Nat} {A B C : World} (h : Keeps2 p b A B) (k : Keeps2 p b B C) : Keeps2 p b A C := fun q hq c t fr ht he => k q hq c t fr ht (h q hq c t fr ht he)
theorem keeps2_b {p b : Nat} {w : World} (W : World) (l : Nat) (o o' : Obj) (_ : w.heap.size ≤ l) (h : W.heap[l]? = some o) (hc : o.isCells = false) (_ : o.isWalk = false) : Keeps2 p b W (W.putObj l o') := fun q _ c t fr _ he => by
  have hne : q ≠ l := fun e => by rw [e, h] at he; cases he; cases hc
  exact ((grownBy_putObj' W l o').block q (Array.getElem?_eq_some_iff.1 he).1 (fun e => hne (Option.some.inj e))).trans he
theorem keeps2_below {p b : Nat} {W W' : World} (h : Below W.heap.size W W') : Keeps2 p b W W' := fun q _ _ _ _ _ he => (h.block q (Array.getElem?_eq_some_iff.1 he).1).trans he
theorem keeps2_set {p b : Nat} (W : World) (g o : Nat) (v : Value) (hp : g ≠ p) (hb : g ≠ b) : Keeps2 p b W (W.setCell ⟨g, o, none⟩ v) := fun q hq _ _ _ _ he => by
  rw [Below.heap_setCell W ⟨g, o, none⟩ v q (by rcases hq with rfl | rfl <;> simp [Ne.symm hp, Ne.symm hb])]; exact he
theorem pw_cell {w W : World} (h : Below w.heap.size w W) {b o : Nat} {v : Value} (hc : w.cell? ⟨b, o, none⟩ = some v) : W.cell? ⟨b, o, none⟩ = some v := (h.cell (p := ⟨b, o, none⟩) (World.block_lt_of_cell? w _ hc)).trans hc
set_option maxRecDepth 100000 in
set_option maxHeartbeats 1000000 in
theorem all1_in (n : Nat) (l b p : Nat) (S I : Int) (st : Nat → Option (List Value)) (hw : PartWf st) (J Jx : List Obj17 → World → Prop)
    (hJb : ∀ pre W W', J pre W → Below W.heap.size W W' → J pre W')
    (hY : ∀ pre x W, J pre W → pre.length < (present st hw 12).length → YieldAt Fence.wide (n - 1) Try.prog l #[.agg x.1.toArray] W fun e W' =>
      (e = .returned (.bool true) ∧ J (pre ++ [x]) W' ∧ Keeps2 p b W W') ∨ (e = .returned (.bool false) ∧ Jx (pre ++ [x]) W'))
    (W : World) (hb : W.heap[b]? = some (.cells #[.pointer (some ⟨p, 0, none⟩)] 27 (0, 0))) (hP : PartIs W p S I st) (h0 : J [] W) :
    CallsIn Fence.wide n Try.prog 50 #[.func (.yield l) #[] #[], .pointer (some ⟨b, 0, none⟩)] W fun e W' => (∃ v, e = .returned v) ∧
      ((∃ ys, ys = present st hw 12 ∧ J ys W') ∨ (∃ pre, pre <+: present st hw 12 ∧ Jx pre W')) := by
  refine callsIn_of_wp Try.func50 rfl trivial ?_ rfl
  simp only [Try.ntmps50, List.size_toArray, List.length_cons, List.length_nil, Nat.reduceAdd, Nat.reduceSub, Array.replicate_succ, Array.replicate_zero, List.push_toArray, List.append_toArray, List.nil_append, List.cons_append]
  have HP := Lib.hid hP
  have HJ := Lib.hid h0
  have HB := Lib.hid hb
  clear hP h0 hb
  gi_wp2
  gi_loopw [6] (fun i wr => ∃ k : Nat, i = .int .i64 k ∧ k ≤ 12 ∧ Hid (PartIs wr p S I st) ∧ Hid (wr.heap[b]? = some (.cells #[.pointer (some ⟨p, 0, none⟩)] 27 (0, 0))) ∧ Hid (J (present st hw k) wr)) (fun i _ => 12 - (intOf i).toNat)
  case atStart => exact ⟨0, rfl, by omega, HP, HB, HJ⟩
  case round =>
    obtain ⟨k, rfl, hk, HP1, HB1, HJ1⟩ := hrel
    by_cases hk12 : k = 12
    · subst hk12
      gi_wp2
      go_end0
      exact ⟨⟨_, rfl⟩, .inl ⟨_, rfl, HJ1.out⟩⟩
    · have hlt : k < 12 := by omega
      have hcell := cell_of_one HB1.out
      have hg := get_in p S I st (k : Int) wr HP1.out (by omega) (by omega)
      rw [Int.toNat_natCast] at hg
      have HG := Lib.hid hg
      clear hg hk12
      cases e : st k with
      | none =>
        rw [e] at HG
        have E := Lib.hid e
        clear e
        gi_wp2_with (first | (refine ⟨trivial, (fun h => by cases h), ?_⟩; refine (callsIn_wide.2 HG.out).mono ?_; rintro e w1 ⟨rfl, hb1⟩) | (refine listIn_store_new rfl 39 (.tmp 4) (.tmp 13) rfl _ zobj.toArray ?x1 ?x2 sizeObj rfl (all_oneCell_toArray zobj_one) ?_; (case x1 => simp [Act.eval, Act.put]); (case x2 => simp [Act.eval, Act.put, objOf])))
        refine ⟨fun _ h => (by cases h), ?_⟩
        gi_wp2
        go_roundw
        case rel =>
          have hB := below_new hb1 (.cells zobj.toArray 39)
          refine ⟨k + 1, by go_num, by omega, HP1.out.below hB, block_below hB HB1.out, ?_⟩
          rw [present_no hw E.out]
          exact hJb _ _ _ HJ1.out hB
        case measure => simp [intOf]; omega
      | some o =>
        rw [e] at HG
        have E := Lib.hid e
        clear e
        obtain ⟨x, hx, hps⟩ := present_some hw E.out
        have hlen : (present st hw k).length < (present st hw 12).length := by
          have := (present_prefix st hw (k + 1) 12 (by omega)).length_le
          rw [hps, List.length_append, List.length_singleton] at this
          omega
        have HPS := Lib.hid hps
        have HX := Lib.hid hx
        clear hps hx
        gi_wp2_with (first | (refine ⟨trivial, (fun h => by cases h), ?_⟩; refine (callsIn_wide.2 HG.out).mono ?_; rintro e w1 ⟨rfl, hb1⟩) | (refine listIn_store_new rfl 39 (.tmp 4) (.tmp 13) rfl _ o.toArray ?x1 ?x2 ?x3 ?x4 (all_oneCell_toArray (hw k o E.out).2) ?_; (case x1 => simp [Act.eval, Act.put]); (case x2 => simp [Act.eval, Act.put, objOf]); (case x3 => rw [List.size_toArray, (hw k o E.out).1]; exact sizeObj); (case x4 => rw [List.size_toArray, List.size_toArray, (hw k o E.out).1]; rfl)) | (refine listIn_load_mid rfl 39 (.tmp 4) rfl _ 0 rfl o _ (range_of_block (heap_alloc_new _ _) 0 _ (fun j hj => by rw [Nat.zero_add])) Try.underlying39 rfl (by rw [(hw k o E.out).1]; exact sizeObj) ?_))
        have hB := below_new hb1 (.cells o.toArray 39)
        have hP2 := HP1.out.below hB
        have hb2 := block_below hB HB1.out
        obtain ⟨fn, tmps, assign, body, hy, hR⟩ := hY _ x _ (hJb _ _ _ HJ1.out hB) hlen
        rw [HX.out] at hy
        rw [hy, Oper.uponIn_round]
        refine ⟨(fun h => by cases h), ?_⟩
        refine hR.mono ?_
        rintro e W3 (⟨rfl, hJ3, hk3⟩ | ⟨rfl, hJx3⟩)
        · clear hy hR
          gi_wp2
          go_roundw
          case rel =>
            refine ⟨k + 1, by go_num, by omega, ⟨hk3 p (.inl rfl) _ _ _ (by decide) hP2.1, hP2.2⟩, hk3 b (.inr rfl) _ _ _ (by decide) hb2, ?_⟩
            rw [HPS.out]
            exact Lib.hid hJ3
          case measure => simp [intOf]; omega
        · clear hy hR
          gi_wp2
          refine bodyPost_ret (results_none rfl _ _ _) rfl ?_
          refine ⟨⟨_, rfl⟩, .inr ⟨_, ?_, hJx3⟩⟩
          have := present_prefix st hw (k + 1) 12 (by omega)
          rw [HPS.out] at this
          exact this
/-- What All hands back. -/
theorem all_ok (pv : Value) (hv : pv.oneCell' = true) (w : World) : Calls Try.prog 25 #[pv] w fun e w' => e = .returned (.func (.func 50) #[] #[.pointer (some ⟨w.heap.size, 0, none⟩)]) ∧ w' = w.alloc (.cells #[pv] 27) := by
  go_enter Try.func25, Try.ntmps25
  go_wp2_with fail
  go_ret
  exact ⟨rfl, rfl⟩
theorem all_stops (n : Nat) (b p : Nat) (S I : Int) (st : Nat → Option (List Value)) (w : World) (hP : PartIs w p S I st) (hb : w.heap[b]? = some (.cells #[.pointer (some ⟨p, 0, none⟩)] 27 (0, 0))) :
    SeqStopsK Fence.wide n Try.prog 50 #[.pointer (some ⟨b, 0, none⟩)] (fun x : Obj17 => #[.agg x.1.toArray]) (Keeps2 p b) (fun ys => ys = present st hP.2 12) (fun pre => pre <+: present st hP.2 12) (present st hP.2 12).length w := fun l J Jx W hW hJ _ hY h0 =>
  all1_in n l b p S I st hP.2 J Jx (fun pre W W' h hb => hJ pre W W' none h (grown_below hb none) (fun r e => by cases e)) hY W (block_below hW hb) (hP.below hW) h0
set_option maxRecDepth 100000 in
set_option maxHeartbeats 1000000 in
theorem all1_nil (n : Nat) (l b : Nat) (J : List Obj17 → World → Prop) (hJb : ∀ pre W W', J pre W → Below W.heap.size W W' → J pre W')
    (W : World) (hb : W.heap[b]? = some (.cells #[.pointer none] 27 (0, 0))) (h0 : J [] W) :
    CallsIn Fence.wide n Try.prog 50 #[.func (.yield l) #[] #[], .pointer (some ⟨b, 0, none⟩)] W fun e W' => (∃ v, e = .returned v) ∧ J [] W' := by
  refine callsIn_of_wp Try.func50 rfl trivial ?_ rfl
  simp only [Try.ntmps50, List.size_toArray, List.length_cons, List.length_nil, Nat.reduceAdd, Nat.reduceSub, Array.replicate_succ, Array.replicate_zero, List.push_toArray, List.append_toArray, List.nil_append, List.cons_append]
  have HJ := Lib.hid h0
  have HB := Lib.hid hb
  clear h0 hb
  gi_wp2
  gi_loopw [6] (fun i wr => ∃ k : Nat, i = .int .i64 k ∧ k ≤ 12 ∧ Hid (wr.heap[b]? = some (.cells #[.pointer none] 27 (0, 0))) ∧ Hid (J [] wr)) (fun i _ => 12 - (intOf i).toNat)
  case atStart => exact ⟨0, rfl, by omega, HB, HJ⟩
  case round =>
    obtain ⟨k, rfl, hk, HB1, HJ1⟩ := hrel
    by_cases hk12 : k = 12
    · subst hk12
      gi_wp2
      go_end0
      exact ⟨⟨_, rfl⟩, HJ1.out⟩
    · have hlt : k < 12 := by omega
      have hcell := cell_of_one HB1.out
      have HG := Lib.hid (get_out (.pointer none) (k : Int) wr (.inl rfl))
      clear hk12
      gi_wp2_with (first | (refine ⟨trivial, (fun h => by cases h), ?_⟩; refine (callsIn_wide.2 HG.out).mono ?_; rintro e w1 ⟨rfl, hb1⟩) | (refine listIn_store_new rfl 39 (.tmp 4) (.tmp 13) rfl _ zobj.toArray ?x1 ?x2 sizeObj rfl (all_oneCell_toArray zobj_one) ?_; (case x1 => simp [Act.eval, Act.put]); (case x2 => simp [Act.eval, Act.put])))
      refine ⟨fun _ h => (by cases h), ?_⟩
      gi_wp2
      go_roundw
      case rel =>
        have hB := below_new hb1 (.cells zobj.toArray 39)
        exact ⟨k + 1, by go_num, by omega, block_below hB HB1.out, hJb _ _ _ HJ1.out hB⟩
      case measure => simp [intOf]; omega
theorem all_stops_nil (n : Nat) (b p : Nat) (w : World) (hb : w.heap[b]? = some (.cells #[.pointer none] 27 (0, 0))) :
    SeqStopsK Fence.wide n Try.prog 50 #[.pointer (some ⟨b, 0, none⟩)] (fun x : Obj17 => #[.agg x.1.toArray]) (Keeps2 p b) (fun ys => ys = []) (fun pre => pre <+: []) 0 w := fun l J Jx W hW hJ _ hY h0 =>
  (all1_nil n l b J (fun pre W W' h hb => hJ pre W W' none h (grown_below hb none) (fun r e => by cases e)) W (block_below hW hb) h0).mono fun _ _ ⟨h1, h2⟩ => ⟨h1, .inl ⟨_, rfl, h2⟩⟩

/-- The part that a pointer leads to, nil let in: its objects. -/
def PartAt (w : World) (pv : Value) (xs : List Obj17) : Prop :=
  (pv = .pointer none ∧ xs = []) ∨ ∃ p S I st, ∃ h : PartIs w p S I st, pv = .pointer (some ⟨p, 0, none⟩) ∧ xs = present st h.2 12
theorem PartAt.below {w W : World} {pv : Value} {xs : List Obj17} (h : PartAt w pv xs) (hb : Below w.heap.size w W) : PartAt W pv xs := by
  rcases h with h | ⟨p, S, I, st, h, h1, h2⟩
  · exact .inl h
  · exact .inr ⟨p, S, I, st, h.below hb, h1, h2⟩
/-- The iterator's contract at either. -/
theorem all_seq (n : Nat) (b : Nat) (pv : Value) (xs : List Obj17) (w : World) (hP : PartAt w pv xs) (hb : w.heap[b]? = some (.cells #[pv] 27 (0, 0))) :
    ∃ p, (∀ g c t fr, w.heap[g]? = some (.cells c t fr) → t ≠ 86 → g ≠ b → g ≠ p) ∧ SeqStopsK Fence.wide n Try.prog 50 #[.pointer (some ⟨b, 0, none⟩)] (fun x : Obj17 => #[.agg x.1.toArray]) (Keeps2 p b) (fun ys => ys = xs) (fun pre => pre <+: xs) xs.length w := by
  rcases hP with ⟨rfl, rfl⟩ | ⟨p, S, I, st, h, rfl, rfl⟩
  · exact ⟨b, fun g c t fr _ _ h => h, all_stops_nil n b b w hb⟩
  · exact ⟨p, fun g c t fr hg ht _ e => by rw [e, h.1] at hg; injection hg with hg; injection hg with _ ht'; exact ht ht'.symm, all_stops n b p S I st w h hb⟩

set_option maxRecDepth 100000 in
set_option maxHeartbeats 2000000 in
theorem len_ok (pv : Value) (hv : pv.oneCell' = true) (xs : List Obj17) (hx : xs.length ≤ 12) (w : World) (hP : PartAt w pv xs) :
    Calls Try.prog 22 #[pv] w fun e w' => e = .returned (.int .i64 xs.length) ∧ Below w.heap.size w w' := by
  refine (callsIn_wide (n := 9)).1 ?_
  refine callsIn_of_wp_marks Try.func22 rfl trivial ?_ rfl
  simp only [Try.ntmps22, List.size_toArray, List.length_cons, List.length_nil, Nat.reduceAdd, Nat.reduceSub, Array.replicate_succ, Array.replicate_zero, List.push_toArray, List.append_toArray, List.nil_append, List.cons_append]
  have HP := Lib.hid hP
  have HV := Lib.hid hv
  clear hP hv
  gi_wp2_with (refine ⟨trivial, ?_⟩; refine (callsIn_wide.2 (all_ok pv HV.out _)).mono ?_; rintro e w1 ⟨rfl, rfl⟩)
  have hB0 : Below w.heap.size w ((w.alloc (.cells #[.int .i64 0] 3)).alloc (.cells #[pv] 27)) := below_new (below_new (Below.refl _ _) _) _
  obtain ⟨p, hpg, hseq⟩ := all_seq 8 (w.heap.size + 1) pv xs _ (HP.out.below hB0) (heap_alloc2_new w _ _)
  have hgp := hpg w.heap.size _ _ _ (heap_alloc2_old w _ _) (by decide) (by omega)
  refine wpIn_rangeFunc_ownF rfl (by omega) (gf := 50) (lb := #[.pointer (some ⟨w.heap.size + 1, 0, none⟩)]) rfl trivial (enters_of Try.func50 (by kernel_rfl) rfl)
    hseq keeps2_t keeps2_b (Below.refl _ _) (fun _ => rfl)
    (fun pre W => (W.cell? ⟨w.heap.size, 0, none⟩ = some (.int .i64 pre.length) ∧ W.frozen? ⟨w.heap.size, 0, none⟩ = false) ∧ Below w.heap.size w W)
    (fun _ _ _ => False)
    (OwnFrom.and (Own.from (fun s A B row hs hg hr => ⟨cell_kept hs.1 hg hr, (frozen_kept hs.1 hg hr).trans hs.2⟩) _) (ownFrom_below (Nat.le_refl _) (by simp; omega)))
    (fun _ _ _ _ _ hs _ _ => hs)
    ⟨⟨cell_of_one (heap_alloc2_old w _ _), free_of_one (heap_alloc2_old w _ _)⟩, hB0⟩
    (fun x => { tmps := #[pv, undef, .int .i64 0, .pointer (some ⟨w.heap.size, 0, none⟩), pv, .func (.func 50) #[] #[.pointer (some ⟨w.heap.size + 1, 0, none⟩)], .agg x.1.toArray, undef, undef, undef], defers := [] }) ?assign ?body ?done ?stop
  case assign =>
    intro l x W K hK
    gi_wp2
    simpa using hK
  case body =>
    rintro l pre x W ⟨⟨hc, hf⟩, hB⟩ hl
    have hl2 : pre.length < 12 := by omega
    gi_wp2
    exact ⟨KeepsOthers.setCell _ _ _, keeps2_set W _ _ _ hgp (by omega), ⟨by rw [List.length_append, List.length_singleton]; exact World.cell?_setCell_same' _ _ _ (by rw [hc]; rfl), by rw [World.frozen?_setCell]; exact hf⟩, hB.setCell (p := ⟨w.heap.size, 0, none⟩) (Nat.le_refl _) _⟩
  case done =>
    rintro D ys W hD rfl ⟨⟨hc, _⟩, hB⟩ hK
    gi_wp2
    refine ⟨by simp, .inl ⟨_, _, rfl, run_takeDeferred hK, ?_⟩⟩
    exact ⟨_, results_tmp rfl _ _ _, rfl, hB.trans (belowK_b (w := w) (Nat.le_refl _) W D _ _ (by simp at hD; omega) hK rfl rfl)⟩
  case stop =>
    rintro D c pre W _ _ h _
    exact h.elim
theorem below_put {B : Nat} {w W : World} (hB : B ≤ w.heap.size) {D : Nat} (hD : w.heap.size ≤ D) {o o' : Obj} (hK : W.heap[D]? = some o) (h1 : o.isCells = false) (h2 : o.isWalk = false) : Below B W (W.putObj D o') := belowK_b (w := w) hB W D _ _ hD hK h1 h2
theorem keeps2_row {p b : Nat} {A B : World} {n₀ size k : Nat} {v : Value} {xs : List Value} (hr : A.ownsRow n₀ 39 size v k xs) (hg : A.grownBy B v.ownBlock) : Keeps2 p b A B := fun q _ c t fr ht he => by
  refine (hg.block q (Array.getElem?_eq_some_iff.1 he).1 (fun e => ?_)).trans he
  rcases hr.2 with ⟨rfl, _⟩ | ⟨g, cap, cur, rfl, _, hgb, _⟩
  · simp [Value.ownBlock] at e
  · obtain rfl : q = g := by simpa [Value.ownBlock] using e
    rw [he] at hgb
    injection hgb with hgb
    injection hgb with _ h2
    exact ht h2
theorem news_block {w : World} {b : Nat} {C : List Value} {t : TypeId} {fr : Nat × Nat} (hb : w.heap[b]? = some (.cells C.toArray t fr)) : ∀ j u, C[j]? = some u → w.cell? ((⟨b, 0, none⟩ : Addr).add j) = some u := fun j u hu => by
  have h := range_of_block hb 0 C (fun j _ => by rw [Nat.zero_add]) j u hu
  rw [Nat.zero_add] at h
  by_cases e : j = 0
  · subst e; simpa [Addr.add] using h
  · simpa [Addr.add, e] using h
theorem info_obj : (Try.prog.info? 39).map (fun i => (i.zero, i.size, i.bytes)) = some (some (.agg zobj.toArray), 17, 160) := by kernel_rfl
theorem slice_obj (o : List Value) (h : o.length = 17) (W : World) : (Instr.buildSlice 29 1 #[(0, .agg o.toArray)]).run Try.prog W = .ok (.slice (some ⟨W.heap.size, 0, none⟩) 1 1) (W.alloc (.cells o.toArray 39)) := by
  rcases o with _ | ⟨x0, _ | ⟨x1, _ | ⟨x2, _ | ⟨x3, _ | ⟨x4, _ | ⟨x5, _ | ⟨x6, _ | ⟨x7, _ | ⟨x8, _ | ⟨x9, _ | ⟨x10, _ | ⟨x11, _ | ⟨x12, _ | ⟨x13, _ | ⟨x14, _ | ⟨x15, _ | ⟨x16, _ | ⟨y, t⟩⟩⟩⟩⟩⟩⟩⟩⟩⟩⟩⟩⟩⟩⟩⟩⟩⟩
  all_goals first | (simp at h; done) | (exfalso; simp at h; omega) | kernel_rfl
theorem listIn_buildSlice {F : Fence} {n : Nat} {P : Program} {ops : Array Oper} {rest : List Oper} {o : Oper} {a : Act} {w w' : World} {Q : Exit → Act → World → Prop} (hgd : Region.wanted o (yielded ops a.tmps) = true) (t : TypeId) (k : Nat) (parts : Array (Nat × Operand)) (ho : o.op = .buildSlice t k parts) (vals : Array (Nat × Value)) (hv : (parts.map fun (i, x) => (i, a.eval x)) = vals) {v : Value}
    (h : (Instr.buildSlice t k vals).run P w = .ok v w') (hk : wpListIn F n P ops Q rest (a.put o.dst v) w') : wpListIn F n P ops Q (o :: rest) a w :=
  listIn_run hgd (by rw [ho]; intro c; exact Op.noConfusion) (by rw [ho]; intro c; exact Op.noConfusion) (x := .value v) (by unfold execOp; simp only [ho]; rw [hv, Sem.run_bind, h]; simp only [Result.andThen_ok, Sem.run_pure]) (.inl rfl) hk
set_option maxRecDepth 100000 in
set_option maxHeartbeats 2000000 in
/-- 'all' of the statements' package: what a part's All goes through, as a slice of the call's own. -/
theorem allOf_ok (pv : Value) (hv : pv.oneCell' = true) (xs : List Obj17) (hx : xs.length ≤ 12) (w : World) (hP : PartAt w pv xs) :
    Calls Try.prog 24 #[pv] w fun e w' => ∃ v, e = .returned v ∧ w'.ownsRow w.heap.size 39 17 v xs.length (xs.flatMap (·.1)) ∧ Below w.heap.size w w' := by
  refine (callsIn_wide (n := 9)).1 ?_
  refine callsIn_of_wp_marks Try.func24 rfl trivial ?_ rfl
  simp only [Try.ntmps24, List.size_toArray, List.length_cons, List.length_nil, Nat.reduceAdd, Nat.reduceSub, Array.replicate_succ, Array.replicate_zero, List.push_toArray, List.append_toArray, List.nil_append, List.cons_append]
  have HP := Lib.hid hP
  have HV := Lib.hid hv
  clear hP hv
  gi_wp2_with (refine ⟨trivial, ?_⟩; refine (callsIn_wide.2 (all_ok pv HV.out _)).mono ?_; rintro e w1 ⟨rfl, rfl⟩)
  obtain ⟨i0, hi, hz0, hz1, hz2⟩ := info_parts info_obj
  have hB0 : Below w.heap.size w (((w.alloc (.cells #[.slice none 0 0] 29)).alloc (.cells #[.slice none 0 0] 29)).alloc (.cells #[pv] 27)) := below_new (below_new (below_new (Below.refl _ _) _) _) _
  have b0 : Boxed (((w.alloc (.cells #[.slice none 0 0] 29)).alloc (.cells #[.slice none 0 0] 29)).alloc (.cells #[pv] 27)) w.heap.size 29 (.slice none 0 0) := ((Boxed.new w _ _).alloc _).alloc _
  have b1 : Boxed (((w.alloc (.cells #[.slice none 0 0] 29)).alloc (.cells #[.slice none 0 0] 29)).alloc (.cells #[pv] 27)) (w.heap.size + 1) 29 (.slice none 0 0) := by
    have := Boxed.new (w.alloc (.cells #[.slice none 0 0] 29)) 29 (.slice none 0 0)
    rw [World.size_alloc] at this
    exact this.alloc _
  have b2 : Boxed (((w.alloc (.cells #[.slice none 0 0] 29)).alloc (.cells #[.slice none 0 0] 29)).alloc (.cells #[pv] 27)) (w.heap.size + 1 + 1) 27 pv := by
    have := Boxed.new ((w.alloc (.cells #[.slice none 0 0] 29)).alloc (.cells #[.slice none 0 0] 29)) 27 pv
    rw [World.size_alloc, World.size_alloc] at this
    exact this
  obtain ⟨p, hpg, hseq⟩ := all_seq 8 (w.heap.size + 1 + 1) pv xs _ (HP.out.below hB0) b2
  have hgp := hpg (w.heap.size + 1) _ _ _ b1 (by decide) (by omega)
  refine wpIn_rangeFunc_ownH rfl (by omega) (gf := 50) (lb := #[.pointer (some ⟨w.heap.size + 1 + 1, 0, none⟩)]) rfl trivial (enters_of Try.func50 (by kernel_rfl) rfl)
    hseq keeps2_t keeps2_b (Below.refl _ _) (fun _ => rfl)
    (fun pre W => ((∃ v, Boxed W (w.heap.size + 1) 29 v ∧ W.ownsRow w.heap.size 39 17 v pre.length (pre.flatMap (·.1)) ∧ True) ∧ Boxed W w.heap.size 29 (.slice none 0 0)) ∧ Below w.heap.size w W)
    (fun _ _ _ => False)
    (OwnFrom.and (OwnFrom.and (Own.from (holdsRow_own w.heap.size (w.heap.size + 1) 29 39 17 (fun pre : List Obj17 => pre.length) (fun pre : List Obj17 => pre.flatMap (·.1)) (fun _ _ => True)) _) (Own.from (boxed_own w.heap.size 29 (fun _ => .slice none 0 0)) _)) (ownFrom_below (Nat.le_refl _) (by simp; omega)))
    (fun _ _ _ _ _ hs _ _ => hs)
    ⟨⟨⟨_, b1, World.ownsRow_nil _ _ _ _, trivial⟩, b0⟩, hB0⟩
    (fun x a' W => ∃ Bx, W.heap[Bx]? = some (.cells x.1.toArray 39 (0, 0)) ∧ a' = { tmps := #[pv, undef, .pointer (some ⟨w.heap.size, 0, none⟩), .pointer (some ⟨w.heap.size + 1, 0, none⟩), .pointer (some ⟨Bx, 0, none⟩), pv, .func (.func 50) #[] #[.pointer (some ⟨w.heap.size + 1 + 1, 0, none⟩)], .agg x.1.toArray, undef, undef, undef, undef, undef, undef, undef, undef, undef], defers := [] })
    (fun x a' _ A B row hs hg hr => by
      obtain ⟨Bx, h1, h2⟩ := hs
      refine ⟨Bx, (hg.block Bx (Array.getElem?_eq_some_iff.1 h1).1 (fun e => ?_)).trans h1, h2⟩
      obtain ⟨_, o, ho, hc⟩ := hr Bx e.symm
      rw [h1] at ho; cases ho; cases hc) ?assign ?body ?done ?stop
  case assign =>
    rintro l pre x W K ⟨⟨⟨v, hv, hrow, _⟩, hb⟩, hB⟩ hK
    simp only [List.zip_toArray, List.zip_cons_cons, List.zip_nil_right, List.foldl_toArray', List.foldl_cons, List.foldl_nil, List.setIfInBounds_toArray, List.set_cons_succ, List.set_cons_zero]
    gi_wp2_with (refine listIn_store_new rfl 39 (.tmp 4) (.tmp 7) rfl _ x.1.toArray ?x1 ?x2 ?x3 ?x4 (all_oneCell_toArray x.2.2) ?_; (case x1 => simp [Act.eval, Act.put]); (case x2 => simp [Act.eval, Act.put]); (case x3 => rw [List.size_toArray, x.2.1]; exact sizeObj); (case x4 => rw [List.size_toArray, List.size_toArray, x.2.1]; rfl))
    exact hK _ _ ((KeepsOthers.alloc _ _).from _) (keeps2_below (below_new (Below.refl _ _) _)) ⟨⟨⟨v, hv.alloc _, hrow.alloc _, trivial⟩, hb.alloc _⟩, below_new hB _⟩ ⟨W.heap.size, heap_alloc_new W _, rfl⟩
  case body =>
    rintro l pre x a' W hl _ ⟨⟨⟨v, hv, hrow, _⟩, hb⟩, hB⟩ ⟨Bx, hX, rfl⟩ hlen
    have hp : pre.length < 12 := by omega
    have hsz := hB.size
    have hcv := hv.cell
    have hfv := hv.frozen
    obtain ⟨A0, c0, rfl⟩ : ∃ A c, v = .slice A pre.length c := by
      rcases hrow.2 with ⟨rfl, h⟩ | ⟨g, cap, cur, rfl, _⟩
      · exact ⟨none, 0, by rw [h]⟩
      · exact ⟨_, _, rfl⟩
    gi_wp2_with (first | (refine listIn_load_mid rfl 39 (.tmp 4) rfl Bx 0 rfl x.1 _ (range_of_block hX 0 _ (fun j hj => by rw [Nat.zero_add])) Try.underlying39 rfl (by rw [x.2.1]; exact sizeObj) ?_) | (refine listIn_buildSlice rfl 29 1 #[(0, .tmp 13)] rfl #[(0, .agg x.1.toArray)] ?b1 (slice_obj x.1 x.2.1 _) ?_; (case b1 => simp [Act.eval, Act.put])) | (gi_at_builtin; refine wpListIn_append_own _ rfl (.tmp 12) (.tmp 14) 29 rfl w.heap.size 39 i0 (.agg zobj.toArray) 17 160 Try.underlying29 hi hz0 hz1 hz2 rfl (by decide) (.slice A0 pre.length c0) pre.length (pre.flatMap (·.1)) ?c1 (hrow.alloc _) ⟨W.heap.size, 0, none⟩ 1 1 x.1 ?c2 ?c3 ?c4 x.2.2 ?c5 ?c6 ?c7 ?_; (case c1 => simp [Act.eval, Act.put]); (case c2 => simp [Act.eval, Act.put]); (case c3 => rw [x.2.1]); (case c4 => exact news_block (heap_alloc_new W _)); (case c5 => unfold maxLen; omega); (case c6 => omega); (case c7 => rw [World.size_alloc]; omega); intro v' w1 hown' hgrow _; obtain ⟨g', cap', rfl⟩ := ownsRow_succ hown'; obtain ⟨hv1, hv2, hr2, hk2, hb2⟩ := hv.appended (by decide) hrow hB.size (by omega) hown' hgrow; have hc1 := hv1.cell; have hf1 := hv1.frozen))
    have hb1 : Boxed w1 w.heap.size 29 (.slice none 0 0) := Boxed.kept (Boxed.alloc hb _) hgrow (hb.not_row (by decide) hrow)
    have hb3 : Boxed (w1.setCell ⟨w.heap.size + 1, 0, none⟩ (.slice (some ⟨g', 0, none⟩) (pre.length + 1) cap')) w.heap.size 29 (.slice none 0 0) := hb1.kept (grownBy_setCell' _ _ _) (by simp)
    exact ⟨hk2.from _, keeps2_t (keeps2_t (keeps2_below (below_new (Below.refl _ _) (.cells x.1.toArray 39))) (keeps2_row (hrow.alloc (.cells x.1.toArray 39)) hgrow)) (keeps2_set _ _ _ _ hgp (by omega)), ⟨⟨_, hv2, by rw [List.length_append, List.flatMap_append, List.length_singleton]; simpa using hr2, trivial⟩, hb3⟩, hB.trans hb2⟩
  case done =>
    rintro D ys W hD rfl ⟨⟨⟨v, hv, hrow, _⟩, hb⟩, hB⟩ hK
    obtain ⟨A0, c0, rfl⟩ : ∃ A c, v = .slice A ys.length c := by
      rcases hrow.2 with ⟨rfl, h⟩ | ⟨g, cap, cur, rfl, _⟩
      · exact ⟨none, 0, by rw [h]⟩
      · exact ⟨_, _, rfl⟩
    have hcv := hv.cell
    have hc0 := hb.cell
    have hf0 := hb.frozen
    gi_wp2
    have hDw : w.heap.size + 3 ≤ D := by simp at hD; omega
    have hK2 : (W.setCell ⟨w.heap.size, 0, none⟩ (.slice A0 ys.length c0)).heap[D]? = some (.deferred (some [])) := (Below.heap_setCell W ⟨w.heap.size, 0, none⟩ _ D (by simp; omega)).trans hK
    have hown2 : (W.setCell ⟨w.heap.size, 0, none⟩ (.slice A0 ys.length c0)).ownsRow w.heap.size 39 17 (.slice A0 ys.length c0) ys.length (ys.flatMap (·.1)) := hrow.kept (grownBy_setCell' W w.heap.size _) (.inr (hb.not_row (by decide) hrow).symm)
    have hB2 : Below w.heap.size w (W.setCell ⟨w.heap.size, 0, none⟩ (.slice A0 ys.length c0)) := hB.setCell (p := ⟨w.heap.size, 0, none⟩) (Nat.le_refl _) _
    refine ⟨by simp, .inl ⟨_, _, rfl, run_takeDeferred hK2, ?_⟩⟩
    refine ⟨_, ?_, _, rfl, ownsRow_putObj hown2 _ hK2 rfl, hB2.trans (belowK_b (w := w) (Nat.le_refl _) _ D _ _ (by omega) hK2 rfl rfl)⟩
    have hc := ((hb.set (.slice A0 ys.length c0)).kept (grownBy_putObj' _ D (.deferred none)) (by simp; omega)).cell
    simp [results, Try.f24, asAddr, go_sem, hc]
  case stop =>
    rintro D c pre W _ _ h _
    exact h.elim
end Go.Proofs.Ytaapejhoegeimaa
