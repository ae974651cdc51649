/- PartKeeps: what its walk holds on the way. No conditions. -/
import Derived.Test.YtaapejhoegeimaaPartd
namespace Go.Proofs.Ytaapejhoegeimaa
open Go.RowKit Go.Shelf
set_option linter.unusedSimpArgs false
set_option linter.unusedVariables false

def hset (h : Nat → Nat) (k v : Nat) : Nat → Nat := fun j => if j = k then v else h j
def kObj (S I : Int) (k s : Nat) : List Value := idOf S I ((k : Int) / 4 + 1) ((k : Int) % 4) (mRest (s : Int))
def kSt (S I : Int) (h : Nat → Nat) : Nat → Option (List Value) := fun k => if h k = 0 then none else some (kObj S I k (h k))
def kHas (h : Nat → Nat) : List Value := (List.range 12).map fun k => .int .i64 (h k : Int)
theorem kSt_set (S I : Int) (h : Nat → Nat) (k v : Nat) (hv : v ≠ 0) : upd (kSt S I h) k (some (kObj S I k v)) = kSt S I (hset h k v) := by
  funext j
  unfold upd kSt hset
  by_cases e : j = k
  · subst e; simp [hv]
  · simp [e]
theorem kSt_zero (S I : Int) (h : Nat → Nat) (k : Nat) : upd (kSt S I h) k none = kSt S I (hset h k 0) := by
  funext j
  unfold upd kSt hset
  by_cases e : j = k
  · subst e; simp
  · simp [e]
theorem kSt_none {S I : Int} {h : Nat → Nat} {k : Nat} (e : h k = 0) : kSt S I h k = none := by simp [kSt, e]
theorem kSt_some {S I : Int} {h : Nat → Nat} {k : Nat} (e : h k ≠ 0) : kSt S I h k = some (kObj S I k (h k)) := by simp [kSt, e]
theorem kHas_set (h : Nat → Nat) (k v : Nat) (hk : k < 12) : (kHas h).set k (.int .i64 (v : Int)) = kHas (hset h k v) := by
  apply List.ext_getElem
  · simp [kHas]
  · intro j h1 h2
    simp only [kHas, List.getElem_set, List.getElem_map, List.getElem_range, hset]
    by_cases e : k = j
    · subst e; simp
    · have : ¬ j = k := fun e' => e e'.symm
      simp [e, this]
theorem kHas_at (h : Nat → Nat) (k : Nat) (hk : k < 12) : (kHas h).toArray[k]? = some (.int .i64 (h k : Int)) := by
  simp [kHas, hk]
theorem k_lane (k : Nat) (hk : k < 12) : laneOf ((k : Int) / 4 + 1) ((k : Int) % 4) = k := by unfold laneOf; omega
theorem k_fine (k : Nat) (hk : k < 12) : Fine ((k : Int) / 4 + 1) ((k : Int) % 4) := by unfold Fine; omega
theorem build_k (S I q r s : Int) (W : World) : (Instr.build 39 #[(0, .agg #[.int .u16 S, .int .u16 I, .int .i64 q, .int .i64 r]), (2, .int .i64 s)]).run Try.prog W = .ok (.agg (idOf S I q r (mRest s)).toArray) W := by kernel_rfl
theorem idOf_one (S I q r s : Int) : ∀ v ∈ idOf S I q r (mRest s), v.oneCell' = true := by simp [idOf, mRest, Value.oneCell']
theorem set_block {w : World} {b k : Nat} {C : List Value} {t : TypeId} {v : Value} (h : w.heap[b]? = some (.cells C.toArray t (0, 0))) : (w.setCell ⟨b, k, none⟩ v).heap[b]? = some (.cells (C.set k v).toArray t (0, 0)) := by
  obtain ⟨hlt, hk⟩ := Array.getElem?_eq_some_iff.1 h
  show (w.heap.modify b _)[b]? = _
  rw [Array.getElem?_eq_getElem (by rw [Array.size_modify]; exact hlt), Array.getElem_modify_self, hk]
  simp
theorem get_none (p : Nat) (S I : Int) (st : Nat → Option (List Value)) (l : Int) (w : World) (hP : PartIs w p S I st) (h0 : 0 ≤ l) (h1 : l < 12) (ho : st l.toNat = none) :
    Calls Try.prog 19 #[.pointer (some ⟨p, 0, none⟩), .int .i64 l] w fun e w' => e = .returned (.tuple #[.agg zobj.toArray, .bool false]) ∧ Below w.heap.size w w' := by
  have := get_in p S I st l w hP h0 h1
  rw [ho] at this
  exact this
/-- On the way. -/
structure KW (w W : World) (S I s : Int) (p bh : Nat) (h : Nat → Nat) : Prop where
  b : Below w.heap.size w W
  is : PartIs W p S I (kSt S I h)
  has : W.heap[bh]? = some (.cells (kHas h).toArray 58 (0, 0))
  lab : W.heap[w.heap.size]? = some (.cells #[.int .u16 S, .int .u16 I] 24 (0, 0))
  stp : W.heap[w.heap.size + 1]? = some (.cells #[.int .u8 s] 5 (0, 0))
  p0 : w.heap.size + 2 ≤ p
  h0 : p < bh
theorem KW.below {w W W' : World} {S I s : Int} {p bh : Nat} {h : Nat → Nat} (k : KW w W S I s p bh h) (hb : Below W.heap.size W W') : KW w W' S I s p bh h :=
  ⟨below_here k.b hb, k.is.below hb, block_below hb k.has, block_below hb k.lab, block_below hb k.stp, k.p0, k.h0⟩
theorem KW.grown {w W W' : World} {S I s : Int} {p bh : Nat} {h : Nat → Nat} (k : KW w W S I s p bh h) (hg : W.grownBy W' (some p)) {st : Nat → Option (List Value)} (hP : PartIs W' p S I st) :
    Below w.heap.size w W' ∧ W'.heap[bh]? = some (.cells (kHas h).toArray 58 (0, 0)) ∧ W'.heap[w.heap.size]? = some (.cells #[.int .u16 S, .int .u16 I] 24 (0, 0)) ∧ W'.heap[w.heap.size + 1]? = some (.cells #[.int .u8 s] 5 (0, 0)) :=
  ⟨below_grown k.b hg (by have := k.p0; omega) k.b.size, keep_g hg k.has (by have := k.h0; omega), keep_g hg k.lab (by have := k.p0; omega), keep_g hg k.stp (by have := k.p0; omega)⟩
/-- The part is turned at a place, then the row of numbers. -/
theorem KW.both {w W W' : World} {S I s : Int} {p bh : Nat} {h : Nat → Nat} (k : KW w W S I s p bh h) (hg : W.grownBy W' (some p)) {j v : Nat} (hj : j < 12) (hP : PartIs W' p S I (kSt S I (hset h j v))) :
    KW w (W'.setCell ⟨bh, j, none⟩ (.int .i64 (v : Int))) S I s p bh (hset h j v) := by
  obtain ⟨h1, h2, h3, h4⟩ := k.grown hg hP
  have hp := k.p0
  have hh := k.h0
  refine ⟨h1.setCell (p := ⟨bh, j, none⟩) (by simp; omega) _, ⟨(Below.heap_setCell W' ⟨bh, j, none⟩ _ p (by simp; omega)).trans hP.1, hP.2⟩, ?_, (Below.heap_setCell W' ⟨bh, j, none⟩ _ _ (by simp; omega)).trans h3, (Below.heap_setCell W' ⟨bh, j, none⟩ _ _ (by simp; omega)).trans h4, hp, hh⟩
  rw [← kHas_set h j v hj]
  exact set_block h2
theorem KW.at {w W : World} {S I s : Int} {p bh : Nat} {h : Nat → Nat} (k : KW w W S I s p bh h) {j : Nat} (hj : j < 12) : W.cell? ⟨bh, j, none⟩ = some (.int .i64 (h j : Int)) := by
  rw [cell_of_row W bh j _ _ _ k.has]; exact kHas_at h j hj
theorem KW.free {w W : World} {S I s : Int} {p bh : Nat} {h : Nat → Nat} (k : KW w W S I s p bh h) {j : Nat} (hj : j < 12) : W.frozen? ⟨bh, j, none⟩ = false := by
  have h := (there_of_block k.has 0 12 (by simp [kHas])) j hj
  simpa using h.2
theorem KW.lab0 {w W : World} {S I s : Int} {p bh : Nat} {h : Nat → Nat} (k : KW w W S I s p bh h) : W.cell? ⟨w.heap.size, 0, none⟩ = some (.int .u16 S) := by rw [cell_of_row W _ 0 _ _ _ k.lab]; rfl
theorem KW.lab1 {w W : World} {S I s : Int} {p bh : Nat} {h : Nat → Nat} (k : KW w W S I s p bh h) : W.cell? ⟨w.heap.size, 1, none⟩ = some (.int .u16 I) := by rw [cell_of_row W _ 1 _ _ _ k.lab]; rfl
theorem KW.stp0 {w W : World} {S I s : Int} {p bh : Nat} {h : Nat → Nat} (k : KW w W S I s p bh h) : W.cell? ⟨w.heap.size + 1, 0, none⟩ = some (.int .u8 s) := by rw [cell_of_row W _ 0 _ _ _ k.stp]; rfl
end Go.Proofs.Ytaapejhoegeimaa
