/- A region that draws its order, by an invariant: its first n operations may come in any order that their edges allow; of each it is shown once, in whatever frame and world, that what it yields is as a list of facts says; the others follow in one forced order. No conditions. -/
import Derived.Test.YtlmacaenbililaaGreatDoorBase
namespace Go.Proofs.YtlmacaenbililaaGreatDoor
open Go.RowKit

/-- A fact about an operation's value, that stays true while memory grows. -/
structure Fact where
  R : Value → World → Prop
  st : ∀ v w w', R v w → Below w.heap.size w w' → R v w'
def Fact.is (c : Value) : Fact := ⟨fun v _ => v = c, fun _ _ _ h _ => h⟩
def Fact.any : Fact := ⟨fun _ _ => True, fun _ _ _ h _ => h⟩
def upd (v : Nat → Value) (j : Nat) (u : Value) : Nat → Value := fun i => if i = j then u else v i
def factAt (Fs : List Fact) (i : Nat) : Fact := Fs.getD i Fact.any
/-- The block that a value leads to. -/
def blk : Value → Option Nat
  | .pointer (some a) => some a.block
  | .slice (some a) _ _ => some a.block
  | _ => none
/-- What an operation does, told of its value. -/
def runsI (P : Program) (K : Value → World → Prop) : Result Next → Prop
  | .ok (.value u) w' => K u w'
  | .ok .skip w' => K undef w'
  | .ok (.enter f args) w' => Calls P f args w' fun e w'' => ∃ u, e = .returned u ∧ K u w''
  | _ => False
def stepI (P : Program) (ops : Array Oper) (o : Oper) (a : Act) (K : Value → World → Prop) (w : World) : Prop :=
  (Region.wanted o (yielded ops a.tmps) = true ∧ runsI P K ((execOp a.eval o).run P w)) ∨ (Region.wanted o (yielded ops a.tmps) = false ∧ K undef w)
theorem wpOp_of_step {P : Program} {ops : Array Oper} {Q : Exit → Act → World → Prop} {i : Nat} {o : Oper} {a : Act} {w : World} {K : Value → World → Prop} {K' : Act → World → Prop} (ho : ops[i]? = some o)
    (h : ∀ u w', K u w' → K' (a.put o.dst u) w') (hs : stepI P ops o a K w) : wpOp P ops Q i K' a w := by
  unfold wpOp
  simp only [ho]
  rcases hs with ⟨hw, hg⟩ | ⟨hw, hg⟩
  · rw [if_pos hw]
    refine .inl ?_
    unfold Oper.wp
    generalize (execOp a.eval o).run P w = r at *
    cases r with
    | ok n w' =>
      cases n <;> simp only [runsI] at hg <;> simp only [Oper.upon]
      case value u => exact h _ _ hg
      case skip => exact h _ _ hg
      case enter f args => exact hg.mono fun e w'' ⟨v, he, hk⟩ => by subst he; exact h _ _ hk
    | halt x w' => simp only [runsI] at hg
  · rw [if_neg (by rw [hw]; exact Bool.false_ne_true)]
    exact h _ _ hg
/-- Each edge of the first n operations leads back. -/
def backB (md : Region.Mode) (ops : Array Oper) (n : Nat) : Bool := (List.range n).all fun i => match ops[i]? with | some o => o.after.all fun e => !Region.binds md e || decide (e.on < i) | none => false
def fullL (ops : Array Oper) (n : Nat) : Array Bool := ((List.range ops.size).map fun i => decide (i < n)).toArray
def freeB (md : Region.Mode) (ops : Array Oper) (n : Nat) : Bool :=
  decide (n < ops.size) && Region.sinkB md ops n && Region.chainB md ops n && backB md ops n && Region.seqB md ops (ops.size - n) n (fullL ops n)
def openCount (L : Array Bool) (n : Nat) : Nat := ((List.range n).filter fun i => !L.getD i true).length
section
variable {P : Program} {ops : Array Oper} {md : Region.Mode} {Q : Exit → Act → World → Prop} {mk : (Nat → Value) → Act} {Φ : World → Prop} {Fs : List Fact} {S : List Nat}
/-- The first n operations, one by one. -/
def stepsI (P : Program) (ops : Array Oper) (md : Region.Mode) (mk : (Nat → Value) → Act) (Φ : World → Prop) (Fs : List Fact) (S : List Nat) : Nat → List Oper → Prop
  | _, [] => True
  | k, o :: r => ((∀ v u, (mk v).put o.dst u = mk (upd v k u)) ∧ ∀ v w, Φ w → (∀ e ∈ o.after, Region.binds md e = true → (factAt Fs e.on).R (v e.on) w) → stepI P ops o (mk v) (fun u w' => Φ w' ∧ Below w.heap.size w w' ∧ (factAt Fs k).R u w' ∧ (S.contains k = true → ∃ b, blk u = some b ∧ w.heap.size ≤ b ∧ b < w'.heap.size)) w) ∧ stepsI P ops md mk Φ Fs S (k + 1) r
theorem stepsI_at : ∀ (l : List Oper) (k j : Nat) (o : Oper), stepsI P ops md mk Φ Fs S k l → l[j]? = some o → ((∀ v u, (mk v).put o.dst u = mk (upd v (k + j) u)) ∧ ∀ v w, Φ w → (∀ e ∈ o.after, Region.binds md e = true → (factAt Fs e.on).R (v e.on) w) → stepI P ops o (mk v) (fun u w' => Φ w' ∧ Below w.heap.size w w' ∧ (factAt Fs (k + j)).R u w' ∧ (S.contains (k + j) = true → ∃ b, blk u = some b ∧ w.heap.size ≤ b ∧ b < w'.heap.size)) w)
  | [], _, _, _, _, h => by cases h
  | o :: l, k, 0, o', h, ho => by
    obtain rfl : o = o' := by simpa using ho
    exact h.1
  | o :: l, k, j + 1, o', h, ho => by
    have := stepsI_at l (k + 1) j o' h.2 (by simpa using ho)
    rw [show k + (j + 1) = k + 1 + j by omega]
    exact this
theorem open_pos {L : Array Bool} {n : Nat} (h : 0 < openCount L n) : ∃ i, i < n ∧ L.getD i true = false ∧ ∀ k, k < i → L.getD k true = true := by
  induction n with
  | zero => simp [openCount] at h
  | succ n ih =>
    by_cases h0 : 0 < openCount L n
    · obtain ⟨i, h1, h2, h3⟩ := ih h0
      exact ⟨i, by omega, h2, h3⟩
    · have h0 : openCount L n = 0 := by omega
      have hall : ∀ k, k < n → L.getD k true = true := fun k hk => by
        have := List.filter_eq_nil_iff.1 (List.length_eq_zero_iff.1 h0) k (List.mem_range.2 hk)
        simpa using this
      refine ⟨n, by omega, ?_, hall⟩
      unfold openCount at h h0
      rw [List.range_succ, List.filter_append, List.length_append, h0] at h
      by_cases hn : L.getD n true = false
      · exact hn
      · have hn' : L.getD n true = true := by simpa using hn
        simp only [List.filter_cons, List.filter_nil] at h
        rw [hn'] at h
        simp at h
theorem full_get {n i : Nat} (hi : i < n) (hn : n < ops.size) : (fullL ops n).getD i false = true := by
  have h1 : i < (fullL ops n).size := by simp [fullL]; omega
  have e : (fullL ops n)[i] = decide (i < n) := by simp [fullL]
  rw [Array.getD_eq_getD_getElem?, Array.getElem?_eq_getElem h1, Option.getD_some, e]
  simp [hi]
theorem open_zero {L : Array Bool} {n : Nat} (h : openCount L n = 0) : ∀ k, k < n → L.getD k true = true := fun k hk => by
  have := List.filter_eq_nil_iff.1 (List.length_eq_zero_iff.1 h) k (List.mem_range.2 hk)
  simpa using this
theorem open_set {L : Array Bool} {n j : Nat} (hj : j < n) (hL : L.getD j true = false) : openCount (L.setIfInBounds j true) n + 1 = openCount L n := by
  unfold openCount
  have hsz : j < L.size := by
    rcases Nat.lt_or_ge j L.size with h | h
    · exact h
    · simp [Array.getElem?_eq_none h] at hL
  induction n with
  | zero => omega
  | succ n ih =>
    rw [List.range_succ, List.filter_append, List.filter_append, List.length_append, List.length_append]
    by_cases hjn : j = n
    · subst hjn
      have e1 : (List.range j).filter (fun i => !(L.setIfInBounds j true).getD i true) = (List.range j).filter (fun i => !L.getD i true) := List.filter_congr fun i hi => by
        have := List.mem_range.1 hi
        rw [getD_set_ne true (by omega)]
      rw [e1]
      have e2 : (L.setIfInBounds j true).getD j true = true := by simp [hsz]
      simp only [List.filter_cons, List.filter_nil]
      rw [e2, hL]
      rfl
    · have := ih (by omega)
      have e2 : (L.setIfInBounds j true).getD n true = L.getD n true := getD_set_ne true (by omega)
      simp only [List.filter_cons, List.filter_nil]
      rw [e2]
      omega
theorem free_any (n : Nat) (hs : Region.sinkB md ops n = true) (hc : Region.chainB md ops n = true) (hn : n < ops.size) (hback : backB md ops n = true) (hseq : Region.seqB md ops (ops.size - n) n (fullL ops n) = true) (rest : List Oper) (hrest : ∀ j, rest[j]? = ops[n + j]?) (hlen : rest.length = ops.size - n)
    (hstep : ∀ j o, j < n → ops[j]? = some o → ((∀ v u, (mk v).put o.dst u = mk (upd v j u)) ∧ ∀ v w, Φ w → (∀ e ∈ o.after, Region.binds md e = true → (factAt Fs e.on).R (v e.on) w) → stepI P ops o (mk v) (fun u w' => Φ w' ∧ Below w.heap.size w w' ∧ (factAt Fs j).R u w' ∧ (S.contains j = true → ∃ b, blk u = some b ∧ w.heap.size ≤ b ∧ b < w'.heap.size)) w))
    (hend : ∀ v w, Φ w → (∀ i, i < n → (factAt Fs i).R (v i) w) → (∀ i j, S.contains i = true → S.contains j = true → i < n → j < n → i ≠ j → blk (v i) ≠ blk (v j)) → wpList P ops Q rest (mk v) w) :
    ∀ (f : Nat) (L : Array Bool) (v : Nat → Value) (w : World), openCount L n = f → HeadInv md ops n L → Φ w → (∀ i, L.getD i false = true → (factAt Fs i).R (v i) w) → (∀ i, S.contains i = true → L.getD i false = true → ∃ b, blk (v i) = some b ∧ b < w.heap.size) → (∀ i j, S.contains i = true → S.contains j = true → L.getD i false = true → L.getD j false = true → i ≠ j → blk (v i) ≠ blk (v j)) → wpAny P md ops Q (f + (ops.size - n)) L (mk v) w := by
  intro f
  induction f with
  | zero =>
    intro L v w hf inv hΦ hR hS hD
    have hall := open_zero hf
    have hLe : L = fullL ops n := by
      apply Array.ext
      · rw [inv.size]; simp [fullL]
      · intro i h1 h2
        rw [inv.size] at h1
        have e : (fullL ops n)[i] = decide (i < n) := by simp [fullL]
        rw [e]
        by_cases hi : i < n
        · have := hall i hi
          rw [show L[i] = true by simpa [Array.getElem?_eq_getElem (show i < L.size by rw [inv.size]; exact h1)] using this]
          simp [hi]
        · have := inv.tail i (by omega) h1
          rw [show L[i] = false by simpa [Array.getElem?_eq_getElem (show i < L.size by rw [inv.size]; exact h1)] using this]
          simp [hi]
    rw [Nat.zero_add, ← hlen]
    refine wpAny_of_seq rest n L (mk v) w hrest (by rw [hlen, hLe]; exact hseq) (hend v w hΦ (fun i hi => hR i (by rw [hLe]; exact full_get hi hn)) fun i j hi hj hin hjn hij => hD i j hi hj (by rw [hLe]; exact full_get hin hn) (by rw [hLe]; exact full_get hjn hn) hij)
  | succ f ih =>
    intro L v w hf inv hΦ hR hS hD
    obtain ⟨i0, hi0, hL0, hbefore⟩ := open_pos (L := L) (n := n) (by omega)
    rw [show f + 1 + (ops.size - n) = (f + (ops.size - n)) + 1 by omega]
    have hready : i0 ∈ Region.ready md ops L := by
      have hb := List.all_eq_true.1 hback i0 (List.mem_range.2 hi0)
      have hlt : i0 < ops.size := by omega
      rw [Array.getElem?_eq_getElem hlt] at hb
      refine mem_ready.2 ⟨hL0, ops[i0], Array.getElem?_eq_getElem hlt, fun e he hbd => ?_⟩
      have := Array.all_eq_true'.1 hb e he
      simp only [hbd, Bool.not_true, Bool.false_or, decide_eq_true_eq] at this
      have h2 := hbefore e.on this
      have h3 : e.on < L.size := by rw [inv.size]; omega
      simpa [Array.getElem?_eq_getElem h3] using h2
    refine ⟨fun h => (by rw [h] at hready; cases hready), fun j hj => ?_⟩
    have hjn : j < n := Nat.lt_of_not_le fun h => absurd hj (tail_waits hs hc hn inv _ i0 rfl hi0 hL0 j h)
    obtain ⟨hjun, oj, hoj, hall⟩ := mem_ready.1 hj
    obtain ⟨hput, hst⟩ := hstep j oj hjn hoj
    refine wpOp_of_step hoj (fun u w' ⟨h1, h2, h3, h4⟩ => ?_) (hst v w hΦ fun e he hb => hR _ (hall e he hb))
    rw [hput]
    refine ih _ _ _ ?_ (inv.set hj hjn) h1 (fun i hi => ?_) (fun i hi hL => ?_) (fun i k hi hk hLi hLk hik => ?_)
    · have := open_set hjn hjun; omega
    · unfold upd
      by_cases hij : i = j
      · subst hij; rw [if_pos rfl]; exact h3
      · rw [if_neg hij]
        rw [getD_set_ne false (by omega)] at hi
        exact (factAt Fs i).st _ _ _ (hR i hi) h2
    · unfold upd
      by_cases hij : i = j
      · subst hij
        obtain ⟨b, hb, _, hlt⟩ := h4 hi
        exact ⟨b, by rw [if_pos rfl]; exact hb, hlt⟩
      · rw [getD_set_ne false (by omega)] at hL
        obtain ⟨b, hb, hlt⟩ := hS i hi hL
        exact ⟨b, by rw [if_neg hij]; exact hb, Nat.lt_of_lt_of_le hlt h2.size⟩
    · unfold upd
      by_cases hij : i = j
      · subst hij
        rw [getD_set_ne false (by omega)] at hLk
        obtain ⟨b, hb, hge, _⟩ := h4 hi
        obtain ⟨c, hc', hlt⟩ := hS k hk hLk
        rw [if_pos rfl, if_neg (by omega), hb, hc']
        intro h
        have : b = c := by simpa using h
        omega
      · rw [getD_set_ne false (by omega)] at hLi
        by_cases hkj : k = j
        · subst hkj
          obtain ⟨b, hb, hge, _⟩ := h4 hk
          obtain ⟨c, hc', hlt⟩ := hS i hi hLi
          rw [if_neg hij, if_pos rfl, hb, hc']
          intro h
          have : c = b := by simpa using h
          omega
        · rw [getD_set_ne false (by omega)] at hLk
          rw [if_neg hij, if_neg hkj]
          exact hD i k hi hk hLi hLk hik
end
theorem wp_region_free {P : Program} {id : Nat} {Q : Exit → Act → World → Prop} {w : World} {l : List Oper} (n : Nat) (mk : (Nat → Value) → Act) (Φ : World → Prop) (Fs : List Fact) (S : List Nat) (v0 : Nat → Value) (hm : P.follows .mixedOrders = true) (hB : freeB .any l.toArray n = true) (hΦ : Φ w.drew)
    (hs : stepsI P l.toArray .any mk Φ Fs S 0 (l.take n)) (hend : ∀ v w, Φ w → (∀ i, i < n → (factAt Fs i).R (v i) w) → (∀ i j, S.contains i = true → S.contains j = true → i < n → j < n → i ≠ j → blk (v i) ≠ blk (v j)) → wpList P l.toArray Q (l.drop n) (mk v) w) : (Code.region id l.toArray true).wp P Q (mk v0) w := by
  simp only [freeB, Bool.and_eq_true, decide_eq_true_eq] at hB
  obtain ⟨⟨⟨⟨hn, hsk⟩, hc⟩, hbk⟩, hsq⟩ := hB
  have hn' : n < l.length := by simpa using hn
  refine wp_region_any hm ?_
  have inv0 : HeadInv .any l.toArray n (Array.replicate l.toArray.size false) :=
    ⟨by simp, fun j oj _ hl => (by rw [getD_replicate_false] at hl; cases hl), fun t _ ht => getD_in (by simpa using ht) (getD_replicate_false _ _)⟩
  have hcount : openCount (Array.replicate l.toArray.size false) n = n := by
    unfold openCount
    rw [List.filter_eq_self.2, List.length_range]
    intro i hi
    have := List.mem_range.1 hi
    rw [getD_in (by simp; omega) (getD_replicate_false _ _)]; rfl
  have := free_any (md := .any) (Q := Q) n hsk hc hn hbk hsq (l.drop n) (fun j => by simp [List.getElem?_drop]) (by simp) (fun j o hj ho => by
    have := stepsI_at (l.take n) 0 j o hs (by rw [List.getElem?_take_of_lt hj]; simpa using ho)
    rwa [Nat.zero_add] at this) hend n _ v0 w.drew hcount inv0 hΦ (fun i hi => by rw [getD_replicate_false] at hi; cases hi) (fun i _ hi => by rw [getD_replicate_false] at hi; cases hi) (fun i j _ _ hi => by rw [getD_replicate_false] at hi; cases hi)
  rw [show n + (l.toArray.size - n) = l.toArray.size from by omega] at this
  exact this
/-! ### The frame told by its slots -/
def setAll : List (Option Nat) → Nat → (Nat → Value) → Array Value → Array Value
  | [], _, _, t => t
  | none :: r, k, v, t => setAll r (k + 1) v t
  | some s :: r, k, v, t => setAll r (k + 1) v (t.setIfInBounds s (v k))
def mkA (slots : List (Option Nat)) (a : Act) (v : Nat → Value) : Act := { tmps := setAll slots 0 v a.tmps, defers := a.defers }
def asIs (slots : List (Option Nat)) (a : Act) : Nat → Value := fun i => match slots[i]? with | some (some s) => a.tmps.getD s undef | _ => undef
theorem wp_region_freeA {P : Program} {id : Nat} {Q : Exit → Act → World → Prop} {a : Act} {w : World} {l : List Oper} (n : Nat) (slots : List (Option Nat)) (Φ : World → Prop) (Fs : List Fact) (S : List Nat) (hm : P.follows .mixedOrders = true) (hB : freeB .any l.toArray n = true) (h0 : mkA slots a (asIs slots a) = a) (hΦ : Φ w.drew)
    (hs : stepsI P l.toArray .any (mkA slots a) Φ Fs S 0 (l.take n)) (hend : ∀ v w, Φ w → (∀ i, i < n → (factAt Fs i).R (v i) w) → (∀ i j, S.contains i = true → S.contains j = true → i < n → j < n → i ≠ j → blk (v i) ≠ blk (v j)) → wpList P l.toArray Q (l.drop n) (mkA slots a v) w) : (Code.region id l.toArray true).wp P Q a w := by
  rw [← h0]
  exact wp_region_free n (mkA slots a) Φ Fs S (asIs slots a) hm hB hΦ hs hend
end Go.Proofs.YtlmacaenbililaaGreatDoor
