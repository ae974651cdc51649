/- Graphs of roles: what is reached from a set within a set; plain laws. Policies as plain data, and their cells; what is seen, reached, owned: plain laws. The matrix of a policy: what a role may that others may not, who has a capability, what all together own; plain laws. Policies that came in, opened. No conditions. -/
import Derived.Test.YtlmacaenbililaaGreatDoorTfun
import Derived.Test.YtlmacaenbililaaGreatDoorLgfirst
import Derived.Test.YtlmacaenbililaaGreatDoorKe
import Derived.Test.YtlmacaenbililaaGreatDoorKl
import Derived.OpenShut
namespace Go.Proofs.YtlmacaenbililaaGreatDoor.Gr
open Go.Proofs.YtlmacaenbililaaGreatDoor
set_option linter.unusedSimpArgs false
set_option linter.unusedVariables false

theorem bit_add {s t : Nat} (ht : t < 16) (i : Nat) : (s ||| 2 ^ t).testBit i = (s.testBit i || decide (t = i)) := by
  rw [Nat.testBit_or, Nat.testBit_two_pow]
/-- What is reached from the set S, along g, within w. -/
inductive Reach (g : List Nat) (w S : Nat) : Nat → Prop
  | start {r : Nat} : r < 16 → S.testBit r = true → w.testBit r = true → Reach g w S r
  | step {a b : Nat} : Reach g w S a → b < 16 → (g.getD a 0).testBit b = true → w.testBit b = true → Reach g w S b
theorem Reach.lt {g : List Nat} {w S r : Nat} (h : Reach g w S r) : r < 16 := by cases h <;> assumption
theorem Reach.within {g : List Nat} {w S r : Nat} (h : Reach g w S r) : w.testBit r = true := by cases h <;> assumption
theorem Reach.from {g : List Nat} {w S T r : Nat} (h : Reach g w S r) (hT : ∀ q, q < 16 → S.testBit q = true → w.testBit q = true → Reach g w T q) : Reach g w T r := by
  induction h with
  | start h1 h2 h3 => exact hT _ h1 h2 h3
  | step _ h1 h2 h3 ih => exact .step ih h1 h2 h3
/-- o is just what is reached. -/
def IsDown (g : List Nat) (w S o : Nat) : Prop := o < 65536 ∧ ∀ i, i < 16 → (o.testBit i = true ↔ Reach g w S i)
theorem IsDown.same {g : List Nat} {w S o p : Nat} (h : IsDown g w S o) (k : IsDown g w S p) : o = p := Tag.ext h.1 k.1 fun i hi => by
  rw [Bool.eq_iff_iff, h.2 i hi, k.2 i hi]
/-- What is added by one edge. -/
def step (g : List Nat) (w o a b : Nat) : Nat := if (o.testBit a && (w.testBit a && w.testBit b && (g.getD a 0).testBit b)) = true then o ||| 2 ^ b else o
def rowTo (g : List Nat) (w o a : Nat) : Nat → Nat
  | 0 => o
  | k + 1 => step g w (rowTo g w o a k) a k
def allTo (g : List Nat) (w o : Nat) : Nat → Nat
  | 0 => o
  | k + 1 => rowTo g w (allTo g w o k) k 16
def downN (g : List Nat) (w S : Nat) : Nat → Nat
  | 0 => S &&& w
  | k + 1 => allTo g w (downN g w S k) 16
def down (g : List Nat) (w S : Nat) : Nat := downN g w S 16
def le (o p : Nat) : Prop := ∀ i, o.testBit i = true → p.testBit i = true
theorem le_refl (o : Nat) : le o o := fun _ h => h
theorem le_trans {a b c : Nat} (h : le a b) (k : le b c) : le a c := fun i hi => k i (h i hi)
theorem step_le (g : List Nat) (w o a b : Nat) : le o (step g w o a b) := by
  intro i hi
  unfold step
  split
  · rw [Nat.testBit_or, hi, Bool.true_or]
  · exact hi
theorem step_lt {g : List Nat} {w o a b : Nat} (h : o < 65536) (hb : b < 16) : step g w o a b < 65536 := by
  unfold step
  split
  · exact Nat.or_lt_two_pow (n := 16) h (Nat.pow_lt_pow_right (by omega) hb)
  · exact h
theorem step_in {g : List Nat} {w S o a b : Nat} (hb : b < 16) (h : ∀ i, o.testBit i = true → Reach g w S i) : ∀ i, (step g w o a b).testBit i = true → Reach g w S i := by
  intro i hi
  unfold step at hi
  split at hi
  · rename_i hc
    rw [bit_add hb] at hi
    simp only [Bool.and_eq_true, Bool.or_eq_true, decide_eq_true_eq] at hc hi
    rcases hi with hi | rfl
    · exact h i hi
    · exact .step (h a hc.1) hb hc.2.2 hc.2.1.2
  · exact h i hi
theorem rowTo_le (g : List Nat) (w o a : Nat) : ∀ k, le o (rowTo g w o a k)
  | 0 => le_refl _
  | k + 1 => le_trans (rowTo_le g w o a k) (step_le _ _ _ _ _)
theorem rowTo_lt {g : List Nat} {w o a : Nat} (h : o < 65536) : ∀ k, k ≤ 16 → rowTo g w o a k < 65536
  | 0, _ => h
  | k + 1, hk => step_lt (rowTo_lt h k (by omega)) (by omega)
theorem rowTo_in {g : List Nat} {w S o a : Nat} (h : ∀ i, o.testBit i = true → Reach g w S i) : ∀ k, k ≤ 16 → ∀ i, (rowTo g w o a k).testBit i = true → Reach g w S i
  | 0, _ => h
  | k + 1, hk => step_in (by omega) (rowTo_in h k (by omega))
theorem rowTo_mono (g : List Nat) (w o a : Nat) : ∀ {j k : Nat}, j ≤ k → le (rowTo g w o a j) (rowTo g w o a k)
  | j, 0, h => by
    obtain rfl : j = 0 := by omega
    exact le_refl _
  | j, k + 1, h => by
    by_cases e : j = k + 1
    · subst e; exact le_refl _
    · exact le_trans (rowTo_mono g w o a (by omega : j ≤ k)) (step_le _ _ _ _ _)
theorem allTo_le (g : List Nat) (w o : Nat) : ∀ k, le o (allTo g w o k)
  | 0 => le_refl _
  | k + 1 => le_trans (allTo_le g w o k) (rowTo_le _ _ _ _ _)
theorem allTo_lt {g : List Nat} {w o : Nat} (h : o < 65536) : ∀ k, allTo g w o k < 65536
  | 0 => h
  | k + 1 => rowTo_lt (allTo_lt h k) 16 (by omega)
theorem allTo_in {g : List Nat} {w S o : Nat} (h : ∀ i, o.testBit i = true → Reach g w S i) : ∀ k, ∀ i, (allTo g w o k).testBit i = true → Reach g w S i
  | 0 => h
  | k + 1 => rowTo_in (allTo_in h k) 16 (by omega)
theorem allTo_mono (g : List Nat) (w o : Nat) : ∀ {j k : Nat}, j ≤ k → le (allTo g w o j) (allTo g w o k)
  | j, 0, h => by
    obtain rfl : j = 0 := by omega
    exact le_refl _
  | j, k + 1, h => by
    by_cases e : j = k + 1
    · subst e; exact le_refl _
    · exact le_trans (allTo_mono g w o (by omega : j ≤ k)) (rowTo_le _ _ _ _ _)
theorem downN_lt {g : List Nat} {w S : Nat} (h : S < 65536) : ∀ k, downN g w S k < 65536
  | 0 => Nat.lt_of_le_of_lt Nat.and_le_left h
  | k + 1 => allTo_lt (downN_lt h k) 16
theorem down_lt {g : List Nat} {w S : Nat} (h : S < 65536) : down g w S < 65536 := downN_lt h 16
theorem downN_in {g : List Nat} {w S : Nat} (h : S < 65536) : ∀ k, ∀ i, (downN g w S k).testBit i = true → Reach g w S i
  | 0, i, hi => by
    unfold downN at hi
    rw [Nat.testBit_and, Bool.and_eq_true] at hi
    refine .start ?_ hi.1 hi.2
    rcases Nat.lt_or_ge i 16 with h1 | h1
    · exact h1
    · have : S.testBit i = false := Nat.testBit_lt_two_pow (Nat.lt_of_lt_of_le h (Nat.pow_le_pow_right (n := 2) (by omega) h1))
      rw [this] at hi
      cases hi.1
  | k + 1, i, hi => allTo_in (downN_in h k) 16 i hi
theorem downN_mono (g : List Nat) (w S : Nat) : ∀ k, le (S &&& w) (downN g w S k)
  | 0 => le_refl _
  | k + 1 => le_trans (downN_mono g w S k) (allTo_le _ _ _ _)
/-- Closed along the edges. -/
def Closed (g : List Nat) (w o : Nat) : Prop := ∀ a b, a < 16 → b < 16 → o.testBit a = true → w.testBit a = true → w.testBit b = true → (g.getD a 0).testBit b = true → o.testBit b = true
theorem closed_of_fix {g : List Nat} {w o : Nat} (ho : o < 65536) (h : allTo g w o 16 = o) : Closed g w o := by
  intro a b ha hb h1 h2 h3 h4
  have e1 : le (rowTo g w (allTo g w o a) a (b + 1)) (allTo g w o 16) := le_trans (rowTo_mono g w (allTo g w o a) a (show b + 1 ≤ 16 by omega)) (allTo_mono g w o (show a + 1 ≤ 16 by omega))
  rw [h] at e1
  refine e1 b ?_
  have e2 : (rowTo g w (allTo g w o a) a b).testBit a = true := rowTo_le _ _ _ _ _ a (allTo_le _ _ _ _ a h1)
  show (step g w (rowTo g w (allTo g w o a) a b) a b).testBit b = true
  unfold step
  rw [if_pos (by rw [e2, h2, h3, h4]; rfl), bit_add hb]
  simp
theorem filter_lt {α : Type} (p q : α → Bool) : ∀ (l : List α), (∀ x ∈ l, p x = true → q x = true) → (∃ x ∈ l, q x = true ∧ p x = false) → (l.filter p).length < (l.filter q).length
  | [], _, ⟨x, hx, _⟩ => by cases hx
  | y :: l, h, hx => by
    have hle : ∀ l : List α, (∀ x ∈ l, p x = true → q x = true) → (l.filter p).length ≤ (l.filter q).length := fun l => by
      induction l with
      | nil => exact fun _ => Nat.le_refl _
      | cons z l ih =>
        intro h
        have h1 := ih (fun x hx => h x (List.mem_cons_of_mem _ hx))
        have h2 := h z List.mem_cons_self
        rw [List.filter_cons, List.filter_cons]
        by_cases hp : p z = true
        · rw [if_pos hp, if_pos (h2 hp)]; simp; exact h1
        · rw [if_neg hp]
          split
          · simp; omega
          · exact h1
    have h1 := hle l (fun x hx => h x (List.mem_cons_of_mem _ hx))
    have h2 := h y List.mem_cons_self
    rw [List.filter_cons, List.filter_cons]
    obtain ⟨x, hx, hq, hp⟩ := hx
    rcases List.mem_cons.1 hx with rfl | hx
    · rw [if_neg (by rw [hp]; simp), if_pos hq]; simp; omega
    · have h3 := filter_lt p q l (fun x hx => h x (List.mem_cons_of_mem _ hx)) ⟨x, hx, hq, hp⟩
      by_cases hp : p y = true
      · rw [if_pos hp, if_pos (h2 hp)]; simp; exact h3
      · rw [if_neg hp]
        split
        · simp; omega
        · exact h3
theorem card_lt {o p : Nat} (ho : o < 65536) (hp : p < 65536) (h : le o p) (hne : o ≠ p) : (Tag.tags o).length < (Tag.tags p).length := by
  unfold Tag.tags
  refine filter_lt _ _ _ (fun x _ hx => h x hx) ?_
  refine Classical.byContradiction fun hc => hne (Tag.ext ho hp fun i hi => ?_)
  by_cases h1 : o.testBit i = true
  · rw [h1, h i h1]
  · by_cases h2 : p.testBit i = true
    · exact absurd ⟨i, List.mem_range.2 hi, h2, by simpa using h1⟩ hc
    · rw [Bool.eq_false_iff.2 h1, Bool.eq_false_iff.2 h2]
theorem full_of_card {o : Nat} (h : 16 ≤ (Tag.tags o).length) : ∀ i, i < 16 → o.testBit i = true := by
  intro i hi
  refine Classical.byContradiction fun hc => ?_
  have := filter_lt (fun t => o.testBit t) (fun _ => true) (List.range 16) (fun _ _ _ => rfl) ⟨i, List.mem_range.2 hi, rfl, by simpa using hc⟩
  rw [List.filter_eq_self.2 (fun _ _ => rfl), List.length_range] at this
  unfold Tag.tags at h
  omega
theorem downN_fix {g : List Nat} {w S : Nat} (h : S < 65536) : ∀ k, Closed g w (downN g w S k) ∧ allTo g w (downN g w S k) 16 = downN g w S k ∨ k ≤ (Tag.tags (downN g w S k)).length
  | 0 => .inr (Nat.zero_le _)
  | k + 1 => by
    rcases downN_fix h k with ⟨h1, h2⟩ | h1
    · left
      have e : downN g w S (k + 1) = downN g w S k := h2
      rw [e]; exact ⟨h1, h2⟩
    · by_cases hf : allTo g w (downN g w S k) 16 = downN g w S k
      · left
        have e : downN g w S (k + 1) = downN g w S k := hf
        rw [e]; exact ⟨closed_of_fix (downN_lt h k) hf, hf⟩
      · right
        have := card_lt (downN_lt h k) (allTo_lt (downN_lt h k) 16) (allTo_le g w _ 16) (fun e => hf e.symm)
        show k + 1 ≤ (Tag.tags (allTo g w (downN g w S k) 16)).length
        omega
theorem down_closed {g : List Nat} {w S : Nat} (h : S < 65536) : Closed g w (down g w S) := by
  rcases downN_fix (g := g) (w := w) h 16 with ⟨h1, _⟩ | h1
  · exact h1
  · exact fun a b _ hb _ _ _ _ => full_of_card h1 b hb
theorem down_is {g : List Nat} {w S : Nat} (h : S < 65536) : IsDown g w S (down g w S) := by
  refine ⟨down_lt h, fun i hi => ⟨fun hd => downN_in h 16 i hd, fun hr => ?_⟩⟩
  induction hr with
  | @start r h1 h2 h3 => exact downN_mono g w S 16 r (by rw [Nat.testBit_and, h2, h3]; rfl)
  | @step a b hr h1 h2 h3 ih => exact down_closed h a b hr.lt h1 (ih hr.lt) hr.within h3 h2
/-- What a search adds: from o to p, from the roles of which st is so. -/
def Found (g : List Nat) (w : Nat) (st : Nat → Prop) (o p : Nat) : Prop :=
  p < 65536 ∧ le o p ∧ (∀ r, r < 16 → st r → w.testBit r = true → p.testBit r = true) ∧
  (∀ a, a < 16 → p.testBit a = true → o.testBit a = false → ∃ r, r < 16 ∧ st r ∧ Reach g w (2 ^ r) a) ∧
  (∀ a b, a < 16 → b < 16 → p.testBit a = true → o.testBit a = false → (g.getD a 0).testBit b = true → w.testBit b = true → p.testBit b = true)
theorem Found.none {g : List Nat} {w o : Nat} (h : o < 65536) : Found g w (fun _ => False) o o :=
  ⟨h, le_refl _, fun _ _ h => h.elim, (fun a _ h1 h2 => absurd h1 (by rw [h2]; simp)), (fun a b _ _ h1 h2 => absurd h1 (by rw [h2]; simp))⟩
theorem Found.skip {g : List Nat} {w o r : Nat} (h : o < 65536) (hr : w.testBit r = false ∨ o.testBit r = true) : Found g w (fun q => q = r) o o :=
  ⟨h, le_refl _, fun q _ e hw => by
    subst e
    rcases hr with hr | hr
    · rw [hr] at hw; cases hw
    · exact hr, (fun a _ h1 h2 => absurd h1 (by rw [h2]; simp)), (fun a b _ _ h1 h2 => absurd h1 (by rw [h2]; simp))⟩
theorem Found.more {g : List Nat} {w : Nat} {st : Nat → Prop} {o p q x : Nat} (h : Found g w st o p) (k : Found g w (fun r => r = x) p q) : Found g w (fun r => st r ∨ r = x) o q := by
  obtain ⟨h1, h2, h3, h4, h5⟩ := h
  obtain ⟨k1, k2, k3, k4, k5⟩ := k
  refine ⟨k1, le_trans h2 k2, fun r hr hs hw => ?_, fun a ha hq ho => ?_, fun a b ha hb hq ho hg hw => ?_⟩
  · rcases hs with hs | hs
    · exact k2 r (h3 r hr hs hw)
    · exact k3 r hr hs hw
  · by_cases hp : p.testBit a = true
    · obtain ⟨r, hr, hs, hR⟩ := h4 a ha hp ho
      exact ⟨r, hr, .inl hs, hR⟩
    · obtain ⟨r, hr, hs, hR⟩ := k4 a ha hq (by simpa using hp)
      exact ⟨r, hr, .inr hs, hR⟩
  · by_cases hp : p.testBit a = true
    · exact k2 b (h5 a b ha hb hp ho hg hw)
    · exact k5 a b ha hb hq (by simpa using hp) hg hw
theorem Found.st {g : List Nat} {w : Nat} {st st' : Nat → Prop} {o p : Nat} (h : Found g w st o p) (e : ∀ r, st r ↔ st' r) : Found g w st' o p := by
  have : st = st' := funext fun r => propext (e r)
  rw [← this]; exact h
/-- One role is entered, then those for which it acts. -/
theorem Found.enter {g : List Nat} {w o p r : Nat} (hr : r < 16) (hw : w.testBit r = true) (ho : o.testBit r = false)
    (h : Found g w (fun q => (g.getD r 0).testBit q = true) (o ||| 2 ^ r) p) : Found g w (fun q => q = r) o p := by
  obtain ⟨h1, h2, h3, h4, h5⟩ := h
  have hpr : p.testBit r = true := h2 r (by rw [bit_add hr]; simp)
  refine ⟨h1, fun i hi => h2 i (by rw [bit_add hr, hi]; rfl), fun q _ e _ => by rw [e]; exact hpr, fun a ha hp hn => ?_, fun a b ha hb hp hn hg hwb => ?_⟩
  · by_cases e : r = a
    · subst e
      exact ⟨r, hr, rfl, .start hr (by simp) hw⟩
    · obtain ⟨q, hq, hs, hR⟩ := h4 a ha hp (by rw [bit_add hr, hn]; simp [e])
      refine ⟨r, hr, rfl, hR.from fun x hx hb1 hb2 => ?_⟩
      obtain rfl : q = x := by
        rw [Nat.testBit_two_pow] at hb1
        simpa using hb1
      exact .step (.start hr (by simp) hw) hx hs hb2
  · by_cases e : r = a
    · subst e
      exact h3 b hb hg hwb
    · exact h5 a b ha hb hp (by rw [bit_add hr, hn]; simp [e]) hg hwb
/-- A whole search finds what is reached. -/
theorem Found.down {g : List Nat} {w S p : Nat} (hS : S < 65536) (h : Found g w (fun r => S.testBit r = true) 0 p) : p = down g w S := by
  refine IsDown.same (g := g) (w := w) (S := S) ⟨h.1, fun i hi => ⟨fun hp => ?_, fun hR => ?_⟩⟩ (down_is hS)
  · obtain ⟨r, hr, hs, hR⟩ := h.2.2.2.1 i hi hp (by simp)
    refine hR.from fun x hx hb1 hb2 => ?_
    obtain rfl : r = x := by
      rw [Nat.testBit_two_pow] at hb1
      simpa using hb1
    exact .start hx hs hb2
  · induction hR with
    | start h1 h2 h3 => exact h.2.2.1 _ h1 h2 h3
    | @step a b hR h1 h2 h3 ih => exact h.2.2.2.2 a b hR.lt h1 (ih hR.lt) (by simp) h2 h3
/-- The graph the other way round. -/
def turned (g : List Nat) (q : Nat) : Nat := (List.range 16).foldl (fun o r => if (g.getD r 0).testBit q = true then o ||| 2 ^ r else o) 0
def turn (g : List Nat) : List Nat := (List.range 16).map (turned g)
theorem turned_fold (g : List Nat) (q : Nat) : ∀ (l : List Nat), (∀ r ∈ l, r < 16) → ∀ (o i : Nat), (l.foldl (fun o r => if (g.getD r 0).testBit q = true then o ||| 2 ^ r else o) o).testBit i = (o.testBit i || (decide (i ∈ l) && (g.getD i 0).testBit q))
  | [], _, o, i => by simp
  | r :: l, h, o, i => by
    rw [List.foldl_cons, turned_fold g q l (fun x hx => h x (List.mem_cons_of_mem _ hx))]
    cases hb : (g.getD r 0).testBit q with
    | true =>
      rw [if_pos rfl, bit_add (h r List.mem_cons_self)]
      by_cases e : r = i
      · subst e
        rw [hb]
        simp
      · simp [e, Ne.symm e]
    | false =>
      rw [if_neg (by simp)]
      by_cases e : r = i
      · subst e
        rw [hb]
        simp
      · simp [Ne.symm e]
theorem turned_bit (g : List Nat) (q i : Nat) (hi : i < 16) : (turned g q).testBit i = (g.getD i 0).testBit q := by
  unfold turned
  rw [turned_fold g q _ (fun r hr => List.mem_range.1 hr)]
  simp [hi]
theorem turned_lt (g : List Nat) (q : Nat) : turned g q < 65536 := by
  have : ∀ (l : List Nat), (∀ r ∈ l, r < 16) → ∀ o, o < 65536 → l.foldl (fun o r => if (g.getD r 0).testBit q = true then o ||| 2 ^ r else o) o < 65536 := fun l => by
    induction l with
    | nil => exact fun _ o h => h
    | cons r l ih =>
      intro hl o ho
      rw [List.foldl_cons]
      refine ih (fun x hx => hl x (List.mem_cons_of_mem _ hx)) _ ?_
      split
      · exact Nat.or_lt_two_pow (n := 16) ho (Nat.pow_lt_pow_right (by omega) (hl r List.mem_cons_self))
      · exact ho
  exact this _ (fun r hr => List.mem_range.1 hr) 0 (by omega)
theorem turn_get (g : List Nat) {q : Nat} (hq : q < 16) : (turn g).getD q 0 = turned g q := by
  unfold turn
  rw [List.getD_eq_getElem?_getD, List.getElem?_map, List.getElem?_range hq]
  rfl
theorem reach_turn {g : List Nat} {w r a : Nat} (hr : r < 16) : Reach (turn g) w (2 ^ r) a → Reach g w (2 ^ a) r := by
  intro h
  induction h with
  | @start x h1 h2 h3 =>
    obtain rfl : r = x := by rw [Nat.testBit_two_pow] at h2; simpa using h2
    exact .start h1 h2 h3
  | @step a b hR h1 h2 h3 ih =>
    rw [turn_get g hR.lt, turned_bit g a b h1] at h2
    refine ih.from fun x hx e1 e2 => ?_
    obtain rfl : a = x := by rw [Nat.testBit_two_pow] at e1; simpa using e1
    exact .step (.start h1 (by simp) h3) hx h2 e2
theorem reach_back {g : List Nat} {w r a : Nat} (ha : a < 16) : Reach g w (2 ^ a) r → Reach (turn g) w (2 ^ r) a := by
  intro h
  induction h with
  | @start x h1 h2 h3 =>
    obtain rfl : a = x := by rw [Nat.testBit_two_pow] at h2; simpa using h2
    exact .start h1 h2 h3
  | @step c b hR h1 h2 h3 ih =>
    refine ih.from fun x hx e1 e2 => ?_
    obtain rfl : c = x := by rw [Nat.testBit_two_pow] at e1; simpa using e1
    refine .step (.start h1 (by simp) h3) hx ?_ e2
    rw [turn_get g h1, turned_bit g b c hx]
    exact h2
/-- Who acts for a role: just those from which it is reached. -/
theorem up_bit {g : List Nat} {w r a : Nat} (hr : r < 16) (ha : a < 16) : (down (turn g) w (2 ^ r)).testBit a = (down g w (2 ^ a)).testBit r := by
  have p16 : ∀ {x : Nat}, x < 16 → 2 ^ x < 65536 := fun h => Nat.pow_lt_pow_right (n := 16) (by omega) h
  rw [Bool.eq_iff_iff, (down_is (g := turn g) (w := w) (p16 hr)).2 a ha, (down_is (g := g) (w := w) (p16 ha)).2 r hr]
  exact ⟨reach_turn hr, reach_back ha⟩
end Go.Proofs.YtlmacaenbililaaGreatDoor.Gr
namespace Go.Proofs.YtlmacaenbililaaGreatDoor
open Go.RowKit
theorem p16 {x : Nat} (h : x < 16) : 2 ^ x < 65536 := Nat.pow_lt_pow_right (n := 16) (by omega) h
namespace Pol
def u16C (l : List Nat) : List Value := l.map fun a : Nat => .int .u16 (a : Int)
theorem has_nat {s n : Nat} (hs : s < 65536) : Tag.has s (n : Int) = s.testBit n := by
  unfold Tag.has
  by_cases h : n < 16
  · have : decide ((0 : Int) ≤ (n : Int) ∧ (n : Int) < 16) = true := by simp; omega
    rw [this]; simp
  · have : decide ((0 : Int) ≤ (n : Int) ∧ (n : Int) < 16) = false := by simp; omega
    rw [this, Nat.testBit_lt_two_pow (Nat.lt_of_lt_of_le hs (Nat.pow_le_pow_right (n := 2) (by omega) (Nat.le_of_not_lt h)))]
    rfl
theorem bit_ge {s i : Nat} (hs : s < 65536) (h : s.testBit i = true) : i < 16 := by
  rcases Nat.lt_or_ge i 16 with h1 | h1
  · exact h1
  · rw [Nat.testBit_lt_two_pow (Nat.lt_of_lt_of_le hs (Nat.pow_le_pow_right (n := 2) (by omega) h1))] at h; cases h
end Pol
end Go.Proofs.YtlmacaenbililaaGreatDoor
namespace Go.Proofs.YtlmacaenbililaaGreatDoor
open Go.RowKit Go.Shelf
set_option linter.unusedSimpArgs false
set_option linter.unusedVariables false

namespace Pol
/-- A policy: the live roles, the labels, for whom each acts, the owners, the tags in use. -/
structure P where
  live : Nat
  labels : List Lab.L
  acts : List Nat
  owner : List Nat
  active : Nat
structure Ok (p : P) : Prop where
  live : p.live < 65536
  nlabels : p.labels.length = 16
  labels : ∀ a ∈ p.labels, Lab.ok a
  nacts : p.acts.length = 16
  acts : ∀ a ∈ p.acts, a < 65536
  nowner : p.owner.length = 16
  owner : ∀ a ∈ p.owner, a < 256
  active : p.active < 65536
def lab (p : P) (r : Nat) : Lab.L := p.labels.getD r (0, 0)
def act (p : P) (r : Nat) : Nat := p.acts.getD r 0
def own (p : P) (t : Nat) : Nat := p.owner.getD t 0
def labC (l : List Lab.L) : List Value := l.flatMap fun a => [.int .u16 (a.1 : Int), .int .u16 (a.2 : Int)]
def u8C (l : List Nat) : List Value := l.map fun a : Nat => .int .u8 (a : Int)
def cells (p : P) : List Value := .int .u16 (p.live : Int) :: (labC p.labels ++ (u16C p.acts ++ (u8C p.owner ++ [.int .u16 (p.active : Int)])))
def val (p : P) : Value := .agg (cells p).toArray
theorem labC_len (l : List Lab.L) : (labC l).length = 2 * l.length := by
  unfold labC
  induction l with
  | nil => rfl
  | cons a l ih => rw [List.flatMap_cons, List.length_append, ih, List.length_cons]; simp; omega
theorem labC_get : ∀ (l : List Lab.L) (r : Nat), r < l.length → (labC l)[2 * r]? = some (.int .u16 ((l.getD r (0, 0)).1 : Int)) ∧ (labC l)[2 * r + 1]? = some (.int .u16 ((l.getD r (0, 0)).2 : Int))
  | [], r, h => absurd h (Nat.not_lt_zero _)
  | a :: l, 0, _ => ⟨rfl, rfl⟩
  | a :: l, r + 1, h => by
    have := labC_get l r (by simpa using h)
    have e : labC (a :: l) = .int .u16 (a.1 : Int) :: .int .u16 (a.2 : Int) :: labC l := rfl
    rw [e]
    exact ⟨this.1, this.2⟩
theorem cells_len {p : P} (h : Ok p) : (cells p).length = 66 := by
  unfold cells u16C u8C
  simp [labC_len, h.nlabels, h.nacts, h.nowner]
theorem cell_live (p : P) : (cells p)[0]? = some (.int .u16 (p.live : Int)) := rfl
theorem cell_lab {p : P} (h : Ok p) {r : Nat} (hr : r < 16) : (cells p)[1 + 2 * r]? = some (.int .u16 ((lab p r).1 : Int)) ∧ (cells p)[1 + 2 * r + 1]? = some (.int .u16 ((lab p r).2 : Int)) := by
  have := labC_get p.labels r (by rw [h.nlabels]; exact hr)
  unfold cells
  rw [Nat.add_comm 1, List.getElem?_cons_succ, List.getElem?_cons_succ, List.getElem?_append_left (by rw [labC_len, h.nlabels]; omega), List.getElem?_append_left (by rw [labC_len, h.nlabels]; omega)]
  exact this
theorem cell_act {p : P} (h : Ok p) {r : Nat} (hr : r < 16) : (cells p)[33 + r]? = some (.int .u16 (act p r : Int)) := by
  unfold cells u16C
  rw [show 33 + r = (32 + r) + 1 by omega, List.getElem?_cons_succ, List.getElem?_append_right (by rw [labC_len, h.nlabels]; omega), labC_len, h.nlabels, List.getElem?_append_left (by rw [List.length_map, h.nacts]; omega), List.getElem?_map, show 32 + r - 2 * 16 = r by omega]
  unfold act
  rw [List.getD_eq_getElem?_getD, List.getElem?_eq_getElem (by rw [h.nacts]; exact hr)]
  rfl
theorem cell_own {p : P} (h : Ok p) {t : Nat} (ht : t < 16) : (cells p)[49 + t]? = some (.int .u8 (own p t : Int)) := by
  unfold cells u16C u8C
  rw [show 49 + t = (48 + t) + 1 by omega, List.getElem?_cons_succ, List.getElem?_append_right (by rw [labC_len, h.nlabels]; omega), labC_len, h.nlabels, List.getElem?_append_right (by rw [List.length_map, h.nacts]; omega), List.length_map, h.nacts, List.getElem?_append_left (by rw [List.length_map, h.nowner]; omega), List.getElem?_map, show 48 + t - 2 * 16 - 16 = t by omega]
  unfold own
  rw [List.getD_eq_getElem?_getD, List.getElem?_eq_getElem (by rw [h.nowner]; exact ht)]
  rfl
theorem cell_active {p : P} (h : Ok p) : (cells p)[65]? = some (.int .u16 (p.active : Int)) := by
  unfold cells u16C u8C
  rw [show 65 = 64 + 1 by omega, List.getElem?_cons_succ, List.getElem?_append_right (by rw [labC_len, h.nlabels]; omega), labC_len, h.nlabels, List.getElem?_append_right (by rw [List.length_map, h.nacts]; omega), List.length_map, h.nacts, List.getElem?_append_right (by rw [List.length_map, h.nowner]; omega), List.length_map, h.nowner]
  rfl
theorem cells_one (p : P) : ∀ v ∈ cells p, v.oneCell' = true := by
  intro v hv
  unfold cells u16C u8C labC at hv
  simp only [List.mem_cons, List.mem_append, List.mem_flatMap, List.mem_map, List.not_mem_nil, or_false] at hv
  rcases hv with rfl | ⟨a, _, rfl | rfl⟩ | ⟨a, _, rfl⟩ | ⟨a, _, rfl⟩ | rfl <;> rfl
/-- The acts lie together. -/
theorem acts_at {p : P} (h : Ok p) (j : Nat) (v : Value) (hv : (u16C p.acts)[j]? = some v) : (cells p)[33 + j]? = some v := by
  have hj : j < 16 := by
    have := (List.getElem?_eq_some_iff.1 hv).1
    unfold u16C at this
    rw [List.length_map, h.nacts] at this
    exact this
  rw [cell_act h hj, ← hv]
  unfold u16C act
  rw [List.getElem?_map, List.getD_eq_getElem?_getD, List.getElem?_eq_getElem (by rw [h.nacts]; exact hj)]
  rfl
theorem own_lt {p : P} (h : Ok p) (t : Nat) : own p t < 256 := by
  unfold own
  rw [List.getD_eq_getElem?_getD]
  cases e : p.owner[t]? with
  | none => simp
  | some a => exact h.owner a (List.mem_of_getElem? e)
theorem act_lt {p : P} (h : Ok p) (t : Nat) : act p t < 65536 := by
  unfold act
  rw [List.getD_eq_getElem?_getD]
  cases e : p.acts[t]? with
  | none => simp
  | some a => exact h.acts a (List.mem_of_getElem? e)
theorem lab_ok {p : P} (h : Ok p) (t : Nat) : Lab.ok (lab p t) := by
  unfold lab
  rw [List.getD_eq_getElem?_getD]
  cases e : p.labels[t]? with
  | none => exact ⟨by decide, by decide⟩
  | some a => exact h.labels a (List.mem_of_getElem? e)
/-- The set of the numbers below 16 of which f is so. -/
def setOf (f : Nat → Bool) : Nat := (List.range 16).foldl (fun o t => if f t = true then o ||| 2 ^ t else o) 0
def setTo (f : Nat → Bool) : Nat → Nat
  | 0 => 0
  | k + 1 => if f k = true then setTo f k ||| 2 ^ k else setTo f k
theorem setTo_all (f : Nat → Bool) : setTo f 16 = setOf f := rfl
theorem setTo_bit (f : Nat → Bool) : ∀ k, k ≤ 16 → ∀ i, (setTo f k).testBit i = (decide (i < k) && f i)
  | 0, _, i => by simp [setTo]
  | k + 1, hk, i => by
    unfold setTo
    by_cases h : f k = true
    · rw [if_pos h, Gr.bit_add (by omega), setTo_bit f k (by omega)]
      by_cases e : k = i
      · subst e; simp [h]
      · have : (decide (i < k + 1)) = decide (i < k) := by
          by_cases h1 : i < k
          · simp [h1]; omega
          · simp [h1]; omega
        rw [this]; simp [e]
    · rw [if_neg h, setTo_bit f k (by omega)]
      by_cases e : k = i
      · subst e; simp [h]
      · have : (decide (i < k + 1)) = decide (i < k) := by
          by_cases h1 : i < k
          · simp [h1]; omega
          · simp [h1]; omega
        rw [this]
theorem setTo_lt (f : Nat → Bool) : ∀ k, k ≤ 16 → setTo f k < 65536
  | 0, _ => by unfold setTo; omega
  | k + 1, hk => by
    unfold setTo
    split
    · exact Nat.or_lt_two_pow (n := 16) (setTo_lt f k (by omega)) (Nat.pow_lt_pow_right (by omega) (by omega))
    · exact setTo_lt f k (by omega)
theorem setOf_lt (f : Nat → Bool) : setOf f < 65536 := setTo_lt f 16 (by omega)
theorem setOf_bit (f : Nat → Bool) {i : Nat} (hi : i < 16) : (setOf f).testBit i = f i := by
  rw [← setTo_all, setTo_bit f 16 (by omega)]; simp [hi]
theorem set_eq {s : Nat} {f : Nat → Bool} (hs : s < 65536) (h : ∀ i, i < 16 → s.testBit i = f i) : s = setOf f :=
  Tag.ext hs (setOf_lt f) fun i hi => by rw [h i hi, setOf_bit f hi]
/-- The roles that a label sees. -/
def seen (p : P) (l : Lab.L) : Nat := setOf fun r => p.live.testBit r && Lab.flows (lab p r) l
def owned (p : P) (s : Nat) : Nat := setOf fun t => Tag.has s (own p t : Int)
def downOf (p : P) (r : Int) (l : Lab.L) : Nat := Gr.down p.acts (seen p l) (Tag.of [r])
def caps (p : P) (r : Int) (l : Lab.L) : Nat := owned p (downOf p r l) &&& p.active
theorem seen_lt (p : P) (l : Lab.L) : seen p l < 65536 := setOf_lt _
theorem owned_lt (p : P) (s : Nat) : owned p s < 65536 := setOf_lt _
theorem caps_lt (p : P) (r : Int) (l : Lab.L) : caps p r l < 65536 := Nat.lt_of_le_of_lt Nat.and_le_left (owned_lt _ _)
/-- A role's row. -/
def row (p : P) (by_ : Lab.L) (r : Nat) : Mt.R := ((r : Int), lab p r, Gr.down (Gr.turn p.acts) (seen p by_) (2 ^ r), Gr.down p.acts (seen p by_) (2 ^ r), owned p (2 ^ r) &&& p.active, caps p (r : Int) by_)
def rows (p : P) (by_ : Lab.L) : List Mt.R := (Tag.tags (seen p by_)).map (row p by_)
end Pol
end Go.Proofs.YtlmacaenbililaaGreatDoor
namespace Go.Proofs.YtlmacaenbililaaGreatDoor
open Go.RowKit Go.Shelf
set_option linter.unusedSimpArgs false
set_option linter.unusedVariables false

namespace Gr
theorem down_self {g : List Nat} {w r : Nat} (hr : r < 16) (hw : w.testBit r = true) : (down g w (2 ^ r)).testBit r = true :=
  ((down_is (p16 hr)).2 r hr).2 (.start hr (by simp) hw)
theorem down_in {g : List Nat} {w r a : Nat} (hr : r < 16) (ha : a < 16) (h : (down g w (2 ^ r)).testBit a = true) : w.testBit a = true :=
  (((down_is (p16 hr)).2 a ha).1 h).within
theorem down_trans {g : List Nat} {w r a b : Nat} (hr : r < 16) (ha : a < 16) (hb : b < 16) (h1 : (down g w (2 ^ r)).testBit a = true) (h2 : (down g w (2 ^ a)).testBit b = true) : (down g w (2 ^ r)).testBit b = true := by
  refine ((down_is (p16 hr)).2 b hb).2 ?_
  have h3 := ((down_is (p16 hr)).2 a ha).1 h1
  refine (((down_is (p16 ha)).2 b hb).1 h2).from fun q hq e hw => ?_
  obtain rfl : a = q := by rw [Nat.testBit_two_pow] at e; simpa using e
  exact h3
/-- Only what lies within counts. -/
theorem reach_cut {g g' : List Nat} {w S i : Nat} (h : ∀ a b, a < 16 → b < 16 → w.testBit a = true → w.testBit b = true → (g.getD a 0).testBit b = (g'.getD a 0).testBit b) (hr : Reach g w S i) : Reach g' w S i := by
  induction hr with
  | start h1 h2 h3 => exact .start h1 h2 h3
  | @step a b hR h1 h2 h3 ih => exact .step ih h1 (by rw [← h a b hR.lt h1 hR.within h3]; exact h2) h3
theorem down_cut {g g' : List Nat} {w S : Nat} (hS : S < 65536) (h : ∀ a b, a < 16 → b < 16 → w.testBit a = true → w.testBit b = true → (g.getD a 0).testBit b = (g'.getD a 0).testBit b) : down g w S = down g' w S :=
  IsDown.same (g := g) (w := w) (S := S) (down_is hS) ⟨down_lt hS, fun i hi => ⟨fun hd => reach_cut (fun a b ha hb h1 h2 => (h a b ha hb h1 h2).symm) (((down_is hS).2 i hi).1 hd), fun hr => ((down_is hS).2 i hi).2 (reach_cut h hr)⟩⟩
end Gr
namespace Pol
theorem owned_bit (p : P) {s t : Nat} (hs : s < 65536) (ht : t < 16) : (owned p s).testBit t = s.testBit (own p t) := by
  unfold owned
  rw [setOf_bit _ ht, has_nat hs]
theorem downOf_nat (p : P) {r : Nat} (hr : r < 16) (l : Lab.L) : downOf p (r : Int) l = Gr.down p.acts (seen p l) (2 ^ r) := by
  unfold downOf
  rw [Tag.of_one hr]
theorem caps_bit (p : P) {r t : Nat} (hr : r < 16) (ht : t < 16) (l : Lab.L) : (caps p (r : Int) l).testBit t = ((Gr.down p.acts (seen p l) (2 ^ r)).testBit (own p t) && p.active.testBit t) := by
  unfold caps
  rw [downOf_nat p hr, Nat.testBit_and, owned_bit p (Gr.down_lt (p16 hr)) ht]
theorem owns_bit (p : P) {r t : Nat} (hr : r < 16) (ht : t < 16) : (owned p (2 ^ r) &&& p.active).testBit t = (decide (r = own p t) && p.active.testBit t) := by
  rw [Nat.testBit_and, owned_bit p (p16 hr) ht, Nat.testBit_two_pow]
theorem up_is (p : P) (l : Lab.L) {r a : Nat} (hr : r < 16) (ha : a < 16) : (row p l r).2.2.1.testBit a = (row p l a).2.2.2.1.testBit r := Gr.up_bit hr ha
theorem sub_of {a b : Nat} (h : ∀ i, i < 16 → a.testBit i = true → b.testBit i = true) : Tag.sub a b = true := by
  unfold Tag.sub
  rw [List.all_eq_true]
  intro i hi
  obtain ⟨h1, h2⟩ := Tag.tags_lt a i hi
  exact h i h1 h2
/-- Whoever acts for a role has its capabilities. -/
theorem caps_down (p : P) (l : Lab.L) {i k : Nat} (hi : i < 16) (hk : k < 16) (h : (row p l i).2.2.2.1.testBit k = true) : Tag.sub (row p l k).2.2.2.2.2 (row p l i).2.2.2.2.2 = true := by
  refine sub_of fun t ht hb => ?_
  change (caps p (k : Int) l).testBit t = true at hb
  show (caps p (i : Int) l).testBit t = true
  rw [caps_bit p hk ht, Bool.and_eq_true] at hb
  have ho : own p t < 16 := bit_ge (Gr.down_lt (p16 hk)) hb.1
  rw [caps_bit p hi ht, hb.2, Gr.down_trans hi hk ho h hb.1]
  rfl
theorem owns_caps (p : P) (l : Lab.L) {i : Nat} (hi : i < 16) (hs : (seen p l).testBit i = true) : Tag.sub (row p l i).2.2.2.2.1 (row p l i).2.2.2.2.2 = true := by
  refine sub_of fun t ht hb => ?_
  change (owned p (2 ^ i) &&& p.active).testBit t = true at hb
  show (caps p (i : Int) l).testBit t = true
  rw [owns_bit p hi ht, Bool.and_eq_true, decide_eq_true_eq] at hb
  rw [caps_bit p hi ht, ← hb.1, hb.2, Gr.down_self hi hs]
  rfl
/-- What is owned by those of the first roles for which a role acts. -/
def allOwns (x : Nat) (l : List Mt.R) : Nat := l.foldl (fun o r => if x.testBit r.1.toNat = true then o ||| r.2.2.2.2.1 else o) 0
theorem allOwns_bit (x t : Nat) : ∀ (l : List Mt.R) (o : Nat), (l.foldl (fun o r => if x.testBit r.1.toNat = true then o ||| r.2.2.2.2.1 else o) o).testBit t = (o.testBit t || l.any (fun r => x.testBit r.1.toNat && r.2.2.2.2.1.testBit t))
  | [], o => by simp
  | r :: l, o => by
    rw [List.foldl_cons, allOwns_bit x t l, List.any_cons]
    by_cases h : x.testBit r.1.toNat = true
    · rw [if_pos h, h, Nat.testBit_or, Bool.true_and, Bool.or_assoc]
    · rw [if_neg h, Bool.eq_false_iff.2 h, Bool.false_and, Bool.false_or]
theorem allOwns_lt (x : Nat) : ∀ (l : List Mt.R) (o : Nat), o < 65536 → (∀ r ∈ l, r.2.2.2.2.1 < 65536) → l.foldl (fun o r => if x.testBit r.1.toNat = true then o ||| r.2.2.2.2.1 else o) o < 65536
  | [], o, h, _ => h
  | r :: l, o, h, hl => by
    rw [List.foldl_cons]
    refine allOwns_lt x l _ ?_ (fun q hq => hl q (List.mem_cons_of_mem _ hq))
    split
    · exact Nat.or_lt_two_pow (n := 16) h (hl r List.mem_cons_self)
    · exact h
theorem row_owns_lt (p : P) (h : Ok p) (l : Lab.L) (r : Nat) : (row p l r).2.2.2.2.1 < 65536 := Nat.lt_of_le_of_lt Nat.and_le_left (owned_lt _ _)
theorem all_caps (p : P) (h : Ok p) (l : Lab.L) {i : Nat} (hi : i < 16) : allOwns (row p l i).2.2.2.1 (rows p l) = (row p l i).2.2.2.2.2 := by
  refine Tag.ext (allOwns_lt _ _ _ (by omega) ?_) (caps_lt _ _ _) fun t ht => ?_
  · intro r hr
    obtain ⟨k, _, rfl⟩ := List.mem_map.1 hr
    exact row_owns_lt p h l k
  · unfold allOwns
    rw [allOwns_bit, Nat.zero_testBit, Bool.false_or]
    show _ = (caps p (i : Int) l).testBit t
    rw [caps_bit p hi ht, Bool.eq_iff_iff, List.any_eq_true, Bool.and_eq_true]
    constructor
    · rintro ⟨r, hr, h1⟩
      obtain ⟨k, hk, rfl⟩ := List.mem_map.1 hr
      have hk16 := (Tag.tags_lt _ k hk).1
      rw [Bool.and_eq_true] at h1
      have h2 : (owned p (2 ^ k) &&& p.active).testBit t = true := h1.2
      rw [owns_bit p hk16 ht, Bool.and_eq_true, decide_eq_true_eq] at h2
      rw [← h2.1]
      exact ⟨h1.1, h2.2⟩
    · rintro ⟨h1, h2⟩
      have ho : own p t < 16 := bit_ge (Gr.down_lt (p16 hi)) h1
      refine ⟨row p l (own p t), List.mem_map.2 ⟨own p t, Tag.mem_tags.2 ⟨ho, Gr.down_in hi ho h1⟩, rfl⟩, ?_⟩
      rw [Bool.and_eq_true]
      refine ⟨h1, ?_⟩
      show (owned p (2 ^ own p t) &&& p.active).testBit t = true
      rw [owns_bit p ho ht, h2]; simp
end Pol
namespace Mt
/-- What a role may that others may not. -/
def less (o : Nat) (u : Nat) (l : List R) : Nat := l.foldl (fun o r => if Tag.has u r.1 = true then o else o &&& (65535 - r.2.2.2.2.2)) o
def find (l : List R) (role : Int) : Option R := l.find? fun r => decide (r.1 = role)
def alone (l : List R) (role : Int) : Nat := match find l role with
  | some r => less r.2.2.2.2.2 r.2.2.1 l
  | none => 0
def holders (l : List R) (tag : Int) : Nat := l.foldl (fun o r => if Tag.has r.2.2.2.2.2 tag = true then o ||| Tag.of [r.1] else o) 0
theorem less_le : ∀ (l : List R) (o u i : Nat), (less o u l).testBit i = true → o.testBit i = true
  | [], o, u, i, h => h
  | r :: l, o, u, i, h => by
    unfold less at h
    rw [List.foldl_cons] at h
    have := less_le l _ u i h
    split at this
    · exact this
    · rw [Nat.testBit_and, Bool.and_eq_true] at this; exact this.1
theorem alone_caps (l : List R) (role : Int) {r : R} (h : find l role = some r) : Tag.sub (alone l role) r.2.2.2.2.2 = true := by
  unfold alone
  rw [h]
  exact Pol.sub_of fun i _ hi => less_le l _ _ i hi
end Mt
end Go.Proofs.YtlmacaenbililaaGreatDoor
namespace Go.Proofs.YtlmacaenbililaaGreatDoor
open Go.RowKit Go.WideShapes
set_option linter.unusedVariables false
set_option linter.unusedSimpArgs false

theorem opens_arr {P : Program} {α : Type} {t e : TypeId} {n : Nat} {d : Kn α} {B : α → Prop} (G : α → List Value) (ht : P.underlying t = some (.array n e)) (he : Opens P e d B) (hsz : P.cellsOf e = d.sz) (hct : P.cellsOf t = n * d.sz)
    (hG : ∀ w a cs, B a → d.K w a cs → cs = G a) : Opens P t (⟨n * d.sz, fun _ l cs => cs = l.flatMap G⟩ : Kn (List α)) (fun l => l.length = n ∧ ∀ a ∈ l, B a) := ⟨fun {H} enc w base spare held fuel cs x hx => by
  obtain ⟨xs, m, _, _, hl, hxl, hf⟩ := DataW.trod_array ht hx
  have : ∀ k, k ≤ n → ∃ l : List α, l.length = k ∧ cs.take (k * d.sz) = l.flatMap G ∧ ∀ a ∈ l, B a := by
    intro k
    induction k with
    | zero => exact fun _ => ⟨[], rfl, by simp, fun a h => by cases h⟩
    | succ k ih =>
      intro hk
      obtain ⟨l, h1, h2, h3⟩ := ih (by omega)
      have h := hf k (by omega)
      rw [hsz, List.getElem?_eq_getElem (by omega)] at h
      obtain ⟨a, hK, hB⟩ := he.out enc w base spare held m _ _ h
      refine ⟨l ++ [a], by simp [h1], ?_, fun b hb => ?_⟩
      · rw [Nat.succ_mul, List.take_add, h2, hG w a _ hB hK, List.flatMap_append]
        simp
      · rcases List.mem_append.1 hb with hb | hb
        · exact h3 b hb
        · rw [List.mem_singleton.1 hb]; exact hB
  obtain ⟨l, h1, h2, h3⟩ := this n (Nat.le_refl _)
  refine ⟨l, ?_, h1, h3⟩
  rw [List.take_of_length_le (by omega)] at h2
  exact h2⟩
def kU16 : Kn Nat := ⟨1, fun _ a cs => cs = [.int .u16 (a : Int)]⟩
def kU8 : Kn Nat := ⟨1, fun _ a cs => cs = [.int .u8 (a : Int)]⟩
theorem u8_nat {n : Int} (h : (Lit.int .u8 n).wf = true) : ∃ x : Nat, n = (x : Int) ∧ x < 256 := by
  simp [Lit.wf, IntKind.min, IntKind.max, IntKind.signed, IntKind.bits] at h
  exact ⟨n.toNat, by omega, by omega⟩
theorem opens_u16 : Opens Tryz.prog 23 kU16 (fun a => a < 65536) :=
  opens_imp (d := Kn.int .u16) (fun n => n.toNat) (opens_int Tryz.underlying23) (fun n h => by obtain ⟨a, rfl, hb⟩ := u16_nat h; simpa using hb)
    (fun w n cs h hK => by
      obtain ⟨a, rfl, hb⟩ := u16_nat h
      have e : cs = _ := hK
      subst e
      rfl)
theorem opens_u8 : Opens Tryz.prog 5 kU8 (fun a => a < 256) :=
  opens_imp (d := Kn.int .u8) (fun n => n.toNat) (opens_int Tryz.underlying5) (fun n h => by obtain ⟨a, rfl, hb⟩ := u8_nat h; simpa using hb)
    (fun w n cs h hK => by
      obtain ⟨a, rfl, hb⟩ := u8_nat h
      have e : cs = _ := hK
      subst e
      rfl)
theorem flat_map {α : Type} (f : α → Value) : ∀ l : List α, (l.flatMap fun a => [f a]) = l.map f
  | [] => rfl
  | a :: l => by
    rw [List.flatMap_cons, flat_map f l]; rfl
def kPol : Kn Pol.P := ⟨66, fun _ p cs => cs = Pol.cells p⟩
set_option maxRecDepth 100000 in
theorem opens_pol : Opens Tryz.prog 30 kPol Pol.Ok :=
  opens_imp (fun x : Nat × List Lab.L × List Nat × List Nat × Nat => (⟨x.1, x.2.1, x.2.2.1, x.2.2.2.1, x.2.2.2.2⟩ : Pol.P))
    (opens_struct Tryz.underlying30 (by kernel_rfl) (opensF_cons rfl (by kernel_rfl) opens_u16
      (opensF_cons rfl (by kernel_rfl) (opens_arr (fun a : Lab.L => [.int .u16 (a.1 : Int), .int .u16 (a.2 : Int)]) Tryz.underlying26 opens_lab (by kernel_rfl) (by kernel_rfl) (fun w a cs _ h => h))
      (opensF_cons rfl (by kernel_rfl) (opens_arr (fun a : Nat => [.int .u16 (a : Int)]) Tryz.underlying27 opens_u16 (by kernel_rfl) (by kernel_rfl) (fun w a cs _ h => h))
      (opensF_cons rfl (by kernel_rfl) (opens_arr (fun a : Nat => [.int .u8 (a : Int)]) Tryz.underlying28 opens_u8 (by kernel_rfl) (by kernel_rfl) (fun w a cs _ h => h))
      (opensF_one rfl (by kernel_rfl) opens_u16))))))
    (fun x ⟨h0, ⟨h1, h2⟩, ⟨h3, h4⟩, ⟨h5, h6⟩, h7⟩ => ⟨h0, h1, h2, h3, h4, h5, h6, h7⟩)
    (fun w x cs _ hK => by
      obtain ⟨x0, x1, x2, x3, x4⟩ := x
      obtain ⟨c0, r0, rfl, e0, c1, r1, rfl, e1, c2, r2, rfl, e2, c3, r3, rfl, e3, e4⟩ := hK
      have e0 : c0 = _ := e0
      have e1 : c1 = _ := e1
      have e2 : c2 = _ := e2
      have e3 : c3 = _ := e3
      have e4 : r3 = _ := e4
      subst e0 e1 e2 e3 e4
      show _ = Pol.cells _
      unfold Pol.cells Pol.u16C Pol.u8C
      rw [← flat_map, ← flat_map]
      rfl)
set_option maxRecDepth 100000 in
theorem pol_value {H : Type} {enc : TypeId × Value → H} {w : World} {base : Nat} {b0 : Nat} {r : Reach} {spare : Nat → Bool} {held : Bool} {v : Value} {x : DataW H} {p : List MemPlace} (hv : Value.okWide Tryz.prog w r b0 30 v)
    (ht : DataW.Trod enc Tryz.prog w base spare held 30 v x p) : ∃ e : Pol.P, v = Pol.val e ∧ Pol.Ok e := by
  obtain ⟨cs, rfl, _⟩ := okWide_struct Tryz.underlying30 hv
  obtain ⟨e, hK, hB⟩ := opens_pol.value ht
  have hK' : cs.toList = Pol.cells e := hK
  refine ⟨e, ?_, hB⟩
  rw [show cs = (Pol.cells e).toArray from Array.toList_inj.1 (hK'.trans (by rfl))]
  rfl
end Go.Proofs.YtlmacaenbililaaGreatDoor
