/- A region that draws its order, in which some operations (calls that write, stores) come one behind the other, and all the others read what none of these turns: one walk in the order of the text serves every order. No conditions. -/
import Derived.Test.YtlmacaenbililaaGreatDoorRegs
namespace Go.Proofs.YtlmacaenbililaaGreatDoor
open Go.RowKit

section
variable {P : Program} {ops : Array Oper}
theorem goesUpon_mono {C C' : World → Prop} {v : Value} (h : ∀ w, C w → C' w) : ∀ {r : Result Next}, goesUpon P C v r → goesUpon P C' v r
  | .ok (.value _) _, ⟨h1, h2⟩ => ⟨h _ h1, h2⟩
  | .ok .skip _, ⟨h1, h2⟩ => ⟨h _ h1, h2⟩
  | .ok (.enter _ _) _, k => Calls.mono k fun _ _ ⟨h1, h2⟩ => ⟨h1, h _ h2⟩
/-- It is no call: it is not entered. -/
def plainOp : Op → Bool
  | .move _ | .assign _ | .pick _ _ _ | .alloc _ | .box _ _ | .build _ _ | .buildSlice _ _ _ | .load _ _ | .store _ _ _ | .binOp _ _ _ _ _ | .unOp _ _ _ | .convert _ _ _ | .fieldAddr _ _ _ | .field _ _ _ | .indexAddr _ _ _ | .index _ _ _ | .slice _ _ _ _ _ | .makeInterface _ _ | .extract _ _ => true
  | _ => false
def noEnter : Result Next → Prop
  | .ok (.enter _ _) _ => False
  | _ => True
theorem noEnter_value {α : Type} {r : Result α} {f : α → Value} : noEnter (r.andThen fun a w' => .ok (.value (f a)) w') := by cases r <;> trivial
theorem noEnter_skip {r : Result Unit} : noEnter (r.andThen fun _ w' => .ok .skip w') := by cases r <;> trivial
theorem plain_noEnter {o : Oper} {e : Operand → Value} (h : plainOp o.op = true) (w : World) : noEnter ((execOp e o).run P w) := by
  unfold execOp
  cases ho : o.op <;> rw [ho] at h <;> first | (simp [plainOp] at h; done) | skip
  all_goals simp only [Sem.run_bind, Sem.run_pure]
  all_goals first | trivial | exact noEnter_value | exact noEnter_skip
/-- The stages: C j is said of the worlds behind the first j of the turning operations cs. -/
def stageD (cs : List Nat) (C : Nat → World → Prop) (L : Array Bool) (W : World) : Prop := ∃ j, (j ≤ cs.length ∧ C j W) ∧ ∀ i, i < cs.length → L.getD (cs.getD i 0) false = decide (i < j)
/-- The turning operations come one behind the other. -/
def chainedB (ops : Array Oper) (cs : List Nat) : Bool := (List.range cs.length).all fun i => i == 0 || (match ops[cs.getD i 0]? with | some o => o.after.any fun e => Region.binds .any e && e.on == cs.getD (i - 1) 0 | none => false)
/-- The walk: at a turning operation its own word, of the worlds of its stage; elsewhere the quiet word, of all of them. -/
def wpC (P : Program) (ops : Array Oper) (cs : List Nat) (C : Nat → World → Prop) (Q : Act → Prop) : Nat → List Oper → Act → Prop
  | _, [], a => Q a
  | k, o :: rest, a =>
    match cs.idxOf? k with
    | some j => Region.wanted o (yielded ops a.tmps) = true ∧ ∃ v, (∀ w, C j w → goesAt P o a (C (j + 1)) w v) ∧ wpC P ops cs C Q (k + 1) rest (a.put o.dst v)
    | none => if Region.wanted o (yielded ops a.tmps) then plainOp o.op = true ∧ o.quiet P a (fun w => ∃ s : { w : World // ∃ j, C j w }, w = s.1) (wpC P ops cs C Q (k + 1) rest) else wpC P ops cs C Q (k + 1) rest (a.put o.dst undef)
theorem getD_at {cs : List Nat} {i : Nat} (h : i < cs.length) : cs.getD i 0 = cs[i] := by simp [h]
theorem wpD_of_wpC {cs : List Nat} {C : Nat → World → Prop} {Q : Act → Prop} (hnd : cs.Nodup) (hch : chainedB ops cs = true) : ∀ (l : List Oper) (k : Nat) (a : Act), wpC P ops cs C Q k l a → wpD P .any ops (stageD cs C) Q k l a
  | [], _, _, h => h
  | o :: rest, k, a, h => by
    unfold wpC at h
    cases hi : cs.idxOf? k with
    | some j =>
      rw [hi] at h
      obtain ⟨hw, v, hg, hn⟩ := h
      obtain ⟨hjl, hjk, _⟩ := List.idxOf?_eq_some_iff.1 hi
      refine ⟨v, .inl ⟨hw, fun L w hr hD => ?_⟩, wpD_of_wpC hnd hch rest _ _ hn⟩
      obtain ⟨m, hC, hL⟩ := hD
      obtain ⟨hun, o', ho', hed⟩ := mem_ready.1 hr
      have h1 : ¬ j < m := by
        have := hL j hjl
        rw [getD_at hjl, hjk, getD_both hun] at this
        simpa using this.symm
      have h2 : j = m := by
        rcases Nat.eq_zero_or_pos j with h0 | h0
        · omega
        · have hc := (List.all_eq_true.1 hch) j (List.mem_range.2 hjl)
          rw [getD_at hjl, hjk, ho'] at hc
          simp only [Bool.or_eq_true, beq_iff_eq] at hc
          rcases hc with hc | hc
          · omega
          · obtain ⟨e, he, heq⟩ := Array.any_eq_true'.1 hc
            rw [Bool.and_eq_true, beq_iff_eq] at heq
            have h3 := hed e he heq.1
            rw [heq.2] at h3
            have h4 := hL (j - 1) (by omega)
            rw [h3] at h4
            have : j - 1 < m := by simpa using h4.symm
            omega
      subst h2
      have hks : k < L.size := by
        rcases Nat.lt_or_ge k L.size with h | h
        · exact h
        · simp [Array.getElem?_eq_none h] at hun
      refine goesUpon_mono (fun w' hw' => ⟨j + 1, ⟨hjl, hw'⟩, fun i hil => ?_⟩) (hg w hC.2)
      by_cases e : i = j
      · subst e
        rw [getD_at hil, hjk]
        simp [hks]
      · have hne : k ≠ cs.getD i 0 := fun e' => e (by rw [getD_at hil] at e'; exact ((List.getElem_inj hnd).1 (hjk.trans e')).symm)
        rw [getD_set_ne false hne, hL i hil]
        simp only [decide_eq_decide]
        omega
    | none =>
      rw [hi] at h
      dsimp only at h
      have hk := List.idxOf?_eq_none_iff.1 hi
      have hD' : ∀ (L : Array Bool) (w : World) (j : Nat), (j ≤ cs.length ∧ C j w) → (∀ i, i < cs.length → L.getD (cs.getD i 0) false = decide (i < j)) → stageD cs C (L.setIfInBounds k true) w := fun L w j hC hL => ⟨j, hC, fun i hil => by
        rw [getD_set_ne false (fun e => hk (by rw [e, getD_at hil]; exact List.getElem_mem _)), hL i hil]⟩
      split at h
      · rename_i hw
        obtain ⟨hp, v, hg, hn⟩ := h
        refine ⟨v, .inl ⟨hw, fun L w _ hD => ?_⟩, wpD_of_wpC hnd hch rest _ _ hn⟩
        obtain ⟨j, hC, hL⟩ := hD
        have h1 := hg w ⟨⟨w, j, hC.2⟩, rfl⟩
        have h2 := plain_noEnter (P := P) (e := a.eval) hp w
        unfold goesAt
        unfold Oper.quietAt at h1
        generalize (execOp a.eval o).run P w = r at *
        cases r with
        | ok n w' =>
          cases n <;> simp only [Oper.quietUpon] at h1 <;> simp only [goesUpon]
          case value u => exact ⟨by rw [h1.1]; exact hD' L w j hC hL, h1.2⟩
          case skip => exact ⟨by rw [h1.1]; exact hD' L w j hC hL, h1.2⟩
          case enter f args => exact h2.elim
        | halt x w' => simp only [Oper.quietUpon] at h1
      · rename_i hw
        refine ⟨undef, .inr ⟨by simpa using hw, rfl, fun L w _ hD => ?_⟩, wpD_of_wpC hnd hch rest _ _ h⟩
        obtain ⟨j, hC, hL⟩ := hD
        exact hD' L w j hC hL
/-- The law. -/
theorem wp_region_chain {id : Nat} {Q' : Exit → Act → World → Prop} {a : Act} {w : World} {l : List Oper} (cs : List Nat) (C : Nat → World → Prop) (hm : P.follows .mixedOrders = true) (hB : Region.lexB .any l.toArray = true)
    (hnd : cs.Nodup) (hch : chainedB l.toArray cs = true) (hin : (cs.all fun i => decide (i < l.length)) = true) (h0 : C 0 w.drew)
    (h : wpC P l.toArray cs C (fun a' => ∀ W, C cs.length W → Q' .normal a' W) 0 l a) : (Code.region id l.toArray true).wp P Q' a w := by
  simp only [Region.lexB, Bool.and_eq_true] at hB
  refine wp_region_any hm ?_
  have := D_lex (P := P) (md := .any) (D := stageD cs C) hB.1 l 0 (Array.replicate l.toArray.size false) a (by simp) (by simp) (by intro j hj; omega) (by simpa using hB.2) (wpD_of_wpC hnd hch l 0 a h)
  refine any_of_D (Q' := Q') (fun L a' w hD _ hq => ?_) _ _ _ _ ?_ this
  · obtain ⟨j, hC, hL⟩ := hD
    have hj : cs.length = j := by
      refine Nat.le_antisymm (Nat.le_of_not_lt fun hlt => ?_) hC.1
      have h1 := hL j hlt
      have h2 : cs.getD j 0 < l.length := by
        have := (List.all_eq_true.1 hin) cs[j] (List.getElem_mem _)
        rw [getD_at hlt]; simpa using this
      rw [hq.1 _ (by simpa using h2)] at h1
      simp at h1
    exact hq.2 _ (hj ▸ hC.2)
  · exact ⟨0, ⟨Nat.zero_le _, h0⟩, fun i hi => by rw [getD_replicate_false]; simp⟩
end

section
variable {P : Program} {ops : Array Oper} {cs : List Nat} {C : Nat → World → Prop} {Q : Act → Prop}
def segB (cs : List Nat) : Nat → List Oper → Bool
  | _, [] => true
  | k, o :: l => (cs.idxOf? k).isNone && plainOp o.op && segB cs (k + 1) l
/-- n operations none of which turns anything. -/
theorem wpC_seg : ∀ (n : Nat) (k : Nat) (l : List Oper) (a : Act), segB cs k (l.take n) = true →
    wpQuiet P ops (fun w => ∃ s : { w : World // ∃ j, C j w }, w = s.1) (fun a' => wpC P ops cs C Q (k + (l.take n).length) (l.drop n) a') (l.take n) a → wpC P ops cs C Q k l a
  | 0, k, l, a, _, h => h
  | n + 1, k, [], a, _, h => h
  | n + 1, k, o :: l, a, hs, h => by
    simp only [List.take_succ_cons, segB, Bool.and_eq_true, Option.isNone_iff_eq_none] at hs
    unfold wpC
    rw [hs.1.1]
    dsimp only
    simp only [List.take_succ_cons, List.drop_succ_cons, List.length_cons] at h
    rw [show k + ((l.take n).length + 1) = k + 1 + (l.take n).length from by omega] at h
    unfold wpQuiet at h
    split at h
    · rename_i hw
      rw [if_pos hw]
      obtain ⟨v, hv, hn⟩ := h
      exact ⟨hs.1.2, v, hv, wpC_seg n (k + 1) l _ hs.2 hn⟩
    · rename_i hw
      rw [if_neg hw]
      exact wpC_seg n (k + 1) l _ hs.2 h
/-- A turning call. -/
theorem wpC_turn {k j : Nat} {o : Oper} {rest : List Oper} {a : Act} (hj : cs.idxOf? k = some j) (hw : Region.wanted o (yielded ops a.tmps) = true) (v : Value) (h : ∀ w, C j w → goesAt P o a (C (j + 1)) w v) (hn : ∀ K : Act → Prop, (∀ a, wpC P ops cs C Q (k + 1) rest a → K a) → K (a.put o.dst v)) : wpC P ops cs C Q k (o :: rest) a := by
  unfold wpC
  rw [hj]
  exact ⟨hw, v, h, hn _ (fun _ h => h)⟩
theorem wpC_nil {k : Nat} {a : Act} (h : Q a) : wpC P ops cs C Q k [] a := h
end
end Go.Proofs.YtlmacaenbililaaGreatDoor
