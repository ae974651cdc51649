/- A region that draws its order, in which some operations (calls that write, stores) come one behind the other, and all the others read what none of these turns: one walk in the order of the text serves every order. A region that draws its order, walked along a list: an operation that yields one value in every world of a class, and leaves it, is taken first; any other must be the only one that may come up, and is carried out in the world at hand (its value may hang on that world). Two laws more for a region that is walked along a list. No conditions. -/
import Derived.Test.YtlmacaenbililaaGreatDoorRegs
namespace Go.Proofs.YtlmacaenbililaaGreatDoor
open Go.RowKit

section
variable {P : Program} {ops : Array Oper}
theorem goesUpon_mono {C C' : World → Prop} {v : Value} (h : ∀ w, C w → C' w) : ∀ {r : Result Next}, goesUpon P C v r → goesUpon P C' v r
  | .ok (.value _) _, ⟨h1, h2⟩ => ⟨h _ h1, h2⟩
  | .ok .skip _, ⟨h1, h2⟩ => ⟨h _ h1, h2⟩
  | .ok (.enter _ _) _, k => Calls.mono k fun _ _ ⟨h1, h2⟩ => ⟨h1, h _ h2⟩
/-- It is no call: it is not entered. -/
def plainOp : Op → Bool
  | .move _ | .assign _ | .pick _ _ _ | .alloc _ | .box _ _ | .build _ _ | .buildSlice _ _ _ | .load _ _ | .store _ _ _ | .binOp _ _ _ _ _ | .unOp _ _ _ | .convert _ _ _ | .fieldAddr _ _ _ | .field _ _ _ | .indexAddr _ _ _ | .index _ _ _ | .slice _ _ _ _ _ | .makeInterface _ _ | .extract _ _ => true
  | _ => false
def noEnter : Result Next → Prop
  | .ok (.enter _ _) _ => False
  | _ => True
theorem noEnter_value {α : Type} {r : Result α} {f : α → Value} : noEnter (r.andThen fun a w' => .ok (.value (f a)) w') := by cases r <;> trivial
theorem noEnter_skip {r : Result Unit} : noEnter (r.andThen fun _ w' => .ok .skip w') := by cases r <;> trivial
theorem plain_noEnter {o : Oper} {e : Operand → Value} (h : plainOp o.op = true) (w : World) : noEnter ((execOp e o).run P w) := by
  unfold execOp
  cases ho : o.op <;> rw [ho] at h <;> first | (simp [plainOp] at h; done) | skip
  all_goals simp only [Sem.run_bind, Sem.run_pure]
  all_goals first | trivial | exact noEnter_value | exact noEnter_skip
/-- The stages: C j is said of the worlds behind the first j of the turning operations cs. -/
def stageD (cs : List Nat) (C : Nat → World → Prop) (L : Array Bool) (W : World) : Prop := ∃ j, (j ≤ cs.length ∧ C j W) ∧ ∀ i, i < cs.length → L.getD (cs.getD i 0) false = decide (i < j)
/-- The turning operations come one behind the other. -/
def chainedB (ops : Array Oper) (cs : List Nat) : Bool := (List.range cs.length).all fun i => i == 0 || (match ops[cs.getD i 0]? with | some o => o.after.any fun e => Region.binds .any e && e.on == cs.getD (i - 1) 0 | none => false)
/-- The walk: at a turning operation its own word, of the worlds of its stage; elsewhere the quiet word, of all of them. -/
def wpC (P : Program) (ops : Array Oper) (cs : List Nat) (C : Nat → World → Prop) (Q : Act → Prop) : Nat → List Oper → Act → Prop
  | _, [], a => Q a
  | k, o :: rest, a =>
    match cs.idxOf? k with
    | some j => Region.wanted o (yielded ops a.tmps) = true ∧ ∃ v, (∀ w, C j w → goesAt P o a (C (j + 1)) w v) ∧ wpC P ops cs C Q (k + 1) rest (a.put o.dst v)
    | none => if Region.wanted o (yielded ops a.tmps) then plainOp o.op = true ∧ o.quiet P a (fun w => ∃ s : { w : World // ∃ j, C j w }, w = s.1) (wpC P ops cs C Q (k + 1) rest) else wpC P ops cs C Q (k + 1) rest (a.put o.dst undef)
theorem getD_at {cs : List Nat} {i : Nat} (h : i < cs.length) : cs.getD i 0 = cs[i] := by simp [h]
theorem wpD_of_wpC {cs : List Nat} {C : Nat → World → Prop} {Q : Act → Prop} (hnd : cs.Nodup) (hch : chainedB ops cs = true) : ∀ (l : List Oper) (k : Nat) (a : Act), wpC P ops cs C Q k l a → wpD P .any ops (stageD cs C) Q k l a
  | [], _, _, h => h
  | o :: rest, k, a, h => by
    unfold wpC at h
    cases hi : cs.idxOf? k with
    | some j =>
      rw [hi] at h
      obtain ⟨hw, v, hg, hn⟩ := h
      obtain ⟨hjl, hjk, _⟩ := List.idxOf?_eq_some_iff.1 hi
      refine ⟨v, .inl ⟨hw, fun L w hr hD => ?_⟩, wpD_of_wpC hnd hch rest _ _ hn⟩
      obtain ⟨m, hC, hL⟩ := hD
      obtain ⟨hun, o', ho', hed⟩ := mem_ready.1 hr
      have h1 : ¬ j < m := by
        have := hL j hjl
        rw [getD_at hjl, hjk, getD_both hun] at this
        simpa using this.symm
      have h2 : j = m := by
        rcases Nat.eq_zero_or_pos j with h0 | h0
        · omega
        · have hc := (List.all_eq_true.1 hch) j (List.mem_range.2 hjl)
          rw [getD_at hjl, hjk, ho'] at hc
          simp only [Bool.or_eq_true, beq_iff_eq] at hc
          rcases hc with hc | hc
          · omega
          · obtain ⟨e, he, heq⟩ := Array.any_eq_true'.1 hc
            rw [Bool.and_eq_true, beq_iff_eq] at heq
            have h3 := hed e he heq.1
            rw [heq.2] at h3
            have h4 := hL (j - 1) (by omega)
            rw [h3] at h4
            have : j - 1 < m := by simpa using h4.symm
            omega
      subst h2
      have hks : k < L.size := by
        rcases Nat.lt_or_ge k L.size with h | h
        · exact h
        · simp [Array.getElem?_eq_none h] at hun
      refine goesUpon_mono (fun w' hw' => ⟨j + 1, ⟨hjl, hw'⟩, fun i hil => ?_⟩) (hg w hC.2)
      by_cases e : i = j
      · subst e
        rw [getD_at hil, hjk]
        simp [hks]
      · have hne : k ≠ cs.getD i 0 := fun e' => e (by rw [getD_at hil] at e'; exact ((List.getElem_inj hnd).1 (hjk.trans e')).symm)
        rw [getD_set_ne false hne, hL i hil]
        simp only [decide_eq_decide]
        omega
    | none =>
      rw [hi] at h
      dsimp only at h
      have hk := List.idxOf?_eq_none_iff.1 hi
      have hD' : ∀ (L : Array Bool) (w : World) (j : Nat), (j ≤ cs.length ∧ C j w) → (∀ i, i < cs.length → L.getD (cs.getD i 0) false = decide (i < j)) → stageD cs C (L.setIfInBounds k true) w := fun L w j hC hL => ⟨j, hC, fun i hil => by
        rw [getD_set_ne false (fun e => hk (by rw [e, getD_at hil]; exact List.getElem_mem _)), hL i hil]⟩
      split at h
      · rename_i hw
        obtain ⟨hp, v, hg, hn⟩ := h
        refine ⟨v, .inl ⟨hw, fun L w _ hD => ?_⟩, wpD_of_wpC hnd hch rest _ _ hn⟩
        obtain ⟨j, hC, hL⟩ := hD
        have h1 := hg w ⟨⟨w, j, hC.2⟩, rfl⟩
        have h2 := plain_noEnter (P := P) (e := a.eval) hp w
        unfold goesAt
        unfold Oper.quietAt at h1
        generalize (execOp a.eval o).run P w = r at *
        cases r with
        | ok n w' =>
          cases n <;> simp only [Oper.quietUpon] at h1 <;> simp only [goesUpon]
          case value u => exact ⟨by rw [h1.1]; exact hD' L w j hC hL, h1.2⟩
          case skip => exact ⟨by rw [h1.1]; exact hD' L w j hC hL, h1.2⟩
          case enter f args => exact h2.elim
        | halt x w' => simp only [Oper.quietUpon] at h1
      · rename_i hw
        refine ⟨undef, .inr ⟨by simpa using hw, rfl, fun L w _ hD => ?_⟩, wpD_of_wpC hnd hch rest _ _ h⟩
        obtain ⟨j, hC, hL⟩ := hD
        exact hD' L w j hC hL
/-- The law. -/
theorem wp_region_chain {id : Nat} {Q' : Exit → Act → World → Prop} {a : Act} {w : World} {l : List Oper} (cs : List Nat) (C : Nat → World → Prop) (hm : P.follows .mixedOrders = true) (hB : Region.lexB .any l.toArray = true)
    (hnd : cs.Nodup) (hch : chainedB l.toArray cs = true) (hin : (cs.all fun i => decide (i < l.length)) = true) (h0 : C 0 w.drew)
    (h : wpC P l.toArray cs C (fun a' => ∀ W, C cs.length W → Q' .normal a' W) 0 l a) : (Code.region id l.toArray true).wp P Q' a w := by
  simp only [Region.lexB, Bool.and_eq_true] at hB
  refine wp_region_any hm ?_
  have := D_lex (P := P) (md := .any) (D := stageD cs C) hB.1 l 0 (Array.replicate l.toArray.size false) a (by simp) (by simp) (by intro j hj; omega) (by simpa using hB.2) (wpD_of_wpC hnd hch l 0 a h)
  refine any_of_D (Q' := Q') (fun L a' w hD _ hq => ?_) _ _ _ _ ?_ this
  · obtain ⟨j, hC, hL⟩ := hD
    have hj : cs.length = j := by
      refine Nat.le_antisymm (Nat.le_of_not_lt fun hlt => ?_) hC.1
      have h1 := hL j hlt
      have h2 : cs.getD j 0 < l.length := by
        have := (List.all_eq_true.1 hin) cs[j] (List.getElem_mem _)
        rw [getD_at hlt]; simpa using this
      rw [hq.1 _ (by simpa using h2)] at h1
      simp at h1
    exact hq.2 _ (hj ▸ hC.2)
  · exact ⟨0, ⟨Nat.zero_le _, h0⟩, fun i hi => by rw [getD_replicate_false]; simp⟩
end

section
variable {P : Program} {ops : Array Oper} {cs : List Nat} {C : Nat → World → Prop} {Q : Act → Prop}
def segB (cs : List Nat) : Nat → List Oper → Bool
  | _, [] => true
  | k, o :: l => (cs.idxOf? k).isNone && plainOp o.op && segB cs (k + 1) l
/-- n operations none of which turns anything. -/
theorem wpC_seg : ∀ (n : Nat) (k : Nat) (l : List Oper) (a : Act), segB cs k (l.take n) = true →
    wpQuiet P ops (fun w => ∃ s : { w : World // ∃ j, C j w }, w = s.1) (fun a' => wpC P ops cs C Q (k + (l.take n).length) (l.drop n) a') (l.take n) a → wpC P ops cs C Q k l a
  | 0, k, l, a, _, h => h
  | n + 1, k, [], a, _, h => h
  | n + 1, k, o :: l, a, hs, h => by
    simp only [List.take_succ_cons, segB, Bool.and_eq_true, Option.isNone_iff_eq_none] at hs
    unfold wpC
    rw [hs.1.1]
    dsimp only
    simp only [List.take_succ_cons, List.drop_succ_cons, List.length_cons] at h
    rw [show k + ((l.take n).length + 1) = k + 1 + (l.take n).length from by omega] at h
    unfold wpQuiet at h
    split at h
    · rename_i hw
      rw [if_pos hw]
      obtain ⟨v, hv, hn⟩ := h
      exact ⟨hs.1.2, v, hv, wpC_seg n (k + 1) l _ hs.2 hn⟩
    · rename_i hw
      rw [if_neg hw]
      exact wpC_seg n (k + 1) l _ hs.2 h
/-- A turning call. -/
theorem wpC_turn {k j : Nat} {o : Oper} {rest : List Oper} {a : Act} (hj : cs.idxOf? k = some j) (hw : Region.wanted o (yielded ops a.tmps) = true) (v : Value) (h : ∀ w, C j w → goesAt P o a (C (j + 1)) w v) (hn : ∀ K : Act → Prop, (∀ a, wpC P ops cs C Q (k + 1) rest a → K a) → K (a.put o.dst v)) : wpC P ops cs C Q k (o :: rest) a := by
  unfold wpC
  rw [hj]
  exact ⟨hw, v, h, hn _ (fun _ h => h)⟩
theorem wpC_nil {k : Nat} {a : Act} (h : Q a) : wpC P ops cs C Q k [] a := h
end
end Go.Proofs.YtlmacaenbililaaGreatDoor
namespace Go.Proofs.YtlmacaenbililaaGreatDoor
open Go.RowKit

section
variable {P : Program} {ops : Array Oper} {md : Region.Mode} {C : World → Prop}
/-- What is asked of an operation's run: the worlds stay in the class. -/
def runsTo (P : Program) (C : World → Prop) (o : Oper) (a : Act) (K : Act → World → Prop) : Result Next → Prop
  | .ok (.value u) w' => C w' ∧ K (a.put o.dst u) w'
  | .ok .skip w' => C w' ∧ K (a.put o.dst undef) w'
  | .ok (.enter f args) w' => Calls P f args w' fun e w'' => ∃ v, e = .returned v ∧ C w'' ∧ K (a.put o.dst v) w''
  | _ => False
def opG (P : Program) (ops : Array Oper) (C : World → Prop) (i : Nat) (K : Act → World → Prop) (a : Act) (w : World) : Prop :=
  ∃ o, ops[i]? = some o ∧ ((Region.wanted o (yielded ops a.tmps) = true ∧ runsTo P C o a K ((execOp a.eval o).run P w)) ∨ (Region.wanted o (yielded ops a.tmps) = false ∧ K (a.put o.dst undef) w))
theorem runsTo_mono {o : Oper} {a : Act} {K K' : Act → World → Prop} (h : ∀ a w, C w → K a w → K' a w) : ∀ {r : Result Next}, runsTo P C o a K r → runsTo P C o a K' r
  | .ok (.value _) _, ⟨h1, h2⟩ => ⟨h1, h _ _ h1 h2⟩
  | .ok .skip _, ⟨h1, h2⟩ => ⟨h1, h _ _ h1 h2⟩
  | .ok (.enter _ _) _, k => Calls.mono k fun _ _ ⟨v, h1, h2, h3⟩ => ⟨v, h1, h2, h _ _ h2 h3⟩
def anyG (P : Program) (md : Region.Mode) (ops : Array Oper) (C : World → Prop) (Q : Exit → Act → World → Prop) : Nat → Array Bool → Act → World → Prop
  | 0, L, a, w => Region.ready md ops L = [] ∧ Q .normal a w
  | f + 1, L, a, w => Region.ready md ops L ≠ [] ∧ ∀ i ∈ Region.ready md ops L, opG P ops C i (anyG P md ops C Q f (L.setIfInBounds i true)) a w
theorem wpOp_of_opG {Q : Exit → Act → World → Prop} {i : Nat} {a : Act} {w : World} {K K' : Act → World → Prop} (hw : C w) (h : ∀ a w, C w → K a w → K' a w) (hh : opG P ops C i K a w) : wpOp P ops Q i K' a w := by
  obtain ⟨o, h1, h2⟩ := hh
  unfold wpOp
  simp only [h1]
  rcases h2 with ⟨hwt, hg⟩ | ⟨hwt, hg⟩
  · rw [if_pos hwt]
    refine .inl ?_
    unfold Oper.wp
    generalize (execOp a.eval o).run P w = r at *
    cases r with
    | ok n w' =>
      cases n <;> simp only [runsTo] at hg <;> simp only [Oper.upon]
      case value u => exact h _ _ hg.1 hg.2
      case skip => exact h _ _ hg.1 hg.2
      case enter f args => exact hg.mono fun e w'' ⟨v, he, hc, hk⟩ => by subst he; exact h _ _ hc hk
    | halt x w' => simp only [runsTo] at hg
  · rw [if_neg (by rw [hwt]; exact Bool.false_ne_true)]
    exact h _ _ hw hg
theorem any_of_G {Q : Exit → Act → World → Prop} : ∀ (f : Nat) (L : Array Bool) (a : Act) (w : World), C w → anyG P md ops C Q f L a w → wpAny P md ops Q f L a w
  | 0, _, _, _, _, h => ⟨h.1, h.2⟩
  | f + 1, _, _, _, hw, h => ⟨fun h0 => absurd h0 h.1, fun i hi => wpOp_of_opG hw (fun a' w' hw' h' => any_of_G f _ a' w' hw' h') (h.2 i hi)⟩
/-- One value in every world of the class, which is left as it is; or the operation is passed over. -/
def Still (P : Program) (ops : Array Oper) (C : World → Prop) (o : Oper) (v : Value) (a : Act) : Prop :=
  (Region.wanted o (yielded ops a.tmps) = true ∧ ∀ w, C w → ((execOp a.eval o).run P w = .ok (.value v) w ∨ ((execOp a.eval o).run P w = .ok .skip w ∧ v = undef))) ∨ (Region.wanted o (yielded ops a.tmps) = false ∧ v = undef)
theorem Still.of_same {o : Oper} {v : Value} {a a' : Act} (hy : Still P ops C o v a) (he : execOp a'.eval o = execOp a.eval o) (hw : Region.wanted o (yielded ops a'.tmps) = Region.wanted o (yielded ops a.tmps)) : Still P ops C o v a' := by
  unfold Still at *
  rw [he, hw]; exact hy
theorem Still.opG {i : Nat} {o : Oper} {v : Value} {a : Act} {w : World} {K : Act → World → Prop} (hi : ops[i]? = some o) (hy : Still P ops C o v a) (hw : C w) (hk : K (a.put o.dst v) w) : opG P ops C i K a w := by
  refine ⟨o, hi, ?_⟩
  rcases hy with ⟨h1, h2⟩ | ⟨h1, rfl⟩
  · refine .inl ⟨h1, ?_⟩
    rcases h2 w hw with h | ⟨h, rfl⟩ <;> rw [h] <;> exact ⟨hw, hk⟩
  · exact .inr ⟨h1, hk⟩
theorem runsTo_put {oi oj : Oper} {v : Value} {a : Act} (hcomm : ∀ u, (a.put oi.dst v).put oj.dst u = (a.put oj.dst u).put oi.dst v) {K : Act → World → Prop} : ∀ {r : Result Next}, runsTo P C oj (a.put oi.dst v) K r → runsTo P C oj a (fun a' w' => K (a'.put oi.dst v) w') r
  | .ok (.value u) _, ⟨h1, h2⟩ => ⟨h1, by show K _ _; rw [← hcomm u]; exact h2⟩
  | .ok .skip _, ⟨h1, h2⟩ => ⟨h1, by show K _ _; rw [← hcomm undef]; exact h2⟩
  | .ok (.enter _ _) _, k => Calls.mono k fun _ _ ⟨u, h1, h2, h3⟩ => ⟨u, h1, h2, by show K _ _; rw [← hcomm u]; exact h3⟩
theorem opG_put {j : Nat} {oi oj : Oper} {v : Value} (hj : ops[j]? = some oj) (hap : oi.apart ops oj = true) (hsj : ∀ cs b, oj.op ≠ .select cs b) {K : Act → World → Prop} {a : Act} {w : World}
    (h : opG P ops C j K (a.put oi.dst v) w) : opG P ops C j (fun a' w' => K (a'.put oi.dst v) w') a w := by
  obtain ⟨h1, h2, h3⟩ := Oper.apart_spec hap
  obtain ⟨o, ho, hg⟩ := h
  obtain rfl : oj = o := Option.some.inj (hj.symm.trans ho)
  have hcomm : ∀ u, (a.put oi.dst v).put oj.dst u = (a.put oj.dst u).put oi.dst v := fun u => Act.put_comm a v u h2
  refine ⟨oj, hj, ?_⟩
  rw [execOp_put oj hsj a oi.dst v h1, wanted_put oj a oi.dst v h1] at hg
  rcases hg with ⟨h4, h5⟩ | ⟨h4, h5⟩
  · exact .inl ⟨h4, runsTo_put hcomm h5⟩
  · exact .inr ⟨h4, by show K _ _; rw [← hcomm undef]; exact h5⟩
/-- What is still of oi is still behind oj. -/
theorem Still.put {oi oj : Oper} {v u : Value} {a : Act} (hap : oi.apart ops oj = true) (hsi : ∀ cs b, oi.op ≠ .select cs b) (hy : Still P ops C oi v a) : Still P ops C oi v (a.put oj.dst u) := by
  obtain ⟨h1, h2, h3⟩ := Oper.apart_spec hap
  exact hy.of_same (execOp_put oi hsi a oj.dst u h3) (wanted_put oi a oj.dst u h3)
theorem runsTo_and {oj : Oper} {a : Act} {K : Act → World → Prop} {R : Act → Prop} (hR : ∀ u, R (a.put oj.dst u)) : ∀ {r : Result Next}, runsTo P C oj a K r → runsTo P C oj a (fun a' w' => R a' ∧ K a' w') r
  | .ok (.value _) _, ⟨h1, h2⟩ => ⟨h1, hR _, h2⟩
  | .ok .skip _, ⟨h1, h2⟩ => ⟨h1, hR _, h2⟩
  | .ok (.enter _ _) _, k => Calls.mono k fun _ _ ⟨u, h1, h2, h3⟩ => ⟨u, h1, h2, hR _, h3⟩
theorem opG_and {j : Nat} {oj : Oper} {a : Act} {w : World} {K : Act → World → Prop} {R : Act → Prop} (hj : ops[j]? = some oj) (hR : ∀ u, R (a.put oj.dst u)) (h : opG P ops C j K a w) : opG P ops C j (fun a' w' => R a' ∧ K a' w') a w := by
  obtain ⟨o, ho, hg⟩ := h
  obtain rfl : oj = o := Option.some.inj (hj.symm.trans ho)
  refine ⟨oj, hj, ?_⟩
  rcases hg with ⟨h4, h5⟩ | ⟨h4, h5⟩
  · exact .inl ⟨h4, runsTo_and hR h5⟩
  · exact .inr ⟨h4, hR _, h5⟩
theorem opG_mono {j : Nat} {a : Act} {w : World} {K K' : Act → World → Prop} (hw : C w) (h : ∀ a w, C w → K a w → K' a w) (hh : opG P ops C j K a w) : opG P ops C j K' a w := by
  obtain ⟨o, ho, hg⟩ := hh
  refine ⟨o, ho, ?_⟩
  rcases hg with ⟨h4, h5⟩ | ⟨h4, h5⟩
  · exact .inl ⟨h4, runsTo_mono h h5⟩
  · exact .inr ⟨h4, h _ _ hw h5⟩
theorem G_first {Q : Exit → Act → World → Prop} {i : Nat} {oi : Oper} {v : Value} (hi : ops[i]? = some oi) (hsel : ∀ (j : Nat) (o : Oper) cs b, ops[j]? = some o → o.op ≠ .select cs b) :
    ∀ (f : Nat) (listed : Array Bool) (a : Act) (w : World), C w →
      (∀ j oj, ops[j]? = some oj → j ≠ i → listed.getD j true = false → (∀ e ∈ oj.after, Region.binds md e = true → e.on ≠ i) → oi.apart ops oj = true) →
      i ∈ Region.ready md ops listed → Still P ops C oi v a → anyG P md ops C Q f (listed.setIfInBounds i true) (a.put oi.dst v) w → anyG P md ops C Q (f + 1) listed a w := by
  intro f
  induction f with
  | zero =>
    intro listed a w hw _ hr hy H
    refine ⟨fun h => (by rw [h] at hr; cases hr), fun j hj => ?_⟩
    by_cases hji : j = i
    · subst hji; exact hy.opG hi hw H
    · have := ready_mono hj hji
      rw [H.1] at this
      cases this
  | succ f ih =>
    intro listed a w hw hfree hr hy H
    refine ⟨fun h => (by rw [h] at hr; cases hr), fun j hj => ?_⟩
    by_cases hji : j = i
    · subst hji; exact hy.opG hi hw H
    · have h1 := H.2 j (ready_mono hj hji)
      obtain ⟨hjun, oj, hoj, hall⟩ := mem_ready.1 hj
      have hnot : ∀ e ∈ oj.after, Region.binds md e = true → e.on ≠ i := fun e he hb heq => by
        have h1 := hall e he hb
        rw [heq, getD_both (mem_ready.1 hr).1] at h1
        cases h1
      have hap := hfree j oj hoj hji hjun hnot
      have h2 := opG_put hoj hap (fun cs b => hsel j oj cs b hoj) h1
      have hfree' : ∀ k ok, ops[k]? = some ok → k ≠ i → (listed.setIfInBounds j true).getD k true = false → (∀ e ∈ ok.after, Region.binds md e = true → e.on ≠ i) → oi.apart ops ok = true := fun k ok hk hki hun hno => by
        refine hfree k ok hk hki ?_ hno
        by_cases hjk : j = k
        · subst hjk; exact hjun
        · rw [getD_set_ne true hjk] at hun; exact hun
      have h3 := opG_and (R := fun a' => Still P ops C oi v a') hoj (fun u => hy.put hap (fun cs b => hsel i oi cs b hi)) h2
      refine opG_mono hw (fun a' w' hw' h4 => ih (listed.setIfInBounds j true) a' w' hw' hfree' (ready_mono hr (Ne.symm hji)) h4.1 ?_) h3
      rw [Array.setIfInBounds_comm _ _ hji]
      exact h4.2
/-- The list's check: an index of T must be the only one that may come up; any other may be taken first. -/
def ordB (md : Region.Mode) (ops : Array Oper) (T : List Nat) : List Nat → Array Bool → Bool
  | [], L => (Region.ready md ops L).isEmpty
  | i :: r, L => (if T.contains i then Region.ready md ops L == [i] else (Region.ready md ops L).contains i && Region.free md ops L i) && ordB md ops T r (L.setIfInBounds i true)
/-- The walk along the list. -/
def wpO (P : Program) (ops : Array Oper) (C : World → Prop) (T : List Nat) (Q : Exit → Act → World → Prop) : List Nat → Act → World → Prop
  | [], a, w => Q .normal a w
  | i :: r, a, w => if T.contains i then opG P ops C i (wpO P ops C T Q r) a w else ∃ o v, ops[i]? = some o ∧ Still P ops C o v a ∧ wpO P ops C T Q r (a.put o.dst v) w
theorem G_of_O {T : List Nat} {Q : Exit → Act → World → Prop} (hs : Region.noSelect ops = true) : ∀ (l : List Nat) (L : Array Bool) (a : Act) (w : World), C w → ordB md ops T l L = true → wpO P ops C T Q l a w → anyG P md ops C Q l.length L a w
  | [], L, a, w, _, hB, h => ⟨by simpa [ordB] using hB, h⟩
  | i :: r, L, a, w, hw, hB, h => by
    simp only [ordB, Bool.and_eq_true] at hB
    unfold wpO at h
    by_cases hT : T.contains i = true
    · rw [if_pos hT] at hB h
      have hr : Region.ready md ops L = [i] := by simpa using hB.1
      refine ⟨by rw [hr]; simp, fun j hj => ?_⟩
      rw [hr] at hj
      obtain rfl : j = i := by simpa using hj
      exact opG_mono hw (fun a' w' hw' h' => G_of_O hs r _ a' w' hw' hB.2 h') h
    · rw [if_neg hT] at hB h
      obtain ⟨⟨hr, hf⟩, hB2⟩ := (show ((Region.ready md ops L).contains i = true ∧ Region.free md ops L i = true) ∧ _ from ⟨by simpa using hB.1, hB.2⟩)
      obtain ⟨o, v, ho, hy, hn⟩ := h
      exact G_first ho (Region.noSelect_spec hs) r.length L a w hw (Region.free_spec ho hf) (by simpa using hr) hy (G_of_O hs r _ _ w hw hB2 hn)
theorem wp_region_ord {id : Nat} {Q : Exit → Act → World → Prop} {a : Act} {w : World} {l : List Oper} (T ord : List Nat) (C : World → Prop) (hm : P.follows .mixedOrders = true) (hs : Region.noSelect l.toArray = true) (hlen : ord.length = l.length)
    (hB : ordB .any l.toArray T ord (Array.replicate l.toArray.size false) = true) (hC : C w.drew) (h : wpO P l.toArray C T Q ord a w.drew) : (Code.region id l.toArray true).wp P Q a w := by
  refine wp_region_any hm ?_
  have := any_of_G _ _ _ _ hC (G_of_O (md := .any) hs ord _ a w.drew hC hB h)
  rw [hlen] at this
  simpa using this
/-- The operations of some indices. -/
def opsAt (ops : Array Oper) (is : List Nat) : List Oper := is.filterMap fun i => ops[i]?
def quietB (ops : Array Oper) (T : List Nat) : List Nat → Bool
  | [] => true
  | i :: r => !T.contains i && (match ops[i]? with | some o => plainOp o.op | none => false) && quietB ops T r
theorem still_of_quiet {o : Oper} {a : Act} {v : Value} (hp : plainOp o.op = true) (hw : Region.wanted o (yielded ops a.tmps) = true) {C' : World → Prop} (hC : ∀ w, C w → C' w) (h : ∀ w, C' w → o.quietAt P a C' w v) : Still P ops C o v a := by
  refine .inl ⟨hw, fun w hc => ?_⟩
  have h1 := h w (hC w hc)
  have h2 := plain_noEnter (P := P) (e := a.eval) hp w
  unfold Oper.quietAt at h1
  generalize (execOp a.eval o).run P w = r at *
  cases r with
  | ok n w' =>
    cases n <;> simp only [Oper.quietUpon] at h1
    case value u => obtain ⟨rfl, rfl⟩ := h1; exact .inl rfl
    case skip => obtain ⟨rfl, rfl⟩ := h1; exact .inr ⟨rfl, rfl⟩
    case enter f args => exact h2.elim
  | halt x w' => simp only [Oper.quietUpon] at h1
/-- n operations of the list, none of which turns anything. -/
theorem wpO_seg {T : List Nat} {Q : Exit → Act → World → Prop} {w : World} : ∀ (n : Nat) (l : List Nat) (a : Act), quietB ops T (l.take n) = true →
    wpQuiet P ops (fun w' => ∃ s : { w : World // C w }, w' = s.1) (fun a' => wpO P ops C T Q (l.drop n) a' w) (opsAt ops (l.take n)) a → wpO P ops C T Q l a w
  | 0, l, a, _, h => h
  | n + 1, [], a, _, h => h
  | n + 1, i :: l, a, hs, h => by
    simp only [List.take_succ_cons, quietB, Bool.and_eq_true, Bool.not_eq_true'] at hs
    unfold wpO
    rw [if_neg (by rw [hs.1.1]; exact Bool.false_ne_true)]
    cases ho : ops[i]? with
    | none => rw [ho] at hs; exact absurd hs.1.2 (by simp)
    | some o =>
      rw [ho] at hs
      simp only [List.take_succ_cons, List.drop_succ_cons, opsAt, List.filterMap_cons, ho] at h
      unfold wpQuiet at h
      split at h
      · rename_i hw
        obtain ⟨v, hv, hn⟩ := h
        exact ⟨o, v, rfl, still_of_quiet hs.1.2 hw (fun w hc => ⟨⟨w, hc⟩, rfl⟩) hv, wpO_seg n l _ hs.2 hn⟩
      · rename_i hw
        exact ⟨o, undef, rfl, .inr ⟨by simpa using hw, rfl⟩, wpO_seg n l _ hs.2 h⟩
/-- A forced operation that is carried out. -/
theorem wpO_run {T : List Nat} {Q : Exit → Act → World → Prop} {w : World} {i : Nat} {r : List Nat} {a : Act} {o : Oper} (hT : T.contains i = true) (ho : ops[i]? = some o) (hw : Region.wanted o (yielded ops a.tmps) = true)
    (h : ∀ K : Act → World → Prop, (∀ a w, wpO P ops C T Q r a w → K a w) → runsTo P C o a K ((execOp a.eval o).run P w)) : wpO P ops C T Q (i :: r) a w := by
  unfold wpO
  rw [if_pos hT]
  exact ⟨o, ho, .inl ⟨hw, h _ (fun _ _ h => h)⟩⟩
/-- A forced operation that is passed over. -/
theorem wpO_pass {T : List Nat} {Q : Exit → Act → World → Prop} {w : World} {i : Nat} {r : List Nat} {a : Act} {o : Oper} (hT : T.contains i = true) (ho : ops[i]? = some o) (hw : Region.wanted o (yielded ops a.tmps) = false)
    (h : wpO P ops C T Q r (a.put o.dst undef) w) : wpO P ops C T Q (i :: r) a w := by
  unfold wpO
  rw [if_pos hT]
  exact ⟨o, ho, .inr ⟨hw, h⟩⟩
theorem wpO_nil {T : List Nat} {Q : Exit → Act → World → Prop} {w : World} {a : Act} (h : Q .normal a w) : wpO P ops C T Q [] a w := h
end
end Go.Proofs.YtlmacaenbililaaGreatDoor
namespace Go.Proofs.YtlmacaenbililaaGreatDoor
open Go.RowKit

theorem wpO_one {P : Program} {ops : Array Oper} {C : World → Prop} {T : List Nat} {Q : Exit → Act → World → Prop} {w : World} {i : Nat} {r : List Nat} {a : Act} {o : Oper} (ho : ops[i]? = some o) (hs : quietB ops T [i] = true)
    (h : wpQuiet P ops (fun w' => ∃ s : { w : World // C w }, w' = s.1) (fun a' => wpO P ops C T Q r a' w) [o] a) : wpO P ops C T Q (i :: r) a w := by
  refine wpO_seg 1 (i :: r) a hs ?_
  simp only [List.take_succ_cons, List.take_zero, opsAt, List.filterMap_cons, ho, List.filterMap_nil, List.drop_succ_cons, List.drop_zero]
  exact h
theorem wpO_still {P : Program} {ops : Array Oper} {C : World → Prop} {T : List Nat} {Q : Exit → Act → World → Prop} {w : World} {i : Nat} {r : List Nat} {a : Act} {o : Oper} (v : Value) (ho : ops[i]? = some o) (hT : T.contains i = false) (hw : Region.wanted o (yielded ops a.tmps) = true)
    (h : ∀ w, C w → (execOp a.eval o).run P w = .ok (.value v) w) (hn : wpO P ops C T Q r (a.put o.dst v) w) : wpO P ops C T Q (i :: r) a w := by
  unfold wpO
  rw [if_neg (by rw [hT]; exact Bool.false_ne_true)]
  exact ⟨o, v, ho, .inl ⟨hw, fun w hc => .inl (h w hc)⟩, hn⟩
end Go.Proofs.YtlmacaenbililaaGreatDoor
