/- PartPlays: the part of the program and the reference's list, tied lane by lane; each call does the same to both. No conditions. -/
import Derived.Test.YtaapejhoegeimaaFar
import Derived.Test.YtaapejhoegeimaaPartd
namespace Go.Proofs.Ytaapejhoegeimaa
open Go.RowKit Go.Shelf Go.Proofs.YtaapejhoegeimaaW.PrintWords Go.Proofs.Ytaapejhoegeimaa.PPartPlays
set_option linter.unusedSimpArgs false
set_option linter.unusedVariables false

open Plaw (lane FineP born laneP)
theorem fm_congr {α β : Type} {f g : α → Option β} : ∀ {l : List α}, (∀ x ∈ l, f x = g x) → l.filterMap f = l.filterMap g
  | [], _ => rfl
  | a :: r, h => by rw [List.filterMap_cons, List.filterMap_cons, h a List.mem_cons_self, fm_congr (fun x hx => h x (List.mem_cons_of_mem _ hx))]
abbrev Sto := Nat → Option S39
def supd (sto : Sto) (k : Nat) (o : Option S39) : Sto := fun j => if j = k then o else sto j
def lst (sto : Sto) : List S39 := (List.range 12).filterMap sto
def lstA (sto : Sto) (t : Nat) : List S39 := (List.range t).filterMap sto
def lstB (sto : Sto) (t : Nat) : List S39 := (List.range' (t + 1) (11 - t)).filterMap sto
theorem lst_split (sto : Sto) (t : Nat) (h : t < 12) : lst sto = lstA sto t ++ ((sto t).toList ++ lstB sto t) := by
  unfold lst lstA lstB
  have e : List.range 12 = List.range t ++ t :: List.range' (t + 1) (11 - t) := by
    rw [List.range_eq_range', List.range_eq_range', show (12 : Nat) = t + (11 - t + 1) from by omega, ← List.range'_append_1, Nat.zero_add, List.range'_succ]
  rw [e, List.filterMap_append, List.filterMap_cons]
  cases sto t <;> rfl
theorem lst_len (sto : Sto) : (lst sto).length ≤ 12 := by
  refine Nat.le_trans (List.length_filterMap_le _ _) ?_
  simp
theorem lstA_mem {sto : Sto} {t : Nat} {x : S39} (h : x ∈ lstA sto t) : ∃ j, j < t ∧ sto j = some x := by
  obtain ⟨j, hj, e⟩ := List.mem_filterMap.1 h
  exact ⟨j, List.mem_range.1 hj, e⟩
theorem lstB_mem {sto : Sto} {t : Nat} {x : S39} (h : x ∈ lstB sto t) (ht : t < 12) : ∃ j, t < j ∧ j < 12 ∧ sto j = some x := by
  obtain ⟨j, hj, e⟩ := List.mem_filterMap.1 h
  have := List.mem_range'_1.1 hj
  exact ⟨j, by omega, by omega, e⟩
theorem lst_mem {sto : Sto} {x : S39} (h : x ∈ lst sto) : ∃ j, j < 12 ∧ sto j = some x := by
  obtain ⟨j, hj, e⟩ := List.mem_filterMap.1 h
  exact ⟨j, List.mem_range.1 hj, e⟩
theorem lst_some {sto : Sto} {t : Nat} (h : t < 12) {x : S39} (e : sto t = some x) : lst sto = lstA sto t ++ x :: lstB sto t := by rw [lst_split sto t h, e]; rfl
theorem lst_none {sto : Sto} {t : Nat} (h : t < 12) (e : sto t = none) : lst sto = lstA sto t ++ lstB sto t := by rw [lst_split sto t h, e]; rfl
theorem lstA_upd (sto : Sto) (t : Nat) (o : Option S39) : lstA (supd sto t o) t = lstA sto t := by
  unfold lstA
  refine fm_congr fun j hj => ?_
  have := List.mem_range.1 hj
  simp [supd, show ¬ j = t from by omega]
theorem lstB_upd (sto : Sto) (t : Nat) (o : Option S39) : lstB (supd sto t o) t = lstB sto t := by
  unfold lstB
  refine fm_congr fun j hj => ?_
  have := List.mem_range'_1.1 hj
  simp [supd, show ¬ j = t from by omega]
theorem supd_self (sto : Sto) (t : Nat) (o : Option S39) : supd sto t o t = o := by simp [supd]
theorem lst_put (sto : Sto) (t : Nat) (h : t < 12) (o : S39) : lst (supd sto t (some o)) = lstA sto t ++ o :: lstB sto t := by rw [lst_some h (supd_self sto t (some o)), lstA_upd, lstB_upd]
theorem lst_drop (sto : Sto) (t : Nat) (h : t < 12) : lst (supd sto t none) = lstA sto t ++ lstB sto t := by rw [lst_none h (supd_self sto t none), lstA_upd, lstB_upd]
theorem lstAB_len (sto : Sto) (t : Nat) (h : t < 12) : (lstA sto t).length + (lstB sto t).length ≤ 90 := by
  have h1 := Nat.le_trans (List.length_filterMap_le sto (List.range t)) (Nat.le_of_eq List.length_range)
  have h2 := Nat.le_trans (List.length_filterMap_le sto (List.range' (t + 1) (11 - t))) (Nat.le_of_eq List.length_range')
  unfold lstA lstB
  omega
/-- An object that may lie in lane t. -/
def Lies (S I : Int) (t : Nat) (s : S39) : Prop := FineP s.f0.f1 s.f0.f2 ∧ lane s = (t : Int) ∧ born S I s ∧ Short 100 s
/-- Lane by lane: nothing on both sides, or the same object. -/
structure Tied (W : World) (ok : Nat → Prop) (S I : Int) (st : Nat → Option (List Value)) (sto : Sto) : Prop where
  no : ∀ t, t < 12 → sto t = none → st t = none
  yes : ∀ t, t < 12 → ∀ s, sto t = some s → ∃ cs, st t = some cs ∧ Kd.FK k39 W ok s cs ∧ Lies S I t s
theorem Tied.step {W W1 : World} {ok : Nat → Prop} {S I : Int} {st : Nat → Option (List Value)} {sto : Sto} (h : Tied W ok S I st sto) (hm : ∀ k, ok k → k < W.heap.size → W1.heap[k]? = W.heap[k]?) : Tied W1 ok S I st sto :=
  ⟨h.no, fun t ht s e => by
    obtain ⟨cs, h1, h2, h3⟩ := h.yes t ht s e
    exact ⟨cs, h1, Foot.step h2 hm, h3⟩⟩
theorem Tied.put {W : World} {ok : Nat → Prop} {S I : Int} {st : Nat → Option (List Value)} {sto : Sto} (h : Tied W ok S I st sto) (t : Nat) (s : S39) (cs : List Value) (hF : Kd.FK k39 W ok s cs) (hl : Lies S I t s) : Tied W ok S I (upd st t (some cs)) (supd sto t (some s)) :=
  ⟨fun j hj e => by
    unfold supd at e
    unfold Ytaapejhoegeimaa.upd
    by_cases hjt : j = t
    · rw [if_pos hjt] at e; cases e
    · rw [if_neg hjt] at e ⊢; exact h.no j hj e,
   fun j hj x e => by
    unfold supd at e
    unfold Ytaapejhoegeimaa.upd
    by_cases hjt : j = t
    · rw [if_pos hjt] at e ⊢; cases e; subst hjt; exact ⟨cs, rfl, hF, hl⟩
    · rw [if_neg hjt] at e ⊢; exact h.yes j hj x e⟩
theorem Tied.drop {W : World} {ok : Nat → Prop} {S I : Int} {st : Nat → Option (List Value)} {sto : Sto} (h : Tied W ok S I st sto) (t : Nat) : Tied W ok S I (upd st t none) (supd sto t none) :=
  ⟨fun j hj e => by
    unfold supd at e
    unfold Ytaapejhoegeimaa.upd
    by_cases hjt : j = t
    · rw [if_pos hjt]
    · rw [if_neg hjt] at e ⊢; exact h.no j hj e,
   fun j hj x e => by
    unfold supd at e
    unfold Ytaapejhoegeimaa.upd
    by_cases hjt : j = t
    · rw [if_pos hjt] at e; cases e
    · rw [if_neg hjt] at e ⊢; exact h.yes j hj x e⟩
theorem Tied.mem {W : World} {ok : Nat → Prop} {S I : Int} {st : Nat → Option (List Value)} {sto : Sto} (h : Tied W ok S I st sto) {x : S39} (hx : x ∈ lst sto) : ∃ j, j < 12 ∧ Lies S I j x := by
  obtain ⟨j, hj, e⟩ := lst_mem hx
  obtain ⟨_, _, _, h3⟩ := h.yes j hj x e
  exact ⟨j, hj, h3⟩
theorem Tied.A {W : World} {ok : Nat → Prop} {S I : Int} {st : Nat → Option (List Value)} {sto : Sto} (h : Tied W ok S I st sto) {t : Nat} (ht : t < 12) : ∀ x ∈ lstA sto t, born S I x ∧ lane x < (t : Int) := fun x hx => by
  obtain ⟨j, hj, e⟩ := lstA_mem hx
  obtain ⟨_, _, _, _, hl, hb, _⟩ := h.yes j (by omega) x e
  exact ⟨hb, by omega⟩
theorem Tied.B {W : World} {ok : Nat → Prop} {S I : Int} {st : Nat → Option (List Value)} {sto : Sto} (h : Tied W ok S I st sto) {t : Nat} (ht : t < 12) : ∀ x ∈ lstB sto t, born S I x ∧ (t : Int) < lane x := fun x hx => by
  obtain ⟨j, hj, hj2, e⟩ := lstB_mem hx ht
  obtain ⟨_, _, _, _, hl, hb, _⟩ := h.yes j hj2 x e
  exact ⟨hb, by omega⟩
/-- What a call does to the part's block. -/
def Does (fn : Nat) (arg : Value) (p : Nat) (S I : Int) (st st' : Nat → Option (List Value)) (e : Int) : Prop :=
  ∀ W : World, PartIs W p S I st → Calls Try.prog fn #[.pointer (some ⟨p, 0, none⟩), arg] W fun x W' => x = .returned (.int .i64 e) ∧ W.grownBy W' (some p) ∧ PartIs W' p S I st'
theorem below_grownBy {w w' : World} {r : Option Nat} (h : Below w.heap.size w w') : w.grownBy w' r := ⟨h.os, h.tape, h.output, h.size, fun k hk _ => h.block k hk⟩
theorem obj_cells {W : World} {ok : Nat → Prop} {s : S39} {cs : List Value} (h : Kd.FK k39 W ok s cs) : ∃ r : List Value, r.length = 13 ∧ (∀ v ∈ r, v.oneCell' = true) ∧ cs = idOf s.f0.f0.f0 s.f0.f0.f1 s.f0.f1 s.f0.f2 r := by
  obtain ⟨A14, c14, A15, c15, A16, c16, rfl, _⟩ := k39_openF h
  exact ⟨_, rfl, by simp [Value.oneCell'], rfl⟩
theorem fine_iff (a b : Int) : FineP a b ↔ Fine a b := by unfold Plaw.FineP Fine; omega
theorem lane_laneOf (s : S39) (h : FineP s.f0.f1 s.f0.f2) : lane s = (laneOf s.f0.f1 s.f0.f2 : Int) ∧ laneOf s.f0.f1 s.f0.f2 < 12 := by
  have h' := h
  unfold Plaw.FineP at h'
  unfold Plaw.lane Plaw.laneP laneOf
  rw [if_pos h]
  omega
abbrev putF (over : Bool) (S I : Int) (l : List S39) (o : S39) := forepeakref26_Put.f 130 S I l o.f0.f0.f0 o.f0.f0.f1 o.f0.f1 o.f0.f2 o.f1.f0 o.f1.f1 o.f2 o.f3 o.f4.f0 o.f4.f1 o.f5 o.f6 o.f7 o.f8.f0 o.f8.f1 o.f8.f2 o.f8.f3 over
theorem put_both {W : World} {ok : Nat → Prop} {S I : Int} {st : Nat → Option (List Value)} {sto : Sto} (hT : Tied W ok S I st sto) (p : Nat) (s : S39) (cs : List Value) (hF : Kd.FK k39 W ok s cs) (hq : Short 100 s) :
    ∃ e st' sto', Tied W ok S I st' sto' ∧ putF false S I (lst sto) s = some (S, I, lst sto', e) ∧ Does 15 (.agg cs.toArray) p S I st st' e := by
  obtain ⟨r, hr, h1, rfl⟩ := obj_cells hF
  by_cases hbad : FineP s.f0.f1 s.f0.f2 ∧ s.f0.f0.f0 = S ∧ s.f0.f0.f1 = I
  · obtain ⟨hf, hS, hI⟩ := hbad
    obtain ⟨hl, ht⟩ := lane_laneOf s hf
    generalize htt : laneOf s.f0.f1 s.f0.f2 = t at hl ht
    have hA : ∀ x ∈ lstA sto t, born s.f0.f0.f0 s.f0.f0.f1 x ∧ lane x < lane s := fun x hx => by have := hT.A ht x hx; rw [hS, hI]; exact ⟨this.1, by omega⟩
    have hB : ∀ x ∈ lstB sto t, born s.f0.f0.f0 s.f0.f0.f1 x ∧ lane s < lane x := fun x hx => by have := hT.B ht x hx; rw [hS, hI]; exact ⟨this.1, by omega⟩
    cases e : sto t with
    | none =>
      have hn := hT.no t ht e
      refine ⟨0, upd st t (some (idOf s.f0.f0.f0 s.f0.f0.f1 s.f0.f1 s.f0.f2 r)), supd sto t (some s), hT.put t s _ hF ⟨hf, hl, ⟨hS, hI⟩, hq⟩, ?_, fun W1 hP => ?_⟩
      · have := Plaw.put_new 0 (lstA sto t) (lstB sto t) s (lstAB_len sto t ht) hf hA hB
        rw [lst_none ht e, lst_put sto t ht s]
        rw [hS, hI] at this
        unfold putF
        rw [hS, hI]
        exact this
      · have := put_ok p S I s.f0.f1 s.f0.f2 r st W1 hP ((fine_iff _ _).1 hf) hr h1 (by rw [htt]; exact hn)
        rw [htt] at this
        rw [hS, hI]
        exact this
    | some x =>
      obtain ⟨cx, hx1, hx2, hx3⟩ := hT.yes t ht x e
      refine ⟨7, st, sto, hT, ?_, fun W1 hP => ?_⟩
      · have := Plaw.put_old 0 (lstA sto t) (lstB sto t) x s (lstAB_len sto t ht) hf (by rw [hx3.2.1, hl]) hA hB false
        rw [lst_some ht e]
        rw [hS, hI] at this
        unfold putF
        rw [hS, hI]
        exact this
      · have := put_there p S I s.f0.f1 s.f0.f2 r st W1 hP ((fine_iff _ _).1 hf) (by rw [htt, hx1]; rfl)
        rw [hS, hI]
        exact this.mono fun x W2 ⟨h2, h3⟩ => ⟨h2, below_grownBy h3, hP.below h3⟩
  · refine ⟨1, st, sto, hT, Plaw.put_bad 0 S I (lst sto) s false hbad, fun W1 hP => ?_⟩
    by_cases hf : FineP s.f0.f1 s.f0.f2
    · exact (put_err (.pointer (some ⟨p, 0, none⟩)) _ _ _ _ r 1 W1 rfl (fun W2 hb => at_other p S I s.f0.f0.f0 s.f0.f0.f1 s.f0.f1 s.f0.f2 st W2 (hP.below hb) ((fine_iff _ _).1 hf) (fun h => hbad ⟨hf, h⟩))).mono fun x W2 ⟨h2, h3⟩ => ⟨h2, below_grownBy h3, hP.below h3⟩
    · exact (put_err (.pointer (some ⟨p, 0, none⟩)) _ _ _ _ r 1 W1 rfl (fun W2 hb => at_unfine p _ _ _ _ W2 (fun h => hf ((fine_iff _ _).2 h)))).mono fun x W2 ⟨h2, h3⟩ => ⟨h2, below_grownBy h3, hP.below h3⟩
theorem set_both {W : World} {ok : Nat → Prop} {S I : Int} {st : Nat → Option (List Value)} {sto : Sto} (hT : Tied W ok S I st sto) (p : Nat) (s : S39) (cs : List Value) (hF : Kd.FK k39 W ok s cs) (hq : Short 100 s) :
    ∃ e st' sto', Tied W ok S I st' sto' ∧ putF true S I (lst sto) s = some (S, I, lst sto', e) ∧ Does 16 (.agg cs.toArray) p S I st st' e := by
  obtain ⟨r, hr, h1, rfl⟩ := obj_cells hF
  by_cases hbad : FineP s.f0.f1 s.f0.f2 ∧ s.f0.f0.f0 = S ∧ s.f0.f0.f1 = I
  · obtain ⟨hf, hS, hI⟩ := hbad
    obtain ⟨hl, ht⟩ := lane_laneOf s hf
    generalize htt : laneOf s.f0.f1 s.f0.f2 = t at hl ht
    have hA : ∀ x ∈ lstA sto t, born s.f0.f0.f0 s.f0.f0.f1 x ∧ lane x < lane s := fun x hx => by have := hT.A ht x hx; rw [hS, hI]; exact ⟨this.1, by omega⟩
    have hB : ∀ x ∈ lstB sto t, born s.f0.f0.f0 s.f0.f0.f1 x ∧ lane s < lane x := fun x hx => by have := hT.B ht x hx; rw [hS, hI]; exact ⟨this.1, by omega⟩
    cases e : sto t with
    | none =>
      have hn := hT.no t ht e
      refine ⟨6, st, sto, hT, ?_, fun W1 hP => ?_⟩
      · have := Plaw.set_new 0 (lst sto) s (Nat.le_trans (lst_len sto) (by omega)) hf (fun x hx => by
          rw [lst_none ht e] at hx
          rcases List.mem_append.1 hx with h | h
          · have := (hA x h).2; omega
          · have := (hB x h).2; omega)
        rw [hS, hI] at this
        unfold putF
        rw [hS, hI]
        exact this
      · have := set_none p S I s.f0.f1 s.f0.f2 r st W1 hP ((fine_iff _ _).1 hf) (by rw [htt]; exact hn)
        rw [hS, hI]
        exact this.mono fun x W2 ⟨h2, h3⟩ => ⟨h2, below_grownBy h3, hP.below h3⟩
    | some x =>
      obtain ⟨cx, hx1, hx2, hx3⟩ := hT.yes t ht x e
      refine ⟨0, upd st t (some (idOf s.f0.f0.f0 s.f0.f0.f1 s.f0.f1 s.f0.f2 r)), supd sto t (some s), hT.put t s _ hF ⟨hf, hl, ⟨hS, hI⟩, hq⟩, ?_, fun W1 hP => ?_⟩
      · have := Plaw.put_old 0 (lstA sto t) (lstB sto t) x s (lstAB_len sto t ht) hf (by rw [hx3.2.1, hl]) hA hB true
        rw [lst_some ht e, lst_put sto t ht s]
        rw [hS, hI] at this
        unfold putF
        rw [hS, hI]
        exact this
      · have := set_ok p S I s.f0.f1 s.f0.f2 r st W1 hP ((fine_iff _ _).1 hf) hr h1 (by rw [htt, hx1]; rfl)
        rw [htt] at this
        rw [hS, hI]
        exact this
  · refine ⟨1, st, sto, hT, Plaw.put_bad 0 S I (lst sto) s true hbad, fun W1 hP => ?_⟩
    by_cases hf : FineP s.f0.f1 s.f0.f2
    · exact (set_err (.pointer (some ⟨p, 0, none⟩)) _ _ _ _ r 1 W1 rfl (fun W2 hb => at_other p S I s.f0.f0.f0 s.f0.f0.f1 s.f0.f1 s.f0.f2 st W2 (hP.below hb) ((fine_iff _ _).1 hf) (fun h => hbad ⟨hf, h⟩))).mono fun x W2 ⟨h2, h3⟩ => ⟨h2, below_grownBy h3, hP.below h3⟩
    · exact (set_err (.pointer (some ⟨p, 0, none⟩)) _ _ _ _ r 1 W1 rfl (fun W2 hb => at_unfine p _ _ _ _ W2 (fun h => hf ((fine_iff _ _).2 h)))).mono fun x W2 ⟨h2, h3⟩ => ⟨h2, below_grownBy h3, hP.below h3⟩
theorem drop_both {W : World} {ok : Nat → Prop} {S I : Int} {st : Nat → Option (List Value)} {sto : Sto} (hT : Tied W ok S I st sto) (p : Nat) (l : Int) :
    ∃ e st' sto', Tied W ok S I st' sto' ∧ forepeakref26_Drop.f 120 S I (lst sto) l = some (S, I, lst sto', e) ∧ Does 18 (.int .i64 l) p S I st st' e := by
  by_cases hin : 0 ≤ l ∧ l < 12
  · obtain ⟨h0, h12⟩ := hin
    obtain ⟨t, rfl⟩ : ∃ t : Nat, l = t := ⟨l.toNat, by omega⟩
    have ht : t < 12 := by omega
    cases e : sto t with
    | none =>
      have hn := hT.no t ht e
      refine ⟨6, st, sto, hT, Plaw.drop_no 0 S I t (lst sto) (Nat.le_trans (lst_len sto) (by omega)) (.inr (fun x hx => by
          rw [lst_none ht e] at hx
          rcases List.mem_append.1 hx with h | h
          · have := (hT.A ht x h).2; omega
          · have := (hT.B ht x h).2; omega)), fun W1 hP => ?_⟩
      exact (drop_none p S I st t W1 hP h0 h12 (by rw [Int.toNat_natCast]; exact hn)).mono fun x W2 ⟨h2, h3⟩ => ⟨h2, below_grownBy h3, hP.below h3⟩
    | some x =>
      obtain ⟨cx, hx1, hx2, hx3⟩ := hT.yes t ht x e
      refine ⟨0, upd st t none, supd sto t none, hT.drop t, ?_, fun W1 hP => ?_⟩
      · rw [lst_some ht e, lst_drop sto t ht]
        exact Plaw.drop_val 0 S I t (lstA sto t) (lstB sto t) x (lstAB_len sto t ht) h0 hx3.2.1 (fun q hq => by have := (hT.A ht q hq).2; omega)
      · have := drop_ok p S I st t W1 hP h0 h12 (by rw [Int.toNat_natCast, hx1]; rfl)
        rw [Int.toNat_natCast] at this
        exact this
  · refine ⟨6, st, sto, hT, Plaw.drop_no 0 S I l (lst sto) (Nat.le_trans (lst_len sto) (by omega)) ?_, fun W1 hP => (drop_out p l W1 (by omega)).mono fun x W2 ⟨h2, h3⟩ => ⟨h2, below_grownBy h3, hP.below h3⟩⟩
    by_cases h0 : l < 0
    · exact .inl h0
    · refine .inr (fun x hx => ?_)
      obtain ⟨j, hj, _, hl, _⟩ := hT.mem hx
      omega
end Go.Proofs.Ytaapejhoegeimaa
