/- PartPlays: Get on both sides; the list that is gone through; the reference's calls on cells. No conditions. -/
import Derived.Test.YtaapejhoegeimaaTied
namespace Go.Proofs.Ytaapejhoegeimaa
open Go.RowKit Go.Shelf Go.Proofs.YtaapejhoegeimaaW.PrintWords Go.Proofs.Ytaapejhoegeimaa.PPartPlays
open Plaw (lane FineP born laneP)
set_option linter.unusedSimpArgs false
set_option linter.unusedVariables false

/-- Two objects that are the same. -/
def Pair (W : World) (ok : Nat → Prop) (o q : List Value) : Prop := (o = zobj ∧ q = zobj) ∨ ∃ s, Short 100 s ∧ Kd.FK k39 W ok s o ∧ Kd.FK k39 W ok s q
theorem Pair.step {W W1 : World} {ok : Nat → Prop} {o q : List Value} (h : Pair W ok o q) (hm : ∀ k, ok k → k < W.heap.size → W1.heap[k]? = W.heap[k]?) : Pair W1 ok o q := by
  rcases h with h | ⟨s, h1, h2, h3⟩
  · exact .inl h
  · exact .inr ⟨s, h1, Foot.step h2 hm, Foot.step h3 hm⟩
theorem Pair.same {W : World} {ok : Nat → Prop} {o q : List Value} (h : Pair W ok o q) : Calls Try.prog 21 #[.agg o.toArray, .agg q.toArray] W fun e w' => e = .returned (.bool true) ∧ Below W.heap.size W w' := by
  rcases h with ⟨rfl, rfl⟩ | ⟨s, h1, h2, h3⟩
  · exact ref25_same_zero W
  · exact same_obj s h1 o q W (Kd.FK_now h2) (Kd.FK_now h3)
theorem FK_len {W : World} {ok : Nat → Prop} {s : S39} {cs : List Value} (h : Kd.FK k39 W ok s cs) : cs.length = 17 := by
  have := k39.K_len (Kd.FK_now h)
  rw [k39_sz] at this
  exact this
theorem FK_one {W : World} {ok : Nat → Prop} {s : S39} {cs : List Value} (h : Kd.FK k39 W ok s cs) : ∀ v ∈ cs, v.oneCell' = true := k39.K_one (Kd.FK_now h)
/-- Get, on both sides: what the part's answers, and what the reference's does. -/
theorem get_both {W0 : World} {ok : Nat → Prop} {S I : Int} {st : Nat → Option (List Value)} {sto : Sto} (hT : Tied W0 ok S I st sto) (p : Nat) (l : Int) :
    ∃ (is : Bool) (o : List Value), o.length = 17 ∧ (∀ v ∈ o, v.oneCell' = true) ∧
      (∀ W, PartIs W p S I st → Calls Try.prog 19 #[.pointer (some ⟨p, 0, none⟩), .int .i64 l] W fun e W' => e = .returned (.tuple #[.agg o.toArray, .bool is]) ∧ Below W.heap.size W W') ∧
      (∀ (W : World) (A : Option Addr) (c b0 : Nat), Tied W ok S I st sto → Kd.V k39 39 W b0 ok (.slice A (lst sto).length c) (lst sto) → Calls Try.prog 20 #[.agg #[.int .u16 S, .int .u16 I, .slice A (lst sto).length c], .int .i64 l] W fun e W' =>
        ∃ q : List Value, q.length = 17 ∧ (∀ v ∈ q, v.oneCell' = true) ∧ Pair W' ok o q ∧ e = .returned (.tuple #[.agg q.toArray, .bool is]) ∧ Below W.heap.size W W') := by
  have hat := Plaw.at_pos 0 S I l (lst sto) (Nat.le_trans (lst_len sto) (by omega))
  have hno : ∀ (hz : ∀ x ∈ lst sto, lane x ≠ l) (W : World) (A : Option Addr) (c b0 : Nat), Kd.V k39 39 W b0 ok (.slice A (lst sto).length c) (lst sto) → Calls Try.prog 20 #[.agg #[.int .u16 S, .int .u16 I, .slice A (lst sto).length c], .int .i64 l] W fun e W' =>
        ∃ q : List Value, q.length = 17 ∧ (∀ v ∈ q, v.oneCell' = true) ∧ Pair W' ok zobj q ∧ e = .returned (.tuple #[.agg q.toArray, .bool false]) ∧ Below W.heap.size W W' := fun hz W A c b0 hV => by
    have h1 := hat
    rw [Plaw.posOf_none l _ 0 hz] at h1
    exact (rget_no 120 S I l (-1) ok A c b0 (lst sto) W hV h1 (.inr (by omega))).mono fun e W' ⟨he, hb⟩ => ⟨zobj, rfl, zobj_one, .inl ⟨rfl, rfl⟩, he, hb⟩
  by_cases hin : 0 ≤ l ∧ l < 12
  · obtain ⟨h0, h12⟩ := hin
    obtain ⟨t, rfl⟩ : ∃ t : Nat, l = t := ⟨l.toNat, by omega⟩
    have ht : t < 12 := by omega
    cases e : sto t with
    | none =>
      have hn := hT.no t ht e
      refine ⟨false, zobj, rfl, zobj_one, fun W hP => ?_, fun W A c b0 hT' hV => hno (fun x hx => ?_) W A c b0 hV⟩
      · have := get_in p S I st t W hP h0 h12
        rw [Int.toNat_natCast, hn] at this
        exact this
      · rw [lst_none ht e] at hx
        rcases List.mem_append.1 hx with h | h
        · have := (hT.A ht x h).2; omega
        · have := (hT.B ht x h).2; omega
    | some s =>
      obtain ⟨cx, hx1, hx2, hx3⟩ := hT.yes t ht s e
      have hL : (lst sto)[(lstA sto t).length]? = some s := by rw [lst_some ht e]; simp
      obtain ⟨hlt, heq⟩ := List.getElem?_eq_some_iff.1 hL
      refine ⟨true, cx, FK_len hx2, FK_one hx2, fun W hP => get_some p S I st t W hP h0 h12 cx (by rw [Int.toNat_natCast]; exact hx1), fun W A c b0 hT' hV => ?_⟩
      have h1 := hat
      have h2 := Plaw.posOf_some t s (lstB sto t) hx3.2.1 (lstA sto t) 0 (fun q hq => by have := (hT.A ht q hq).2; omega)
      rw [← lst_some ht e, Int.zero_add] at h2
      rw [h2] at h1
      refine (rget_at 120 S I t (lstA sto t).length ok A c b0 (lst sto) W hV h1 h0 hlt).mono ?_
      rintro e' W' ⟨cs, hl, hF, he, hb⟩
      rw [heq] at hF
      obtain ⟨cy, hy1, hy2, _⟩ := hT'.yes t ht s e
      obtain rfl : cx = cy := Option.some.inj (hx1.symm.trans hy1)
      exact ⟨cs, hl, FK_one hF, .inr ⟨s, hx3.2.2.2, Foot.step hy2 (fun k _ hk => hb.block k hk), Foot.step hF (fun k _ hk => hb.block k hk)⟩, he, hb⟩
  · refine ⟨false, zobj, rfl, zobj_one, fun W hP => get_out _ l W (.inr ⟨⟨_, rfl⟩, by omega⟩), fun W A c b0 _ hV => hno (fun x hx => ?_) W A c b0 hV⟩
    obtain ⟨j, hj, _, hl, _⟩ := hT.mem hx
    omega
/-- What is gone through is the reference's list. -/
theorem present_tied {W : World} {ok : Nat → Prop} {S I : Int} {st : Nat → Option (List Value)} {sto : Sto} (hT : Tied W ok S I st sto) (h : PartWf st) : ∀ n, n ≤ 12 →
    (present st h n).length = ((List.range n).filterMap sto).length ∧ ∀ (j : Nat) (s : S39), ((List.range n).filterMap sto)[j]? = some s → ∃ o, (present st h n)[j]? = some o ∧ Kd.FK k39 W ok s o.1
  | 0, _ => ⟨rfl, fun j s hj => by simp at hj⟩
  | n + 1, hn => by
    obtain ⟨h1, h2⟩ := present_tied hT h n (by omega)
    rw [List.range_succ, List.filterMap_append]
    cases e : sto n with
    | none =>
      rw [present_no h (hT.no n (by omega) e)]
      have hz0 : List.filterMap sto [n] = [] := by simp [e]
      rw [hz0, List.append_nil]
      exact ⟨h1, h2⟩
    | some s =>
      obtain ⟨cs, hc, hF, _⟩ := hT.yes n (by omega) s e
      obtain ⟨x, hx, hp⟩ := present_some h hc
      rw [hp]
      have hz : List.filterMap sto [n] = [s] := by simp [e]
      rw [hz]
      refine ⟨by simp [h1], fun j y hy => ?_⟩
      by_cases hj : j < ((List.range n).filterMap sto).length
      · rw [List.getElem?_append_left hj] at hy
        rw [List.getElem?_append_left (by omega)]
        exact h2 j y hy
      · rw [List.getElem?_append_right (by omega)] at hy
        rw [List.getElem?_append_right (by omega)]
        have hj0 : j - ((List.range n).filterMap sto).length = 0 := by
          have := (List.getElem?_eq_some_iff.1 hy).1
          simp at this
          omega
        rw [h1, hj0]
        rw [hj0] at hy
        obtain rfl : s = y := by simpa using hy
        exact ⟨x, rfl, by rw [hx]; exact hF⟩
theorem all_reads {W : World} {ok : Nat → Prop} {S I : Int} {st : Nat → Option (List Value)} {sto : Sto} (hT : Tied W ok S I st sto) (h : PartWf st) {b : Nat} {v : Value} (ho : W.ownsRow b 39 17 v (present st h 12).length ((present st h 12).flatMap (·.1))) :
    ∃ A c, v = .slice A (lst sto).length c ∧ Kd.C k39 W A (lst sto).length (lst sto) := by
  obtain ⟨h1, h2⟩ := present_tied hT h 12 (Nat.le_refl _)
  have hR : Reps (k39.K W) 17 (lst sto) ((present st h 12).flatMap (·.1)) := by
    have hfl : ∀ (l : List Obj17) (j : Nat) (o : Obj17), l[j]? = some o → ((l.flatMap (·.1)).drop (j * 17)).take 17 = o.1 := by
      intro l
      induction l with
      | nil => intro j o hj; simp at hj
      | cons a r ih =>
        intro j o hj
        cases j with
        | zero =>
          obtain rfl : a = o := by simpa using hj
          have := a.2.1
          rw [List.flatMap_cons, Nat.zero_mul, List.drop_zero, List.take_append_of_le_length (by omega), List.take_of_length_le (by omega)]
        | succ j =>
          have hlen := a.2.1
          rw [List.flatMap_cons, show (j + 1) * 17 = a.1.length + j * 17 from by omega, List.drop_append, List.drop_eq_nil_of_le (by omega), List.nil_append, show a.1.length + j * 17 - a.1.length = j * 17 from by omega]
          exact ih j o (by simpa using hj)
    have hll : ∀ l : List Obj17, (l.flatMap (·.1)).length = l.length * 17 := by
      intro l
      induction l with
      | nil => rfl
      | cons a r ih => rw [List.flatMap_cons, List.length_append, ih, List.length_cons, a.2.1]; omega
    refine ⟨by rw [hll, h1]; rfl, fun j s hj => ?_⟩
    obtain ⟨o, ho1, ho2⟩ := h2 j s hj
    rw [hfl _ j o ho1]
    exact Kd.FK_now ho2
  obtain ⟨A, c, rfl, hC⟩ := own_reads_row ho hR h1.symm
  refine ⟨A, c, by rw [h1]; rfl, ?_⟩
  have hC' : ReadsRow (k39.K W) k39.sz W A (lst sto).length (lst sto) := by rw [k39_sz]; rw [h1] at hC; exact hC
  exact hC'
theorem rput_ok (over : Bool) (S I : Int) (A : Option Addr) (c b0 : Nat) (l l' : List S39) (s : S39) (cs : List Value) (e : Int) (ok : Nat → Prop) (w : World) (hV : Kd.V k39 39 w b0 ok (.slice A l.length c) l) (hF : Kd.FK k39 w ok s cs) (hok : ∀ k, w.heap.size ≤ k → ok k) (h : putF over S I l s = some (S, I, l', e)) :
    Calls Try.prog 14 #[.agg #[.int .u16 S, .int .u16 I, .slice A l.length c], .agg cs.toArray, .bool over] w fun x w' => ∃ A' c', x = .returned (.tuple #[.agg #[.int .u16 S, .int .u16 I, .slice A' l'.length c'], .int .i64 e]) ∧ Kd.V k39 39 w' 0 ok (.slice A' l'.length c') l' ∧ Below w.heap.size w w' := by
  obtain ⟨A1, c1, A2, c2, A3, c3, rfl, l1, g1, l2, g2, l3, g3⟩ := k39_openF hF
  refine (forepeakref26_Put.calls 130 S I ok A c l _ _ _ _ _ _ _ _ _ _ _ _ _ _ ok A1 c1 _ ok A2 c2 _ ok A3 c3 _ over S I l' e w hV (Kd.V_mk l1 g1) (Kd.V_mk l2 g2) (Kd.V_mk l3 g3) h).mono ?_
  rintro x w' ⟨v, he, hv, hb⟩
  obtain ⟨A', c', rfl⟩ := Kd.V_slice hv
  refine ⟨A', c', he, Kd.V_mono hv (fun k hk => ?_), hb⟩
  rcases hk with (h | h | h | h) | h
  · exact h
  · exact h
  · exact h
  · exact h
  · exact hok k h
theorem rdrop_ok (S I : Int) (A : Option Addr) (c b0 : Nat) (l l' : List S39) (t e : Int) (ok : Nat → Prop) (w : World) (hV : Kd.V k39 39 w b0 ok (.slice A l.length c) l) (hok : ∀ k, w.heap.size ≤ k → ok k) (h : forepeakref26_Drop.f 120 S I l t = some (S, I, l', e)) :
    Calls Try.prog 17 #[.agg #[.int .u16 S, .int .u16 I, .slice A l.length c], .int .i64 t] w fun x w' => ∃ A' c', x = .returned (.tuple #[.agg #[.int .u16 S, .int .u16 I, .slice A' l'.length c'], .int .i64 e]) ∧ Kd.V k39 39 w' 0 ok (.slice A' l'.length c') l' ∧ Below w.heap.size w w' := by
  refine (forepeakref26_Drop.calls 120 S I ok A c l t S I l' e w hV h).mono ?_
  rintro x w' ⟨v, he, hv, hb⟩
  obtain ⟨A', c', rfl⟩ := Kd.V_slice hv
  refine ⟨A', c', he, Kd.V_mono hv (fun k hk => ?_), hb⟩
  rcases hk with h | h
  · exact h
  · exact hok k h
end Go.Proofs.Ytaapejhoegeimaa
