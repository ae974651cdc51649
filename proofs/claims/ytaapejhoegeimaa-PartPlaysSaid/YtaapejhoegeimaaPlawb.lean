/- PartPlays: the plain laws of the printed functions, second part: insertion, Put, Drop. No conditions. -/
import Derived.Test.YtaapejhoegeimaaPlaw
import Derived.Test.YtaapejhoegeimaaVPPartPlays8
namespace Go.Proofs.Ytaapejhoegeimaa.Plaw
open Go.RowKit Go.Proofs.YtaapejhoegeimaaW.PrintWords Go.Proofs.Ytaapejhoegeimaa.PPartPlays
set_option linter.unusedVariables false
set_option linter.unusedSimpArgs false

def born (S I : Int) (o : S39) : Prop := o.f0.f0.f0 = S ∧ o.f0.f0.f1 = I
theorem cmp_val (k : Nat) (S I a b c d : Int) : forepeakref21_Cmp.f (k + 16) S I a b S I c d = some (if laneP a b < laneP c d then -1 else if laneP a b > laneP c d then 1 else 0) := by
  unfold forepeakref21_Cmp.f
  rw [if_neg (by simp), lane_val, lane_val]
  show (if laneP a b < laneP c d then some (-1 : Int) else if laneP a b > laneP c d then some 1 else some 0) = _
  split
  · rfl
  · split <;> rfl
theorem with_at (k : Nat) (A B : List S39) (o : S39) (hl : A.length + B.length ≤ 100) (hB : ∀ x ∈ B, born o.f0.f0.f0 o.f0.f0.f1 x ∧ ¬ lane x < lane o) :
    forepeakref26_With.l0 (k + 17) (A ++ B) A.length o.f0.f0.f0 o.f0.f0.f1 o.f0.f1 o.f0.f2 o.f1.f0 o.f1.f1 o.f2 o.f3 o.f4.f0 o.f4.f1 o.f5 o.f6 o.f7 o.f8.f0 o.f8.f1 o.f8.f2 o.f8.f3 = some (A ++ o :: B) := by
  have hlen : ((A ++ B).length : Int) = A.length + B.length := by simp
  have ht : (A ++ B).take A.length = A := by simp
  have hd : (A ++ B).drop A.length = B := by simp
  have hn : ((A.length : Int)).toNat = A.length := by omega
  unfold forepeakref26_With.l0
  generalize hM : (879609302220 : Nat) = M
  have hM1 : 1000 < M := by omega
  clear hM
  have c0 : (0 : Int) ≤ A.length := by omega
  have c2 : (A.length : Int) ≤ ((A ++ B).length : Int) := by omega
  have c5 : ([] : List S39).length + A.length < M := by show 0 + A.length < M; omega
  have c6 : ([] ++ A : List S39).length < M := by show A.length < M; omega
  have c7 : ([] ++ A ++ [o] : List S39).length + B.length < M := by simp; omega
  have hfin : some ([] ++ A ++ [o] ++ B) = some (A ++ o :: B) := by simp
  cases B with
  | nil =>
    rw [if_neg (by rw [hlen]; simp), hn, ht, hd]
    show (if (0 : Int) ≤ A.length then if (A.length : Int) ≤ ((A ++ []).length : Int) then if ([] : List S39).length + A.length < M then if ([] ++ A : List S39).length < M then if ([] ++ A ++ [o] : List S39).length + ([] : List S39).length < M then some ([] ++ A ++ [o] ++ []) else none else none else none else none else none) = _
    rw [if_pos c0, if_pos c2, if_pos c5, if_pos c6, if_pos c7]
    exact hfin
  | cons x B =>
    have hx := hB x List.mem_cons_self
    have hxl : A.length < (A ++ x :: B).length := by simp
    have hrd : rd_T39 (A ++ x :: B) (A.length : Int) = x := by rw [rd_at _ _ hxl]; simp
    rw [if_pos (by rw [hlen]; simp; omega), if_pos c0, hrd, hx.1.1, hx.1.2, cmp_val, hn, ht, hd]
    have c8 : ¬ (if laneP x.f0.f1 x.f0.f2 < laneP o.f0.f1 o.f0.f2 then (-1 : Int) else if laneP x.f0.f1 x.f0.f2 > laneP o.f0.f1 o.f0.f2 then 1 else 0) < 0 := by
      rw [if_neg (show ¬ laneP x.f0.f1 x.f0.f2 < laneP o.f0.f1 o.f0.f2 from hx.2)]; split <;> omega
    show (if (if laneP x.f0.f1 x.f0.f2 < laneP o.f0.f1 o.f0.f2 then (-1 : Int) else if laneP x.f0.f1 x.f0.f2 > laneP o.f0.f1 o.f0.f2 then 1 else 0) < 0 then _ else if (A.length : Int) ≤ ((A ++ x :: B).length : Int) then if ([] : List S39).length + A.length < M then if ([] ++ A : List S39).length < M then if ([] ++ A ++ [o] : List S39).length + (x :: B).length < M then some ([] ++ A ++ [o] ++ x :: B) else none else none else none else none) = _
    rw [if_neg c8, if_pos c2, if_pos c5, if_pos c6, if_pos c7]
    exact hfin
theorem with_from (A B : List S39) (o : S39) (hl : A.length + B.length ≤ 100) (hA : ∀ x ∈ A, born o.f0.f0.f0 o.f0.f0.f1 x ∧ lane x < lane o) (hB : ∀ x ∈ B, born o.f0.f0.f0 o.f0.f0.f1 x ∧ ¬ lane x < lane o) :
    ∀ (d x k : Nat), x + d = A.length → forepeakref26_With.l0 (k + 17 + d) (A ++ B) x o.f0.f0.f0 o.f0.f0.f1 o.f0.f1 o.f0.f2 o.f1.f0 o.f1.f1 o.f2 o.f3 o.f4.f0 o.f4.f1 o.f5 o.f6 o.f7 o.f8.f0 o.f8.f1 o.f8.f2 o.f8.f3 = some (A ++ o :: B)
  | 0, x, k, hx => by
    obtain rfl : x = A.length := by omega
    exact with_at k A B o hl hB
  | d + 1, x, k, hx => by
    have ih := with_from A B o hl hA hB d (x + 1) k (by omega)
    have hxa : x < A.length := by omega
    have hlen : ((A ++ B).length : Int) = A.length + B.length := by simp
    have hxl : x < (A ++ B).length := by simp; omega
    have hrd : rd_T39 (A ++ B) (x : Int) = A[x] := by rw [rd_at _ _ hxl]; simp [hxa]
    have hq := hA A[x] (List.getElem_mem hxa)
    have hq2 : laneP A[x].f0.f1 A[x].f0.f2 < laneP o.f0.f1 o.f0.f2 := hq.2
    unfold forepeakref26_With.l0
    rw [if_pos (by rw [hlen]; omega), if_pos (by omega), hrd, hq.1.1, hq.1.2, show (k + 17).add d = (k + 1 + d) + 16 from (by show k + 17 + d = _; omega), cmp_val, show (k + 1 + d) + 16 = k + 17 + d from by omega, if_pos hq2]
    rw [Option.bind_some, if_pos (by omega), w64 (by omega) (by omega), show ((x : Int) + 1) = ((x + 1 : Nat) : Int) from by omega]
    exact ih
theorem with_val (k : Nat) (A B : List S39) (o : S39) (hl : A.length + B.length ≤ 100) (hA : ∀ x ∈ A, born o.f0.f0.f0 o.f0.f0.f1 x ∧ lane x < lane o) (hB : ∀ x ∈ B, born o.f0.f0.f0 o.f0.f0.f1 x ∧ ¬ lane x < lane o) :
    forepeakref26_With.f (k + 117) (A ++ B) o.f0.f0.f0 o.f0.f0.f1 o.f0.f1 o.f0.f2 o.f1.f0 o.f1.f1 o.f2 o.f3 o.f4.f0 o.f4.f1 o.f5 o.f6 o.f7 o.f8.f0 o.f8.f1 o.f8.f2 o.f8.f3 = some (A ++ o :: B) := by
  unfold forepeakref26_With.f
  have := with_from A B o hl hA hB A.length 0 (k + 100 - A.length) (by omega)
  rw [show k + 100 - A.length + 17 + A.length = k + 117 from by omega] at this
  exact this
theorem j0_eq (k : Nat) (x2 x20 : Bool) (S I : Int) (l : List S39) (o : S39) : forepeakref26_Put.j0 (k + 1) x2 x20 S I l o.f0.f0.f0 o.f0.f0.f1 o.f0.f1 o.f0.f2 o.f1.f0 o.f1.f1 o.f2 o.f3 o.f4.f0 o.f4.f1 o.f5 o.f6 o.f7 o.f8.f0 o.f8.f1 o.f8.f2 o.f8.f3 = if x20 = true then (some (S, I, l, 1)) else ((forepeakref21_Lane.f k o.f0.f0.f0 o.f0.f0.f1 o.f0.f1 o.f0.f2).bind fun t203 => ((forepeakref26_at.f k S I l t203).bind fun t204 => (if x2 = true then (forepeakref26_Put.j1 k x2 t204 false S I l o.f0.f0.f0 o.f0.f0.f1 o.f0.f1 o.f0.f2 o.f1.f0 o.f1.f1 o.f2 o.f3 o.f4.f0 o.f4.f1 o.f5 o.f6 o.f7 o.f8.f0 o.f8.f1 o.f8.f2 o.f8.f3) else (forepeakref26_Put.j1 k x2 t204 (decide (t204 ≥ 0)) S I l o.f0.f0.f0 o.f0.f0.f1 o.f0.f1 o.f0.f2 o.f1.f0 o.f1.f1 o.f2 o.f3 o.f4.f0 o.f4.f1 o.f5 o.f6 o.f7 o.f8.f0 o.f8.f1 o.f8.f2 o.f8.f3)))) := rfl
theorem j1_eq (k : Nat) (x2 : Bool) (x8 : Int) (x32 : Bool) (S I : Int) (l : List S39) (o : S39) : forepeakref26_Put.j1 (k + 1) x2 x8 x32 S I l o.f0.f0.f0 o.f0.f0.f1 o.f0.f1 o.f0.f2 o.f1.f0 o.f1.f1 o.f2 o.f3 o.f4.f0 o.f4.f1 o.f5 o.f6 o.f7 o.f8.f0 o.f8.f1 o.f8.f2 o.f8.f3 = if x32 = true then (some (S, I, l, 7)) else (if x2 = true then (forepeakref26_Put.j2 k x2 x8 (decide (x8 < 0)) S I l o.f0.f0.f0 o.f0.f0.f1 o.f0.f1 o.f0.f2 o.f1.f0 o.f1.f1 o.f2 o.f3 o.f4.f0 o.f4.f1 o.f5 o.f6 o.f7 o.f8.f0 o.f8.f1 o.f8.f2 o.f8.f3) else (forepeakref26_Put.j2 k x2 x8 false S I l o.f0.f0.f0 o.f0.f0.f1 o.f0.f1 o.f0.f2 o.f1.f0 o.f1.f1 o.f2 o.f3 o.f4.f0 o.f4.f1 o.f5 o.f6 o.f7 o.f8.f0 o.f8.f1 o.f8.f2 o.f8.f3)) := rfl
theorem j2_eq (k : Nat) (x2 : Bool) (x8 : Int) (x38 : Bool) (S I : Int) (l : List S39) (o : S39) : forepeakref26_Put.j2 (k + 1) x2 x8 x38 S I l o.f0.f0.f0 o.f0.f0.f1 o.f0.f1 o.f0.f2 o.f1.f0 o.f1.f1 o.f2 o.f3 o.f4.f0 o.f4.f1 o.f5 o.f6 o.f7 o.f8.f0 o.f8.f1 o.f8.f2 o.f8.f3 = if x38 = true then (some (S, I, l, 6)) else (if x2 = true then ((forepeakref26_Without.f l x8).bind fun t205 => ((forepeakref26_With.f k t205 o.f0.f0.f0 o.f0.f0.f1 o.f0.f1 o.f0.f2 o.f1.f0 o.f1.f1 o.f2 o.f3 o.f4.f0 o.f4.f1 o.f5 o.f6 o.f7 o.f8.f0 o.f8.f1 o.f8.f2 o.f8.f3).bind fun t208 => (some (S, I, t208, 0)))) else ((forepeakref26_With.f k l o.f0.f0.f0 o.f0.f0.f1 o.f0.f1 o.f0.f2 o.f1.f0 o.f1.f1 o.f2 o.f3 o.f4.f0 o.f4.f1 o.f5 o.f6 o.f7 o.f8.f0 o.f8.f1 o.f8.f2 o.f8.f3).bind fun t211 => (some (S, I, t211, 0)))) := rfl
/-- The reference's Put and Set, where the name is fine and of this birth: A: the objects of lesser lanes, B: of greater ones. -/
theorem put_new (k : Nat) (A B : List S39) (o : S39) (hl : A.length + B.length ≤ 90) (hf : FineP o.f0.f1 o.f0.f2) (hA : ∀ x ∈ A, born o.f0.f0.f0 o.f0.f0.f1 x ∧ lane x < lane o) (hB : ∀ x ∈ B, born o.f0.f0.f0 o.f0.f0.f1 x ∧ lane o < lane x) :
    forepeakref26_Put.f (k + 130) o.f0.f0.f0 o.f0.f0.f1 (A ++ B) o.f0.f0.f0 o.f0.f0.f1 o.f0.f1 o.f0.f2 o.f1.f0 o.f1.f1 o.f2 o.f3 o.f4.f0 o.f4.f1 o.f5 o.f6 o.f7 o.f8.f0 o.f8.f1 o.f8.f2 o.f8.f3 false = some (o.f0.f0.f0, o.f0.f0.f1, A ++ o :: B, 0) := by
  have hne : ∀ x ∈ A ++ B, lane x ≠ lane o := fun x hx => by
    rcases List.mem_append.1 hx with h | h
    · have := (hA x h).2; omega
    · have := (hB x h).2; omega
  have h1 := lane_val (k + 113) o.f0.f0.f0 o.f0.f0.f1 o.f0.f1 o.f0.f2
  have h2 := at_pos (k + 9) o.f0.f0.f0 o.f0.f0.f1 (lane o) (A ++ B) (by rw [List.length_append]; omega)
  rw [posOf_none _ _ _ hne] at h2
  have h3 := with_val (k + 10) A B o (by omega) hA (fun x hx => ⟨(hB x hx).1, by have := (hB x hx).2; omega⟩)
  unfold forepeakref26_Put.f
  rw [fine_val, decide_eq_true hf]
  rw [Option.bind_some, if_pos rfl]
  rw [j0_eq (k + 129), if_neg (by simp)]
  rw [show (k + 113 + 16) = k + 129 from rfl] at h1
  rw [show (k + 9 + 120) = k + 129 from rfl] at h2
  rw [show (k + 10 + 117) = k + 127 from rfl] at h3
  rw [h1, Option.bind_some]
  rw [show laneP o.f0.f1 o.f0.f2 = lane o from rfl, h2, Option.bind_some, if_neg (by simp), j1_eq (k + 128), if_neg (by simp), if_neg (by simp), j2_eq (k + 127), if_neg (by simp), if_neg (by simp), h3]
  rfl
/-- .. where one is there: Put refuses, Set sets. -/
theorem put_old (k : Nat) (A B : List S39) (x o : S39) (hl : A.length + B.length ≤ 90) (hf : FineP o.f0.f1 o.f0.f2) (hx : lane x = lane o) (hA : ∀ x ∈ A, born o.f0.f0.f0 o.f0.f0.f1 x ∧ lane x < lane o) (hB : ∀ x ∈ B, born o.f0.f0.f0 o.f0.f0.f1 x ∧ lane o < lane x) (over : Bool) :
    forepeakref26_Put.f (k + 130) o.f0.f0.f0 o.f0.f0.f1 (A ++ x :: B) o.f0.f0.f0 o.f0.f0.f1 o.f0.f1 o.f0.f2 o.f1.f0 o.f1.f1 o.f2 o.f3 o.f4.f0 o.f4.f1 o.f5 o.f6 o.f7 o.f8.f0 o.f8.f1 o.f8.f2 o.f8.f3 over = some (if over then (o.f0.f0.f0, o.f0.f0.f1, A ++ o :: B, 0) else (o.f0.f0.f0, o.f0.f0.f1, A ++ x :: B, 7)) := by
  have h1 := lane_val (k + 113) o.f0.f0.f0 o.f0.f0.f1 o.f0.f1 o.f0.f2
  have h2 := at_pos (k + 9) o.f0.f0.f0 o.f0.f0.f1 (lane o) (A ++ x :: B) (by rw [List.length_append, List.length_cons]; omega)
  rw [posOf_some _ _ _ hx _ _ (fun q hq => by have := (hA q hq).2; omega), Int.zero_add] at h2
  have h3 := with_val (k + 10) A B o (by omega) hA (fun x hx => ⟨(hB x hx).1, by have := (hB x hx).2; omega⟩)
  have h4 := without_val A B x (by omega)
  unfold forepeakref26_Put.f
  rw [fine_val, decide_eq_true hf]
  rw [Option.bind_some, if_pos rfl]
  rw [j0_eq (k + 129), if_neg (by simp)]
  rw [show (k + 113 + 16) = k + 129 from rfl] at h1
  rw [show (k + 9 + 120) = k + 129 from rfl] at h2
  rw [show (k + 10 + 117) = k + 127 from rfl] at h3
  rw [h1, Option.bind_some]
  rw [show laneP o.f0.f1 o.f0.f2 = lane o from rfl, h2, Option.bind_some]
  cases over with
  | true =>
    rw [if_pos rfl, j1_eq (k + 128), if_neg (by simp), if_pos rfl, j2_eq (k + 127), if_neg (by simp), if_pos rfl, h4, Option.bind_some, h3]
    rfl
  | false =>
    rw [if_neg (by simp), j1_eq (k + 128), if_pos (by simp)]
    rfl
/-- Set where none is. -/
theorem set_new (k : Nat) (l : List S39) (o : S39) (hl : l.length ≤ 90) (hf : FineP o.f0.f1 o.f0.f2) (hne : ∀ x ∈ l, lane x ≠ lane o) :
    forepeakref26_Put.f (k + 130) o.f0.f0.f0 o.f0.f0.f1 l o.f0.f0.f0 o.f0.f0.f1 o.f0.f1 o.f0.f2 o.f1.f0 o.f1.f1 o.f2 o.f3 o.f4.f0 o.f4.f1 o.f5 o.f6 o.f7 o.f8.f0 o.f8.f1 o.f8.f2 o.f8.f3 true = some (o.f0.f0.f0, o.f0.f0.f1, l, 6) := by
  have h1 := lane_val (k + 113) o.f0.f0.f0 o.f0.f0.f1 o.f0.f1 o.f0.f2
  have h2 := at_pos (k + 9) o.f0.f0.f0 o.f0.f0.f1 (lane o) l (by omega)
  rw [posOf_none _ _ _ hne] at h2
  unfold forepeakref26_Put.f
  rw [fine_val, decide_eq_true hf]
  rw [Option.bind_some, if_pos rfl]
  rw [j0_eq (k + 129), if_neg (by simp)]
  rw [show (k + 113 + 16) = k + 129 from rfl] at h1
  rw [show (k + 9 + 120) = k + 129 from rfl] at h2
  rw [h1, Option.bind_some]
  rw [show laneP o.f0.f1 o.f0.f2 = lane o from rfl, h2, Option.bind_some, if_pos rfl, j1_eq (k + 128), if_neg (by simp), if_pos rfl, j2_eq (k + 127), if_pos (by simp)]
/-- A name that is not fine, or of another birth. -/
theorem put_bad (k : Nat) (S I : Int) (l : List S39) (o : S39) (over : Bool) (h : ¬ (FineP o.f0.f1 o.f0.f2 ∧ o.f0.f0.f0 = S ∧ o.f0.f0.f1 = I)) :
    forepeakref26_Put.f (k + 130) S I l o.f0.f0.f0 o.f0.f0.f1 o.f0.f1 o.f0.f2 o.f1.f0 o.f1.f1 o.f2 o.f3 o.f4.f0 o.f4.f1 o.f5 o.f6 o.f7 o.f8.f0 o.f8.f1 o.f8.f2 o.f8.f3 over = some (S, I, l, 1) := by
  unfold forepeakref26_Put.f
  rw [fine_val]
  by_cases hf : FineP o.f0.f1 o.f0.f2
  · rw [decide_eq_true hf, Option.bind_some, if_pos rfl, j0_eq (k + 129), if_pos ?_]
    by_cases e : o.f0.f0.f0 = S
    · have : ¬ o.f0.f0.f1 = I := fun e' => h ⟨hf, e, e'⟩
      simp [e, this]
    · simp [e]
  · rw [decide_eq_false hf, Option.bind_some, if_neg (by simp), j0_eq (k + 129), if_pos rfl]
end Go.Proofs.Ytaapejhoegeimaa.Plaw
