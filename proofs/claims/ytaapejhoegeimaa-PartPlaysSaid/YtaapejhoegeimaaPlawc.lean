/- PartPlays: the plain laws of the printed functions, third part: Drop, Same, Far. No conditions. -/
import Derived.Test.YtaapejhoegeimaaPlawb
import Derived.Test.YtaapejhoegeimaaVx9
namespace Go.Proofs.Ytaapejhoegeimaa.Plaw
open Go.RowKit Go.Proofs.YtaapejhoegeimaaW.PrintWords Go.Proofs.Ytaapejhoegeimaa.PPartPlays
set_option linter.unusedVariables false
set_option linter.unusedSimpArgs false

theorem drop_val (k : Nat) (S I t : Int) (A B : List S39) (x : S39) (hl : A.length + B.length ≤ 90) (h0 : 0 ≤ t) (hx : lane x = t) (hA : ∀ q ∈ A, lane q ≠ t) :
    forepeakref26_Drop.f (k + 120) S I (A ++ x :: B) t = some (S, I, A ++ B, 0) := by
  unfold forepeakref26_Drop.f
  rw [at_pos k S I t _ (by rw [List.length_append, List.length_cons]; omega), posOf_some _ _ _ hx _ _ hA, Int.zero_add, Option.bind_some, if_neg (by omega), if_neg (by omega), without_val A B x (by omega)]
  rfl
theorem drop_no (k : Nat) (S I t : Int) (l : List S39) (hl : l.length ≤ 90) (h : t < 0 ∨ ∀ q ∈ l, lane q ≠ t) :
    forepeakref26_Drop.f (k + 120) S I l t = some (S, I, l, 6) := by
  unfold forepeakref26_Drop.f
  rw [at_pos k S I t _ (by omega), Option.bind_some]
  by_cases h0 : t < 0
  · rw [if_pos h0]
  · rcases h with h | h
    · exact absurd h h0
    · rw [if_neg h0, posOf_none _ _ _ h, if_pos (by omega)]
theorem same22_from (l : List S89) (hl : l.length ≤ 100) : ∀ (d x k : Nat), x + d = l.length → forepeakref22_Same.l0 (k + 1 + d) l l x = some true
  | 0, x, k, hx => by
    show (if (x : Int) < (l.length : Int) then _ else some true) = _
    rw [if_neg (by omega)]
  | d + 1, x, k, hx => by
    have ih := same22_from l hl d (x + 1) k (by omega)
    unfold forepeakref22_Same.l0
    rw [if_pos (by omega), if_pos (by omega), if_pos (by omega), if_neg (by simp), w64 (by omega) (by omega), show ((x : Int) + 1) = ((x + 1 : Nat) : Int) from by omega]
    exact ih
theorem same22 (k : Nat) (l : List S89) (hl : l.length ≤ 100) : forepeakref22_Same.f (k + 101) l l = some true := by
  unfold forepeakref22_Same.f
  rw [if_pos rfl]
  have := same22_from l hl l.length 0 (k + 100 - l.length) (by omega)
  rw [show k + 100 - l.length + 1 + l.length = k + 101 from by omega] at this
  exact this
theorem same23 (k : Nat) (n : Int) (q r s : List S89) (hq : q.length ≤ 100) (hr : r.length ≤ 100) (hs : s.length ≤ 100) : forepeakref23_Same.f (k + 101) n q r s n q r s = some true := by
  unfold forepeakref23_Same.f
  rw [if_pos rfl, same22 k q hq, Option.bind_some, if_pos rfl, same22 k r hr, Option.bind_some, if_pos rfl, same22 k s hs]
  rfl
theorem same25 (k : Nat) (o : S39) (hq : o.f8.f1.length ≤ 100) (hr : o.f8.f2.length ≤ 100) (hs : o.f8.f3.length ≤ 100) : forepeakref25_Same.f (k + 101) o.f0.f0.f0 o.f0.f0.f1 o.f0.f1 o.f0.f2 o.f1.f0 o.f1.f1 o.f2 o.f3 o.f4.f0 o.f4.f1 o.f5 o.f6 o.f7 o.f8.f0 o.f8.f1 o.f8.f2 o.f8.f3 o.f0.f0.f0 o.f0.f0.f1 o.f0.f1 o.f0.f2 o.f1.f0 o.f1.f1 o.f2 o.f3 o.f4.f0 o.f4.f1 o.f5 o.f6 o.f7 o.f8.f0 o.f8.f1 o.f8.f2 o.f8.f3 = some true := by
  unfold forepeakref25_Same.f
  rw [if_pos (by simp), if_pos (by simp), if_pos rfl, if_pos (by simp), if_pos (by simp), if_pos rfl, if_pos rfl, if_pos (by simp), same23 k _ _ _ _ hq hr hs]
  rfl
end Go.Proofs.Ytaapejhoegeimaa.Plaw
