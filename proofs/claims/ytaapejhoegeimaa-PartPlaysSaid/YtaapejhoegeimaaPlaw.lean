/- PartPlays: the plain laws of the printed functions: lanes, positions, insertion and removal in a list ordered by lanes. No conditions. -/
import Derived.Test.YtaapejhoegeimaaVPPartPlays5
namespace Go.Proofs.Ytaapejhoegeimaa.Plaw
open Go.RowKit Go.Proofs.YtaapejhoegeimaaW.PrintWords Go.Proofs.Ytaapejhoegeimaa.PPartPlays
set_option linter.unusedVariables false
set_option linter.unusedSimpArgs false

theorem w64 {x : Int} (h0 : -9223372036854775808 ≤ x) (h1 : x < 9223372036854775808) : wrap64 x = x := by unfold wrap64; omega
def FineP (a b : Int) : Prop := (1 ≤ a ∧ a ≤ 3) ∧ (0 ≤ b ∧ b ≤ 3)
instance (a b : Int) : Decidable (FineP a b) := inferInstanceAs (Decidable ((1 ≤ a ∧ a ≤ 3) ∧ (0 ≤ b ∧ b ≤ 3)))
def laneP (a b : Int) : Int := if FineP a b then (a - 1) * 4 + b else -1
theorem fine_val (S I a b : Int) : forepeakref21_Fine.f S I a b = some (decide (FineP a b)) := by
  unfold forepeakref21_Fine.f
  have ht : FineP a b → some true = some (decide (FineP a b)) := fun h => congrArg some (decide_eq_true h).symm
  have hf : ¬ FineP a b → some false = some (decide (FineP a b)) := fun h => congrArg some (decide_eq_false h).symm
  have hb : (b = 3 → FineP a b) → (¬ b = 3 → ¬ FineP a b) → some (b == 3) = some (decide (FineP a b)) := fun h1 h2 => by
    by_cases e : b = 3
    · rw [show (b == 3) = true from by simp [e]]; exact ht (h1 e)
    · rw [show (b == 3) = false from by simp [e]]; exact hf (h2 e)
  repeat' split
  all_goals first | (apply ht; unfold FineP; omega) | (apply hf; unfold FineP; omega) | (apply hb <;> unfold FineP <;> omega)
theorem at_gt (k : Nat) (S I c x : Int) (h0 : 3 < x) (h1 : x < 12) (hc : 0 ≤ c ∧ c ≤ 3) : forepeakref21_At.l0 (k + 1) S I c x = forepeakref21_At.l0 k S I (c + 1) (x - 4) := by
  show (if x > 3 then (if x < 12 then (forepeakref21_At.l0 k S I (wrap64 (c + 1)) (wrap64 (x - 4))) else _) else _) = _
  rw [if_pos h0, if_pos h1, w64 (by omega) (by omega), w64 (by omega) (by omega)]
theorem at_le (k : Nat) (S I c x : Int) (h0 : 0 ≤ x) (h1 : x ≤ 3) (hc : 1 ≤ c ∧ c ≤ 3) : forepeakref21_At.l0 (k + 1) S I c x = some (S, I, c, x) := by
  show (if x > 3 then _ else ((forepeakref21_Fine.f S I c x).bind fun t117 => (if t117 = true then (some (S, I, c, x)) else (some (0, 0, 0, 0))))) = _
  rw [if_neg (by omega), fine_val, decide_eq_true (by unfold FineP; omega)]
  rfl
theorem at_val (k : Nat) (S I : Int) (n : Nat) (hn : n < 12) : forepeakref21_At.f (k + 3) S I n = some (S, I, (n : Int) / 4 + 1, (n : Int) % 4) := by
  unfold forepeakref21_At.f
  by_cases h4 : n < 4
  · rw [at_le _ _ _ _ _ (by omega) (by omega) (by omega)]
    congr 4 <;> omega
  · rw [at_gt _ _ _ _ _ (by omega) (by omega) (by omega)]
    by_cases h8 : n < 8
    · rw [at_le _ _ _ _ _ (by omega) (by omega) (by omega)]
      congr 4 <;> omega
    · rw [at_gt _ _ _ _ _ (by omega) (by omega) (by omega), at_le _ _ _ _ _ (by omega) (by omega) (by omega)]
      congr 4 <;> omega
theorem lane_from (S I a b : Int) : ∀ (d x k : Nat), x + d = 12 → forepeakref21_Lane.l0 (k + 4 + d) x S I a b = some (if FineP a b ∧ (x : Int) ≤ (a - 1) * 4 + b then (a - 1) * 4 + b else -1)
  | 0, x, k, hx => by
    obtain rfl : x = 12 := by omega
    show (if ((12 : Nat) : Int) < 12 then _ else some (-1 : Int)) = _
    rw [if_neg (by omega), if_neg (by unfold FineP; omega)]
  | d + 1, x, k, hx => by
    have ih := lane_from S I a b d (x + 1) k (by omega)
    show (if (x : Int) < 12 then ((forepeakref21_At.f (k + 4 + d) S I x).bind fun bt119 => (if ((bt119.1 == S && (bt119.2.1 == I)) && (bt119.2.2.1 == a && (bt119.2.2.2 == b))) = true then (some (x : Int)) else (forepeakref21_Lane.l0 (k + 4 + d) (wrap64 ((x : Int) + 1)) S I a b))) else (some (-1))) = _
    rw [if_pos (by omega), show k + 4 + d = (k + 1 + d) + 3 from by omega, at_val _ S I x (by omega)]
    simp only [Option.bind_some, beq_self_eq_true, Bool.and_self, Bool.true_and]
    rw [show (k + 1 + d) + 3 = k + 4 + d from by omega, w64 (by omega) (by omega), show ((x : Int) + 1) = ((x + 1 : Nat) : Int) from by omega, ih]
    by_cases hm : (x : Int) / 4 + 1 = a ∧ (x : Int) % 4 = b
    · rw [if_pos (by simp [hm.1, hm.2]), if_pos (by unfold FineP; omega)]
      congr 1; omega
    · rw [if_neg (by simp; omega)]
      by_cases hf : FineP a b ∧ ((x + 1 : Nat) : Int) ≤ (a - 1) * 4 + b
      · rw [if_pos hf, if_pos ⟨hf.1, by omega⟩]
      · rw [if_neg hf, if_neg (fun h => hf ⟨h.1, by have := h.1; unfold FineP at this; omega⟩)]
theorem lane_val (k : Nat) (S I a b : Int) : forepeakref21_Lane.f (k + 16) S I a b = some (laneP a b) := by
  unfold forepeakref21_Lane.f
  have := lane_from S I a b 12 0 k (by omega)
  rw [show k + 16 = k + 4 + 12 from by omega]
  refine this.trans ?_
  unfold laneP
  by_cases hf : FineP a b
  · rw [if_pos ⟨hf, by unfold FineP at hf; omega⟩, if_pos hf]
  · rw [if_neg (fun h => hf h.1), if_neg hf]
/-- The lane of an object. -/
def lane (o : S39) : Int := laneP o.f0.f1 o.f0.f2
def posOf : List S39 → Int → Int → Int
  | [], _, _ => -1
  | o :: r, t, i => if lane o = t then i else posOf r t (i + 1)
theorem rd_at (l : List S39) (x : Nat) (h : x < l.length) : rd_T39 l x = l[x] := by simp [rd_T39, h]
theorem at_from (S I t : Int) (l : List S39) (hl : l.length ≤ 100) : ∀ (d x k : Nat), x + d = l.length → forepeakref26_at.l0 (k + 17 + d) t x S I l = some (posOf (l.drop x) t x)
  | 0, x, k, hx => by
    show (if (x : Int) < (l.length : Int) then _ else some (-1 : Int)) = _
    rw [if_neg (by omega), List.drop_eq_nil_of_le (by omega)]; rfl
  | d + 1, x, k, hx => by
    have ih := at_from S I t l hl d (x + 1) k (by omega)
    have hxl : x < l.length := by omega
    show (if (x : Int) < (l.length : Int) then (if 0 ≤ (x : Int) then ((forepeakref21_Lane.f (k + 17 + d) ((rd_T39 l x).f0.f0.f0) ((rd_T39 l x).f0.f0.f1) ((rd_T39 l x).f0.f1) ((rd_T39 l x).f0.f2)).bind fun t125 => (if t125 = t then (some (x : Int)) else (forepeakref26_at.l0 (k + 17 + d) t (wrap64 ((x : Int) + 1)) S I l))) else (none)) else (some (-1))) = _
    rw [if_pos (by omega), if_pos (by omega), show k + 17 + d = (k + 1 + d) + 16 from by omega, lane_val, show (k + 1 + d) + 16 = k + 17 + d from by omega, w64 (by omega) (by omega), show ((x : Int) + 1) = ((x + 1 : Nat) : Int) from by omega, ih, rd_at l x hxl, List.drop_eq_getElem_cons hxl]
    show (if lane l[x] = t then some (x : Int) else some (posOf (l.drop (x + 1)) t ((x : Int) + 1))) = some (if lane l[x] = t then (x : Int) else posOf (l.drop (x + 1)) t ((x : Int) + 1))
    split <;> rfl
theorem at_pos (k : Nat) (S I t : Int) (l : List S39) (hl : l.length ≤ 100) : forepeakref26_at.f (k + 120) S I l t = some (posOf l t 0) := by
  unfold forepeakref26_at.f
  have := at_from S I t l hl l.length 0 (k + 103 - l.length) (by omega)
  rw [show k + 103 - l.length + 17 + l.length = k + 120 from by omega] at this
  simpa using this
theorem posOf_none (t : Int) : ∀ (l : List S39) (i : Int), (∀ o ∈ l, lane o ≠ t) → posOf l t i = -1
  | [], _, _ => rfl
  | o :: r, i, h => by
    unfold posOf
    rw [if_neg (h o List.mem_cons_self), posOf_none t r (i + 1) (fun q hq => h q (List.mem_cons_of_mem _ hq))]
theorem posOf_some (t : Int) (x : S39) (B : List S39) (hx : lane x = t) : ∀ (A : List S39) (i : Int), (∀ o ∈ A, lane o ≠ t) → posOf (A ++ x :: B) t i = i + A.length
  | [], i, _ => by simp [posOf, hx]
  | o :: r, i, h => by
    rw [List.cons_append]
    unfold posOf
    rw [if_neg (h o List.mem_cons_self), posOf_some t x B hx r (i + 1) (fun q hq => h q (List.mem_cons_of_mem _ hq))]
    rw [List.length_cons]; omega
theorem without_val (A B : List S39) (x : S39) (hl : A.length + B.length + 1 ≤ 100) : forepeakref26_Without.f (A ++ x :: B) A.length = some (A ++ B) := by
  have hlen : (A ++ x :: B).length = A.length + (B.length + 1) := by simp
  unfold forepeakref26_Without.f
  generalize hM : (879609302220 : Nat) = M
  have hM1 : 1000 < M := by omega
  clear hM
  generalize hL : A ++ x :: B = L at *
  have ht : L.take A.length = A := by rw [← hL]; simp
  have hd : L.drop (A.length + 1) = B := by rw [← hL]; simp
  clear hL
  generalize hn : (A.length : Int) = n
  have hn1 : n.toNat = A.length := by omega
  have hw : wrap64 (n + 1) = n + 1 := IntWalk.wrap64_in _ (by omega)
  have hn2 : (n + 1).toNat = A.length + 1 := by omega
  rw [hw, hn1, hn2, ht, hd]
  have c1 : 0 ≤ n := by omega
  have c2 : n ≤ (L.length : Int) := by omega
  have c3 : 0 ≤ n + 1 := by omega
  have c4 : n + 1 ≤ (L.length : Int) := by omega
  have c5 : ([] : List S39).length + A.length < M := by show 0 + A.length < M; omega
  have c6 : ([] ++ A : List S39).length + B.length < M := by show A.length + B.length < M; omega
  show (if 0 ≤ n then if n ≤ (L.length : Int) then if ([] : List S39).length + A.length < M then if 0 ≤ n + 1 then if n + 1 ≤ (L.length : Int) then if ([] ++ A : List S39).length + B.length < M then some ([] ++ A ++ B) else none else none else none else none else none else none) = some (A ++ B)
  rw [if_pos c1, if_pos c2, if_pos c5, if_pos c3, if_pos c4, if_pos c6]
  rfl
end Go.Proofs.Ytaapejhoegeimaa.Plaw
