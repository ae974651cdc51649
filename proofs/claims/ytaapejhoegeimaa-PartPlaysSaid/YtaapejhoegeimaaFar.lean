/- The reference's Far (package forepeaklaw25): it ends, and what is not far has short queues; an object's opening. No conditions. -/
import Derived.Test.YtaapejhoegeimaaSame
namespace Go.Proofs.Ytaapejhoegeimaa
open Go.RowKit Go.Shelf Go.Proofs.YtaapejhoegeimaaW.PrintWords Go.Proofs.Ytaapejhoegeimaa.PPartPlays
set_option linter.unusedSimpArgs false
set_option linter.unusedVariables false

namespace Plaw
def farRest (rows : List (List S89)) (x : Int) (b : Bool) : Prop := b = false → ∀ j : Int, x ≤ j → j < 3 → (rd_L5 rows j).length ≤ 20
theorem far1 (rows : List (List S89)) (hr : rows.length = 3) (x : Int) (h0 : 0 ≤ x) (h3 : x < 3) (P : Bool → Prop) (hP : P true) (a0 a1 a2 a3 a4 a5 a6 : Int) (a7 : Bool) (a8 a9 a10 : Int) (a11 : ByteArray) (a12 : Bool) (a13 : Int) (q1 q2 q3 : List S89) (hl : (rd_L5 rows x).length ≤ 20) (n : Nat)
    (hn : ∀ K, n ≤ K → ∃ b, forepeaklaw25_Far.l0 K rows (x + 1) a0 a1 a2 a3 a4 a5 a6 a7 a8 a9 a10 a11 a12 a13 q1 q2 q3 = some b ∧ P b) :
    ∀ (d y K : Nat), y + d = (rd_L5 rows x).length → n + d + 1 ≤ K → ∃ b, forepeaklaw25_Far.l1 K rows x (y : Int) a0 a1 a2 a3 a4 a5 a6 a7 a8 a9 a10 a11 a12 a13 q1 q2 q3 = some b ∧ P b
  | 0, y, 0, hy, hK => by omega
  | 0, y, K + 1, hy, hK => by
    obtain ⟨b, hb, hp⟩ := hn K (by omega)
    refine ⟨b, ?_, hp⟩
    show (if 0 ≤ x then (if x < (rows.length : Int) then (if (y : Int) < ((rd_L5 rows x).length : Int) then _ else forepeaklaw25_Far.l0 K rows (wrap64 (x + 1)) a0 a1 a2 a3 a4 a5 a6 a7 a8 a9 a10 a11 a12 a13 q1 q2 q3) else none) else none) = some b
    rw [if_pos h0, if_pos (by omega), if_neg (by omega), w64 (by omega) (by omega), hb]
  | d + 1, y, 0, hy, hK => by omega
  | d + 1, y, K + 1, hy, hK => by
    obtain ⟨b, hb, hp⟩ := far1 rows hr x h0 h3 P hP a0 a1 a2 a3 a4 a5 a6 a7 a8 a9 a10 a11 a12 a13 q1 q2 q3 hl n hn d (y + 1) K (by omega) (by omega)
    have hs : (if 0 ≤ x then (if x < (rows.length : Int) then (if (y : Int) < ((rd_L5 rows x).length : Int) then (if 0 ≤ (y : Int) then (if (((rd_T89 (rd_L5 rows x) y).f5).size : Int) > 100 then (some true) else (forepeaklaw25_Far.l1 K rows x (wrap64 ((y : Int) + 1)) a0 a1 a2 a3 a4 a5 a6 a7 a8 a9 a10 a11 a12 a13 q1 q2 q3)) else none) else forepeaklaw25_Far.l0 K rows (wrap64 (x + 1)) a0 a1 a2 a3 a4 a5 a6 a7 a8 a9 a10 a11 a12 a13 q1 q2 q3) else none) else none) = forepeaklaw25_Far.l1 (K + 1) rows x (y : Int) a0 a1 a2 a3 a4 a5 a6 a7 a8 a9 a10 a11 a12 a13 q1 q2 q3 := rfl
    rw [← hs, if_pos h0, if_pos (by omega), if_pos (by omega), if_pos (by omega)]
    by_cases hg : (((rd_T89 (rd_L5 rows x) y).f5).size : Int) > 100
    · rw [if_pos hg]; exact ⟨true, rfl, hP⟩
    · rw [if_neg hg, w64 (by omega) (by omega)]
      exact ⟨b, by rw [← hb]; rfl, hp⟩
theorem far0 (rows : List (List S89)) (hr : rows.length = 3) (a0 a1 a2 a3 a4 a5 a6 : Int) (a7 : Bool) (a8 a9 a10 : Int) (a11 : ByteArray) (a12 : Bool) (a13 : Int) (q1 q2 q3 : List S89) :
    ∀ (d x K : Nat), x + d = 3 → d * 30 + 1 ≤ K → ∃ b, forepeaklaw25_Far.l0 K rows (x : Int) a0 a1 a2 a3 a4 a5 a6 a7 a8 a9 a10 a11 a12 a13 q1 q2 q3 = some b ∧ farRest rows x b
  | 0, x, 0, hx, hK => by omega
  | 0, x, K + 1, hx, hK => by
    refine ⟨decide ((a11.size : Int) > 200), ?_, fun _ j h1 h2 => by omega⟩
    show (if (x : Int) < 3 then _ else some (decide ((a11.size : Int) > 200))) = _
    rw [if_neg (by omega)]
  | d + 1, x, 0, hx, hK => by omega
  | d + 1, x, K + 1, hx, hK => by
    have ih := far0 rows hr a0 a1 a2 a3 a4 a5 a6 a7 a8 a9 a10 a11 a12 a13 q1 q2 q3 d (x + 1)
    have hs : (if (x : Int) < 3 then (if 0 ≤ (x : Int) then (if (x : Int) < (rows.length : Int) then (if ((rd_L5 rows x).length : Int) > 20 then (some true) else (forepeaklaw25_Far.l1 K rows x 0 a0 a1 a2 a3 a4 a5 a6 a7 a8 a9 a10 a11 a12 a13 q1 q2 q3)) else none) else none) else (some (decide ((a11.size : Int) > 200)))) = forepeaklaw25_Far.l0 (K + 1) rows (x : Int) a0 a1 a2 a3 a4 a5 a6 a7 a8 a9 a10 a11 a12 a13 q1 q2 q3 := rfl
    rw [← hs, if_pos (by omega), if_pos (by omega), if_pos (by omega)]
    by_cases hg : ((rd_L5 rows x).length : Int) > 20
    · rw [if_pos hg]; exact ⟨true, rfl, fun h => by cases h⟩
    · rw [if_neg hg]
      exact far1 rows hr x (by omega) (by omega) (farRest rows x) (fun h => by cases h) a0 a1 a2 a3 a4 a5 a6 a7 a8 a9 a10 a11 a12 a13 q1 q2 q3 (by omega) (d * 30 + 1)
        (fun K' hK' => by
          obtain ⟨b, hb, hp⟩ := ih K' (by omega) hK'
          refine ⟨b, by rw [← hb]; rfl, fun hf j h1 h2 => ?_⟩
          by_cases he : j = x
          · subst he; omega
          · exact hp hf j (by omega) h2)
        (rd_L5 rows x).length 0 K (by omega) (by omega)
theorem far_val (o : S39) : ∃ b, forepeaklaw25_Far.f 100 o.f0.f0.f0 o.f0.f0.f1 o.f0.f1 o.f0.f2 o.f1.f0 o.f1.f1 o.f2 o.f3 o.f4.f0 o.f4.f1 o.f5 o.f6 o.f7 o.f8.f0 o.f8.f1 o.f8.f2 o.f8.f3 = some b ∧ (b = false → Short 20 o) := by
  obtain ⟨b, hb, hp⟩ := far0 [o.f8.f1, o.f8.f2, o.f8.f3] rfl o.f0.f0.f0 o.f0.f0.f1 o.f0.f1 o.f0.f2 o.f1.f0 o.f1.f1 o.f2 o.f3 o.f4.f0 o.f4.f1 o.f5 o.f6 o.f7 o.f8.f0 o.f8.f1 o.f8.f2 o.f8.f3 3 0 100 rfl (by omega)
  exact ⟨b, hb, fun h => ⟨hp h 0 (by omega) (by omega), hp h 1 (by omega) (by omega), hp h 2 (by omega) (by omega)⟩⟩
end Plaw
theorem far_ok (s : S39) : ∃ b, (b = false → Short 20 s) ∧ ∀ (cs : List Value) (w : World), k39.K w s cs →
    Calls Try.prog 13 #[.agg cs.toArray] w fun e w' => e = .returned (.bool b) ∧ Below w.heap.size w w' := by
  obtain ⟨b, hb, hp⟩ := Plaw.far_val s
  refine ⟨b, hp, fun cs w h => ?_⟩
  obtain ⟨A1, c1, A2, c2, A3, c3, rfl, l1, g1, l2, g2, l3, g3⟩ := k39_open h
  have V : ∀ {A : Option Addr} {c : Nat} {q : List S89}, q.length ≤ c → Kd.C k89 w A q.length q → Kd.V k89 89 w w.heap.size (fun k => k < w.heap.size) (.slice A q.length c) q := fun hl hc => Kd.V_mk hl (Kd.C_F k89_heap hc)
  exact forepeaklaw25_Far.calls 100 _ _ _ _ _ _ _ _ _ _ _ _ _ _ _ A1 c1 _ _ A2 c2 _ _ A3 c3 _ b w (V l1 g1) (V l2 g2) (V l3 g3) hb
end Go.Proofs.Ytaapejhoegeimaa
