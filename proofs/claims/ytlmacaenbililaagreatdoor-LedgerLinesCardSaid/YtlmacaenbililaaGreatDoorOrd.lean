/- Two laws more for a region that is walked along a list. No conditions. -/
import Derived.Test.YtlmacaenbililaaGreatDoorRego
namespace Go.Proofs.YtlmacaenbililaaGreatDoor
open Go.RowKit

theorem wpO_one {P : Program} {ops : Array Oper} {C : World → Prop} {T : List Nat} {Q : Exit → Act → World → Prop} {w : World} {i : Nat} {r : List Nat} {a : Act} {o : Oper} (ho : ops[i]? = some o) (hs : quietB ops T [i] = true)
    (h : wpQuiet P ops (fun w' => ∃ s : { w : World // C w }, w' = s.1) (fun a' => wpO P ops C T Q r a' w) [o] a) : wpO P ops C T Q (i :: r) a w := by
  refine wpO_seg 1 (i :: r) a hs ?_
  simp only [List.take_succ_cons, List.take_zero, opsAt, List.filterMap_cons, ho, List.filterMap_nil, List.drop_succ_cons, List.drop_zero]
  exact h
theorem wpO_still {P : Program} {ops : Array Oper} {C : World → Prop} {T : List Nat} {Q : Exit → Act → World → Prop} {w : World} {i : Nat} {r : List Nat} {a : Act} {o : Oper} (v : Value) (ho : ops[i]? = some o) (hT : T.contains i = false) (hw : Region.wanted o (yielded ops a.tmps) = true)
    (h : ∀ w, C w → (execOp a.eval o).run P w = .ok (.value v) w) (hn : wpO P ops C T Q r (a.put o.dst v) w) : wpO P ops C T Q (i :: r) a w := by
  unfold wpO
  rw [if_neg (by rw [hT]; exact Bool.false_ne_true)]
  exact ⟨o, v, ho, .inl ⟨hw, fun w hc => .inl (h w hc)⟩, hn⟩
end Go.Proofs.YtlmacaenbililaaGreatDoor
