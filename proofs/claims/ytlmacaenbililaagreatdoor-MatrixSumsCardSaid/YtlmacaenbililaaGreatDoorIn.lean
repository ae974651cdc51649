/- My small laws once more for the walk inside a fence (a range over a function). No conditions. -/
import Derived.Test.YtlmacaenbililaaGreatDoorRegs
import Derived.RangeFuncNested
import Derived.RangeFuncBound
import Derived.RangeFuncCalls
import Derived.RangeFuncLeaves
import Derived.RangeFuncBox
import Derived.OwnWalkIn
import Derived.TacticsInMore
import Derived.LoopNIn
import Derived.LoopIn
import Derived.Maps.AppendAt
import Derived.Shelf.RegionOpen
namespace Go.Proofs.YtlmacaenbililaaGreatDoor
open Go.RowKit
section
variable {F : Fence} {n : Nat} {P : Program} {ops : Array Oper} {rest : List Oper} {o : Oper} {a : Act} {w : World} {Q : Exit → Act → World → Prop}
theorem semAt_of {r : Option Nat} (h : ∀ c, o.op ≠ .defer c) : o.semAt r a.eval = execOp a.eval o := by
  cases r with
  | none => rfl
  | some l => exact Oper.semAt_some l _ _ h
theorem listIn_run (hgd : Region.wanted o (yielded ops a.tmps) = true) (hd : ∀ c, o.op ≠ .defer c) (hc : ∀ c, o.op ≠ .call c) {w' : World} {x : Next} {v : Value} (h : (execOp a.eval o).run P w = .ok x w') (hx : x = .value v ∨ (x = .skip ∧ v = undef)) (k : wpListIn F n P ops Q rest (a.put o.dst v) w') : wpListIn F n P ops Q (o :: rest) a w :=
  wpListIn_step fun _ hK => by
    rw [if_pos hgd]
    refine ⟨fun f hf => ?_, ?_⟩
    · unfold Oper.about at hf
      split at hf
      · rename_i he; exact (hc _ he).elim
      · cases hf
    · rw [semAt_of hd, h]
      rcases hx with rfl | ⟨rfl, rfl⟩
      · exact hK _ _ k
      · exact hK _ _ k
theorem listIn_load_mid (hgd : Region.wanted o (yielded ops a.tmps) = true) (ty : TypeId) (x : Operand) (ho : o.op = .load ty x) (b off : Nat) (hx : a.eval x = .pointer (some ⟨b, off, none⟩)) (cs : List Value) (d : TypeDesc) (hc : w.rangeAt b off cs)
    (hu : P.underlying ty = some d) (hd : d.isRow = true) (hi : (P.info? ty).map (·.size) = some cs.length) (h : wpListIn F n P ops Q rest (a.put o.dst (.agg cs.toArray)) w) : wpListIn F n P ops Q (o :: rest) a w :=
  listIn_run hgd (by rw [ho]; intro c; exact Op.noConfusion) (by rw [ho]; intro c; exact Op.noConfusion) (x := .value (.agg cs.toArray)) (by
    unfold execOp
    simp only [ho, hx, Instr.loadAt, Instr.sureAddr, Sem.run_bind, Sem.run_pure, Result.andThen_ok, run_loadVar_mid w b off ty cs d hc hu hd hi]) (.inl rfl) h
theorem listIn_store_mid (hgd : Region.wanted o (yielded ops a.tmps) = true) (ty : TypeId) (x y : Operand) (ho : o.op = .store ty x y) (b off : Nat) (cells : Array Value) (hx : a.eval x = .pointer (some ⟨b, off, none⟩)) (hy : a.eval y = .agg cells)
    (ht : w.there b off cells.size) (hi : (P.info? ty).map (·.size) = some cells.size) (h1 : cells.all (·.oneCell') = true) (h : wpListIn F n P ops Q rest (a.put o.dst undef) (w.setCells b off cells.toList)) : wpListIn F n P ops Q (o :: rest) a w :=
  listIn_run hgd (by rw [ho]; intro c; exact Op.noConfusion) (by rw [ho]; intro c; exact Op.noConfusion) (x := .skip) (by
    unfold execOp
    simp only [ho, hx, hy, Instr.storeAt, Instr.sureAddr, Sem.run_bind, Sem.run_pure, Result.andThen_ok, run_storeVar_mid w b off ty cells ht hi h1]) (.inr ⟨rfl, rfl⟩) h
theorem listIn_store_new (hgd : Region.wanted o (yielded ops a.tmps) = true) (ty : TypeId) (x y : Operand) (ho : o.op = .store ty x y) (c c' : Array Value) (hx : a.eval x = .pointer (some ⟨w.heap.size, 0, none⟩)) (hy : a.eval y = .agg c')
    (hi : (P.info? ty).map (·.size) = some c'.size) (hz : c.size = c'.size) (h1 : c'.all (·.oneCell') = true) (k : wpListIn F n P ops Q rest (a.put o.dst undef) (w.alloc (.cells c' ty))) : wpListIn F n P ops Q (o :: rest) a (w.alloc (.cells c ty)) :=
  listIn_run hgd (by rw [ho]; intro c; exact Op.noConfusion) (by rw [ho]; intro c; exact Op.noConfusion) (x := .skip) (by
    unfold execOp
    simp only [ho, hx, hy, Sem.run_bind, run_storeAt_new w ty c c' hi hz h1, Result.andThen_ok, Sem.run_pure]) (.inr ⟨rfl, rfl⟩) k
end
end Go.Proofs.YtlmacaenbililaaGreatDoor
