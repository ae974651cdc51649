/- Package trace: unhex: what it returns. No conditions. -/
import Derived.Test.YtlmacaenbililaaGreatDoorTrhex
import Derived.Test.YtlmacaenbililaaGreatDoorShb
namespace Go.Proofs.YtlmacaenbililaaGreatDoor
open Go.RowKit Go.Shelf
set_option linter.unusedSimpArgs false
set_option linter.unusedVariables false
attribute [local go_sem] cell_over frozen_over

theorem runs_append_own {P : Program} {C : World → Prop} {o : Oper} {a : Act} {w : World} {K : Act → World → Prop} (s x : Operand) (t : TypeId)
    (ho : o.op = .call { callee := .builtin .append, args := #[s, x], argTypes := #[t, t] })
    (base : Nat) (e : TypeId) (i : TypeInfo) (z : Value) (size bytes : Nat) (ht : P.underlying t = some (.slice e)) (hi : P.info? e = some i) (hz : i.zero = some z)
    (hsize : i.size = size) (hby : i.bytes = bytes) (hzs : z.cells.size = size) (hsz : 0 < size)
    (v : Value) (n : Nat) (xs : List Value) (hs : a.eval s = v) (hown : w.ownsRow base e size v n xs)
    (ad : Addr) (m c : Nat) (news : List Value) (hx : a.eval x = .slice (some ad) m c) (hl : news.length = m * size) (hnews : ∀ j u, news[j]? = some u → w.cell? (ad.add j) = some u) (h1 : ∀ u ∈ news, u.oneCell' = true)
    (h63 : n + m ≤ maxLen) (hbytes : (n + m) * bytes ≤ 140737488355328) (hbase : base ≤ w.heap.size)
    (hK : ∀ v' w', w'.ownsRow base e size v' (n + m) (xs ++ news) → w.grownBy w' v.ownBlock → C w' ∧ K (a.put o.dst v') w') : runsTo P C o a K ((execOp a.eval o).run P w) := by
  obtain ⟨v', w', hrun, h2, h3, h4⟩ := run_append_own (P := P) w base t o.type e i z size bytes ht hi hz hsize hby hzs hsz v n xs hown ad m c news hl hnews h1 h63 hbytes hbase
  simp [execOp, ho, resolve, invoke, builtin, hs, hx, hrun, Result.andThen]
  exact hK v' w' h2 h3
theorem shl4 (x : Int) (h0 : -1 ≤ x) (h1 : x < 16) : IntKind.i64.wrap (x * 16) = x * 16 := IntWalk.i64_in _ (by omega)
theorem index_in (c : UInt8) : -1 ≤ Lib.indexByte Tr.digits c ∧ Lib.indexByte Tr.digits c < 16 := by
  have h : ∀ c : Fin 256, -1 ≤ Lib.indexByte Tr.digits c.val.toUInt8 ∧ Lib.indexByte Tr.digits c.val.toUInt8 < 16 := by decide +kernel
  have := h ⟨c.toNat, UInt8.toNat_lt c⟩
  simpa using this
end Go.Proofs.YtlmacaenbililaaGreatDoor
