/- Words and contracts of the reference's functions, begun as a print and cut down to what this claim reaches. No conditions. -/
import Derived.Test.YtaapejhoegeimaaProg
import Derived.Below
import Derived.Deep.Draws
import Derived.Deep.AppendLies
import Derived.Maps.AppendAt
import Derived.OwnWalk
import Derived.Laws.BytesArg
import Derived.Laws.MakeOwn
import Derived.Laws.OwnMore
import Derived.Deep.OwnRows
import Derived.Tactics
import Derived.Lib.ConvBytes
import Derived.Laws.Slices
import Derived.WalkKit
import Derived.KernelRfl
import Derived.RowKit3
import Derived.Deep.LoopGhost
import Derived.Deep.QuietTactic
import Derived.BigQuiet
import Derived.WideLaws
import Derived.Deep.DeepCutAuto
import Derived.Deep.CutBlock
import Derived.Deep.RegionHeld3
import Derived.Laws.Rows
import Derived.Lib.AppendStr
import Derived.ArgAppend
import Derived.Laws.IdiomCopy
import Derived.OrdersHeld
import Derived.Laws.BitsLemmas
import Derived.RowKit
import Derived.Test.YtaapejhoegeimaaVWWords
import Derived.Test.YtaapejhoegeimaaVWLast
import Derived.Test.YtaapejhoegeimaaVWTab
import Derived.Test.YtaapejhoegeimaaVWFour
import Derived.Test.YtaapejhoegeimaaVWQPut
import Derived.Test.YtaapejhoegeimaaVWApart
import Derived.Test.YtaapejhoegeimaaVWArr
import Derived.Test.YtaapejhoegeimaaVWZeros
import Derived.Test.YtaapejhoegeimaaVWFoot
import Derived.Test.YtaapejhoegeimaaVWKept
import Derived.Test.YtaapejhoegeimaaVWShare
import Derived.Test.YtaapejhoegeimaaVWN
import Derived.Test.YtaapejhoegeimaaVWFootNe
import Derived.Test.YtaapejhoegeimaaVWAt
import Derived.Test.YtaapejhoegeimaaVWEqStruct
import Derived.Test.YtaapejhoegeimaaVWRepsOne
import Derived.Test.YtaapejhoegeimaaVWInv
import Derived.Test.YtaapejhoegeimaaVWInvWords
import Derived.Test.YtaapejhoegeimaaVWGuard
import Derived.Test.YtaapejhoegeimaaVWNEv
import Derived.Test.YtaapejhoegeimaaVWMore
namespace Go.Proofs.Ytaapejhoegeimaa.PPartPlays
open Go.RowKit Go.Proofs.YtaapejhoegeimaaW.PrintWords Go.Proofs.YtaapejhoegeimaaW.PrintLast Go.Proofs.YtaapejhoegeimaaW.PrintMore
attribute [local go_sem] max2_int min2_int max_two min_two max_three min_three max_four min_four   -- for this text's walks alone
set_option linter.unusedVariables false
set_option linter.unusedSimpArgs false



def errW : Option Int → Value
  | none => .nilIface
  | some c => .iface 0 (.int .i64 c)
theorem errW_none : errW none = .nilIface := rfl
theorem errW_some (c : Int) : errW (some c) = .iface 0 (.int .i64 c) := rfl

theorem info39 : (Try.prog.info? 39).map (fun i => (i.zero, i.size, i.bytes)) = some (some (.agg #[(.int .u16 0), (.int .u16 0), (.int .i64 0), (.int .i64 0), (.int .u16 0), (.int .u16 0), (.int .i64 0), (.bool false), (.int .u16 0), (.int .u16 0), (.int .i64 0), (.string ⟨#[]⟩), (.bool false), (.int .i64 0), (.slice none 0 0), (.slice none 0 0), (.slice none 0 0)]), 17, 160) := by kernel_rfl
-- the values' own types
/-! #### struct type 24 -/
structure S24 where
  f0 : Int
  f1 : Int
def z24 : S24 := ⟨(0 : Int), (0 : Int)⟩
def k24 : Kd S24 := Kd.iso (Kd.pair (Kd.int .u16) (Kd.int .u16)) (fun x : S24 => (x.f0, x.f1))
theorem k24_heap : Kd.Heap k24 := Kd.heap_iso _ (Kd.heap_pair (Kd.heap_int .u16) (Kd.heap_int .u16))
theorem k24_open {w : World} {x : S24} {cs : List Value} (h : k24.K w x cs) : cs = [.int .u16 x.f0, .int .u16 x.f1] := by
  obtain ⟨_, _, rfl, rfl, rfl⟩ := h
  exact rfl
theorem k24_mk (w : World) (x : S24)  : k24.K w x [.int .u16 x.f0, .int .u16 x.f1] := ⟨[.int .u16 x.f0], [.int .u16 x.f1], rfl, rfl, rfl⟩
/-! #### struct type 89 -/
structure S89 where
  f0 : Int
  f1 : Int
  f2 : S24
  f3 : Int
  f4 : Int
  f5 : ByteArray
def z89 : S89 := ⟨(0 : Int), (0 : Int), z24, (0 : Int), (0 : Int), (⟨#[]⟩ : ByteArray)⟩
def k89 : Kd S89 := Kd.iso (Kd.pair (Kd.int .i64) (Kd.pair (Kd.int .i64) (Kd.pair k24 (Kd.pair (Kd.int .i64) (Kd.pair (Kd.int .u16) Kd.string))))) (fun x : S89 => (x.f0, x.f1, x.f2, x.f3, x.f4, x.f5))
theorem k89_heap : Kd.Heap k89 := Kd.heap_iso _ (Kd.heap_pair (Kd.heap_int .i64) (Kd.heap_pair (Kd.heap_int .i64) (Kd.heap_pair k24_heap (Kd.heap_pair (Kd.heap_int .i64) (Kd.heap_pair (Kd.heap_int .u16) Kd.heap_string)))))
theorem k89_open {w : World} {x : S89} {cs : List Value} (h : k89.K w x cs) : cs = [.int .i64 x.f0, .int .i64 x.f1, .int .u16 x.f2.f0, .int .u16 x.f2.f1, .int .i64 x.f3, .int .u16 x.f4, .string x.f5] := by
  obtain ⟨_, _, rfl, rfl, ⟨_, _, rfl, rfl, ⟨_, _, rfl, s2, ⟨_, _, rfl, rfl, ⟨_, _, rfl, rfl, rfl⟩⟩⟩⟩⟩ := h
  obtain rfl := k24_open s2
  exact rfl
def rd_T89 (xs : List S89) (i : Int) : S89 := xs.getD i.toNat z89
theorem at_T89 {w : World} {A : Option Addr} {n : Nat} {xs : List S89} (h : Kd.C k89 w A n xs) (i : Int) (h0 : 0 ≤ i) (h1 : i < n) : ∃ ad , A = some ad ∧ w.cell? (ad.add (i.toNat * 7)) = some (.int .i64 (rd_T89 xs i).f0) ∧ w.cell? ⟨(ad.add (i.toNat * 7)).block, (ad.add (i.toNat * 7)).off + 1, none⟩ = some (.int .i64 (rd_T89 xs i).f1) ∧ w.cell? ⟨(ad.add (i.toNat * 7)).block, (ad.add (i.toNat * 7)).off + 2, none⟩ = some (.int .u16 (rd_T89 xs i).f2.f0) ∧ w.cell? ⟨(ad.add (i.toNat * 7)).block, (ad.add (i.toNat * 7)).off + 3, none⟩ = some (.int .u16 (rd_T89 xs i).f2.f1) ∧ w.cell? ⟨(ad.add (i.toNat * 7)).block, (ad.add (i.toNat * 7)).off + 4, none⟩ = some (.int .i64 (rd_T89 xs i).f3) ∧ w.cell? ⟨(ad.add (i.toNat * 7)).block, (ad.add (i.toNat * 7)).off + 5, none⟩ = some (.int .u16 (rd_T89 xs i).f4) ∧ w.cell? ⟨(ad.add (i.toNat * 7)).block, (ad.add (i.toNat * 7)).off + 6, none⟩ = some (.string (rd_T89 xs i).f5) := by
  obtain ⟨ad, c, e, _, hK, hc0⟩ := Kd.C_get h z89 i h0 h1
  have hc : ∀ j u, c[j]? = some u → w.cell? (ad.add (i.toNat * 7 + j)) = some u := hc0
  obtain rfl := k89_open hK
  exact ⟨ad, e, hc 0 _ rfl, by rw [← add_field _ _ 1 (by omega)]; exact hc 1 _ rfl, by rw [← add_field _ _ 2 (by omega)]; exact hc 2 _ rfl, by rw [← add_field _ _ 3 (by omega)]; exact hc 3 _ rfl, by rw [← add_field _ _ 4 (by omega)]; exact hc 4 _ rfl, by rw [← add_field _ _ 5 (by omega)]; exact hc 5 _ rfl, by rw [← add_field _ _ 6 (by omega)]; exact hc 6 _ rfl⟩

def rd_L5 (xs : List (List S89)) (i : Int) : (List S89) := xs.getD i.toNat ([] : List S89)
theorem at_L5 {w : World} {A : Option Addr} {n : Nat} {xs : List (List S89)} (h : Kd.C (Kd.slice 89 k89) w A n xs) (i : Int) (h0 : 0 ≤ i) (h1 : i < n) : ∃ ad A0 c0, A = some ad ∧ w.cell? (ad.add i.toNat) = some (.slice A0 (rd_L5 xs i).length c0) ∧ (rd_L5 xs i).length ≤ c0 ∧ k89.C w A0 (rd_L5 xs i).length (rd_L5 xs i) := by
  obtain ⟨ad, c, e, _, hK, hc0⟩ := Kd.C_get h ([] : List S89) i h0 h1
  have hc : ∀ j u, c[j]? = some u → w.cell? (ad.add (i.toNat * 1 + j)) = some u := hc0
  obtain ⟨A0, c0, rfl, l0, g0⟩ := hK
  exact ⟨ad, A0, c0, e, by have hq := hc 0 _ rfl; rwa [Nat.mul_one, Nat.add_zero] at hq, l0, g0⟩

/-! #### struct type 34 -/
structure S34 where
  f0 : S24
  f1 : Int
  f2 : Int
def z34 : S34 := ⟨z24, (0 : Int), (0 : Int)⟩
def k34 : Kd S34 := Kd.iso (Kd.pair k24 (Kd.pair (Kd.int .i64) (Kd.int .i64))) (fun x : S34 => (x.f0, x.f1, x.f2))
theorem k34_heap : Kd.Heap k34 := Kd.heap_iso _ (Kd.heap_pair k24_heap (Kd.heap_pair (Kd.heap_int .i64) (Kd.heap_int .i64)))
theorem k34_open {w : World} {x : S34} {cs : List Value} (h : k34.K w x cs) : cs = [.int .u16 x.f0.f0, .int .u16 x.f0.f1, .int .i64 x.f1, .int .i64 x.f2] := by
  obtain ⟨_, _, rfl, s0, ⟨_, _, rfl, rfl, rfl⟩⟩ := h
  obtain rfl := k24_open s0
  exact rfl
theorem k34_mk (w : World) (x : S34)  : k34.K w x [.int .u16 x.f0.f0, .int .u16 x.f0.f1, .int .i64 x.f1, .int .i64 x.f2] := ⟨[.int .u16 x.f0.f0, .int .u16 x.f0.f1], [.int .i64 x.f1, .int .i64 x.f2], rfl, (k24_mk w x.f0 ), ⟨[.int .i64 x.f1], [.int .i64 x.f2], rfl, rfl, rfl⟩⟩
/-! #### struct type 37 -/
structure S37 where
  f0 : Int
  f1 : (List S89)
  f2 : (List S89)
  f3 : (List S89)
def z37 : S37 := ⟨(0 : Int), ([] : List S89), ([] : List S89), ([] : List S89)⟩
def k37 : Kd S37 := Kd.iso (Kd.pair (Kd.int .i64) (Kd.pair (Kd.slice 89 k89) (Kd.pair (Kd.slice 89 k89) (Kd.slice 89 k89)))) (fun x : S37 => (x.f0, x.f1, x.f2, x.f3))
theorem k37_heap : Kd.Heap k37 := Kd.heap_iso _ (Kd.heap_pair (Kd.heap_int .i64) (Kd.heap_pair (Kd.heap_slice 89 k89_heap) (Kd.heap_pair (Kd.heap_slice 89 k89_heap) (Kd.heap_slice 89 k89_heap))))
theorem k37_open {w : World} {x : S37} {cs : List Value} (h : k37.K w x cs) : ∃ A1 c1 A2 c2 A3 c3, cs = [.int .i64 x.f0, .slice A1 x.f1.length c1, .slice A2 x.f2.length c2, .slice A3 x.f3.length c3] ∧ x.f1.length ≤ c1 ∧ k89.C w A1 x.f1.length x.f1 ∧ x.f2.length ≤ c2 ∧ k89.C w A2 x.f2.length x.f2 ∧ x.f3.length ≤ c3 ∧ k89.C w A3 x.f3.length x.f3 := by
  obtain ⟨_, _, rfl, rfl, ⟨_, _, rfl, ⟨A1, c1, rfl, l1, g1⟩, ⟨_, _, rfl, ⟨A2, c2, rfl, l2, g2⟩, ⟨A3, c3, rfl, l3, g3⟩⟩⟩⟩ := h
  exact ⟨A1, c1, A2, c2, A3, c3, rfl, l1, g1, l2, g2, l3, g3⟩
theorem k37_mk (w : World) (x : S37) {A1 : Option Addr} {c1 : Nat} (l1 : x.f1.length ≤ c1) (g1 : k89.C w A1 x.f1.length x.f1) {A2 : Option Addr} {c2 : Nat} (l2 : x.f2.length ≤ c2) (g2 : k89.C w A2 x.f2.length x.f2) {A3 : Option Addr} {c3 : Nat} (l3 : x.f3.length ≤ c3) (g3 : k89.C w A3 x.f3.length x.f3) : k37.K w x [.int .i64 x.f0, .slice A1 x.f1.length c1, .slice A2 x.f2.length c2, .slice A3 x.f3.length c3] := ⟨[.int .i64 x.f0], [.slice A1 x.f1.length c1, .slice A2 x.f2.length c2, .slice A3 x.f3.length c3], rfl, rfl, ⟨[.slice A1 x.f1.length c1], [.slice A2 x.f2.length c2, .slice A3 x.f3.length c3], rfl, ⟨A1, c1, rfl, l1, g1⟩, ⟨[.slice A2 x.f2.length c2], [.slice A3 x.f3.length c3], rfl, ⟨A2, c2, rfl, l2, g2⟩, ⟨A3, c3, rfl, l3, g3⟩⟩⟩⟩
/-! #### struct type 39 -/
structure S39 where
  f0 : S34
  f1 : S24
  f2 : Int
  f3 : Bool
  f4 : S24
  f5 : Int
  f6 : ByteArray
  f7 : Bool
  f8 : S37
def z39 : S39 := ⟨z34, z24, (0 : Int), false, z24, (0 : Int), (⟨#[]⟩ : ByteArray), false, z37⟩
def k39 : Kd S39 := Kd.iso (Kd.pair k34 (Kd.pair k24 (Kd.pair (Kd.int .i64) (Kd.pair Kd.bool (Kd.pair k24 (Kd.pair (Kd.int .i64) (Kd.pair Kd.string (Kd.pair Kd.bool k37)))))))) (fun x : S39 => (x.f0, x.f1, x.f2, x.f3, x.f4, x.f5, x.f6, x.f7, x.f8))
theorem k39_heap : Kd.Heap k39 := Kd.heap_iso _ (Kd.heap_pair k34_heap (Kd.heap_pair k24_heap (Kd.heap_pair (Kd.heap_int .i64) (Kd.heap_pair Kd.heap_bool (Kd.heap_pair k24_heap (Kd.heap_pair (Kd.heap_int .i64) (Kd.heap_pair Kd.heap_string (Kd.heap_pair Kd.heap_bool k37_heap))))))))
theorem k39_open {w : World} {x : S39} {cs : List Value} (h : k39.K w x cs) : ∃ A14 c14 A15 c15 A16 c16, cs = [.int .u16 x.f0.f0.f0, .int .u16 x.f0.f0.f1, .int .i64 x.f0.f1, .int .i64 x.f0.f2, .int .u16 x.f1.f0, .int .u16 x.f1.f1, .int .i64 x.f2, .bool x.f3, .int .u16 x.f4.f0, .int .u16 x.f4.f1, .int .i64 x.f5, .string x.f6, .bool x.f7, .int .i64 x.f8.f0, .slice A14 x.f8.f1.length c14, .slice A15 x.f8.f2.length c15, .slice A16 x.f8.f3.length c16] ∧ x.f8.f1.length ≤ c14 ∧ k89.C w A14 x.f8.f1.length x.f8.f1 ∧ x.f8.f2.length ≤ c15 ∧ k89.C w A15 x.f8.f2.length x.f8.f2 ∧ x.f8.f3.length ≤ c16 ∧ k89.C w A16 x.f8.f3.length x.f8.f3 := by
  obtain ⟨_, _, rfl, s0, ⟨_, _, rfl, s4, ⟨_, _, rfl, rfl, ⟨_, _, rfl, rfl, ⟨_, _, rfl, s8, ⟨_, _, rfl, rfl, ⟨_, _, rfl, rfl, ⟨_, _, rfl, rfl, s13⟩⟩⟩⟩⟩⟩⟩⟩ := h
  obtain rfl := k34_open s0
  obtain rfl := k24_open s4
  obtain rfl := k24_open s8
  obtain ⟨A14, c14, A15, c15, A16, c16, rfl, l14, g14, l15, g15, l16, g16⟩ := k37_open s13
  exact ⟨A14, c14, A15, c15, A16, c16, rfl, l14, g14, l15, g15, l16, g16⟩
theorem k39_mk (w : World) (x : S39) {A14 : Option Addr} {c14 : Nat} (l14 : x.f8.f1.length ≤ c14) (g14 : k89.C w A14 x.f8.f1.length x.f8.f1) {A15 : Option Addr} {c15 : Nat} (l15 : x.f8.f2.length ≤ c15) (g15 : k89.C w A15 x.f8.f2.length x.f8.f2) {A16 : Option Addr} {c16 : Nat} (l16 : x.f8.f3.length ≤ c16) (g16 : k89.C w A16 x.f8.f3.length x.f8.f3) : k39.K w x [.int .u16 x.f0.f0.f0, .int .u16 x.f0.f0.f1, .int .i64 x.f0.f1, .int .i64 x.f0.f2, .int .u16 x.f1.f0, .int .u16 x.f1.f1, .int .i64 x.f2, .bool x.f3, .int .u16 x.f4.f0, .int .u16 x.f4.f1, .int .i64 x.f5, .string x.f6, .bool x.f7, .int .i64 x.f8.f0, .slice A14 x.f8.f1.length c14, .slice A15 x.f8.f2.length c15, .slice A16 x.f8.f3.length c16] := ⟨[.int .u16 x.f0.f0.f0, .int .u16 x.f0.f0.f1, .int .i64 x.f0.f1, .int .i64 x.f0.f2], [.int .u16 x.f1.f0, .int .u16 x.f1.f1, .int .i64 x.f2, .bool x.f3, .int .u16 x.f4.f0, .int .u16 x.f4.f1, .int .i64 x.f5, .string x.f6, .bool x.f7, .int .i64 x.f8.f0, .slice A14 x.f8.f1.length c14, .slice A15 x.f8.f2.length c15, .slice A16 x.f8.f3.length c16], rfl, (k34_mk w x.f0 ), ⟨[.int .u16 x.f1.f0, .int .u16 x.f1.f1], [.int .i64 x.f2, .bool x.f3, .int .u16 x.f4.f0, .int .u16 x.f4.f1, .int .i64 x.f5, .string x.f6, .bool x.f7, .int .i64 x.f8.f0, .slice A14 x.f8.f1.length c14, .slice A15 x.f8.f2.length c15, .slice A16 x.f8.f3.length c16], rfl, (k24_mk w x.f1 ), ⟨[.int .i64 x.f2], [.bool x.f3, .int .u16 x.f4.f0, .int .u16 x.f4.f1, .int .i64 x.f5, .string x.f6, .bool x.f7, .int .i64 x.f8.f0, .slice A14 x.f8.f1.length c14, .slice A15 x.f8.f2.length c15, .slice A16 x.f8.f3.length c16], rfl, rfl, ⟨[.bool x.f3], [.int .u16 x.f4.f0, .int .u16 x.f4.f1, .int .i64 x.f5, .string x.f6, .bool x.f7, .int .i64 x.f8.f0, .slice A14 x.f8.f1.length c14, .slice A15 x.f8.f2.length c15, .slice A16 x.f8.f3.length c16], rfl, rfl, ⟨[.int .u16 x.f4.f0, .int .u16 x.f4.f1], [.int .i64 x.f5, .string x.f6, .bool x.f7, .int .i64 x.f8.f0, .slice A14 x.f8.f1.length c14, .slice A15 x.f8.f2.length c15, .slice A16 x.f8.f3.length c16], rfl, (k24_mk w x.f4 ), ⟨[.int .i64 x.f5], [.string x.f6, .bool x.f7, .int .i64 x.f8.f0, .slice A14 x.f8.f1.length c14, .slice A15 x.f8.f2.length c15, .slice A16 x.f8.f3.length c16], rfl, rfl, ⟨[.string x.f6], [.bool x.f7, .int .i64 x.f8.f0, .slice A14 x.f8.f1.length c14, .slice A15 x.f8.f2.length c15, .slice A16 x.f8.f3.length c16], rfl, rfl, ⟨[.bool x.f7], [.int .i64 x.f8.f0, .slice A14 x.f8.f1.length c14, .slice A15 x.f8.f2.length c15, .slice A16 x.f8.f3.length c16], rfl, rfl, (k37_mk w x.f8 l14 g14 l15 g15 l16 g16)⟩⟩⟩⟩⟩⟩⟩⟩
theorem k39_openF {W : World} {ok : Nat → Prop} {x : S39} {cs : List Value} (h : Kd.FK k39 W ok x cs) : ∃ A14 c14 A15 c15 A16 c16, cs = [.int .u16 x.f0.f0.f0, .int .u16 x.f0.f0.f1, .int .i64 x.f0.f1, .int .i64 x.f0.f2, .int .u16 x.f1.f0, .int .u16 x.f1.f1, .int .i64 x.f2, .bool x.f3, .int .u16 x.f4.f0, .int .u16 x.f4.f1, .int .i64 x.f5, .string x.f6, .bool x.f7, .int .i64 x.f8.f0, .slice A14 x.f8.f1.length c14, .slice A15 x.f8.f2.length c15, .slice A16 x.f8.f3.length c16] ∧ x.f8.f1.length ≤ c14 ∧ Kd.F k89 W ok A14 x.f8.f1.length x.f8.f1 ∧ x.f8.f2.length ≤ c15 ∧ Kd.F k89 W ok A15 x.f8.f2.length x.f8.f2 ∧ x.f8.f3.length ≤ c16 ∧ Kd.F k89 W ok A16 x.f8.f3.length x.f8.f3 := by
  obtain ⟨A14, c14, A15, c15, A16, c16, rfl, l14, _, l15, _, l16, _⟩ := k39_open (Kd.FK_now h)
  exact ⟨A14, c14, A15, c15, A16, c16, rfl, l14, (fun W' hW => by obtain ⟨A14_, c14_, A15_, c15_, A16_, c16_, he, l14_, g14_, l15_, g15_, l16_, g16_⟩ := k39_open (h W' hW); injection (Option.some.inj (show some (Value.slice A14 x.f8.f1.length c14) = some (Value.slice A14_ x.f8.f1.length c14_) from congrArg (fun l => l[14]?) he)) with ha_ _ _; rw [ha_]; exact g14_), l15, (fun W' hW => by obtain ⟨A14_, c14_, A15_, c15_, A16_, c16_, he, l14_, g14_, l15_, g15_, l16_, g16_⟩ := k39_open (h W' hW); injection (Option.some.inj (show some (Value.slice A15 x.f8.f2.length c15) = some (Value.slice A15_ x.f8.f2.length c15_) from congrArg (fun l => l[15]?) he)) with ha_ _ _; rw [ha_]; exact g15_), l16, (fun W' hW => by obtain ⟨A14_, c14_, A15_, c15_, A16_, c16_, he, l14_, g14_, l15_, g15_, l16_, g16_⟩ := k39_open (h W' hW); injection (Option.some.inj (show some (Value.slice A16 x.f8.f3.length c16) = some (Value.slice A16_ x.f8.f3.length c16_) from congrArg (fun l => l[16]?) he)) with ha_ _ _; rw [ha_]; exact g16_)⟩
theorem k39_mkF (W : World) (ok : Nat → Prop) (x : S39) {A14 : Option Addr} {c14 : Nat} (l14 : x.f8.f1.length ≤ c14) (g14 : Kd.F k89 W ok A14 x.f8.f1.length x.f8.f1) {A15 : Option Addr} {c15 : Nat} (l15 : x.f8.f2.length ≤ c15) (g15 : Kd.F k89 W ok A15 x.f8.f2.length x.f8.f2) {A16 : Option Addr} {c16 : Nat} (l16 : x.f8.f3.length ≤ c16) (g16 : Kd.F k89 W ok A16 x.f8.f3.length x.f8.f3) : Kd.FK k39 W ok x [.int .u16 x.f0.f0.f0, .int .u16 x.f0.f0.f1, .int .i64 x.f0.f1, .int .i64 x.f0.f2, .int .u16 x.f1.f0, .int .u16 x.f1.f1, .int .i64 x.f2, .bool x.f3, .int .u16 x.f4.f0, .int .u16 x.f4.f1, .int .i64 x.f5, .string x.f6, .bool x.f7, .int .i64 x.f8.f0, .slice A14 x.f8.f1.length c14, .slice A15 x.f8.f2.length c15, .slice A16 x.f8.f3.length c16] := fun W2 hW => k39_mk W2 x l14 (g14 W2 hW) l15 (g15 W2 hW) l16 (g16 W2 hW)
def rd_T39 (xs : List S39) (i : Int) : S39 := xs.getD i.toNat z39
theorem at_T39 {w : World} {A : Option Addr} {n : Nat} {xs : List S39} (h : Kd.C k39 w A n xs) (i : Int) (h0 : 0 ≤ i) (h1 : i < n) : ∃ ad A14 c14 A15 c15 A16 c16, A = some ad ∧ w.cell? (ad.add (i.toNat * 17)) = some (.int .u16 (rd_T39 xs i).f0.f0.f0) ∧ w.cell? ⟨(ad.add (i.toNat * 17)).block, (ad.add (i.toNat * 17)).off + 1, none⟩ = some (.int .u16 (rd_T39 xs i).f0.f0.f1) ∧ w.cell? ⟨(ad.add (i.toNat * 17)).block, (ad.add (i.toNat * 17)).off + 2, none⟩ = some (.int .i64 (rd_T39 xs i).f0.f1) ∧ w.cell? ⟨(ad.add (i.toNat * 17)).block, (ad.add (i.toNat * 17)).off + 3, none⟩ = some (.int .i64 (rd_T39 xs i).f0.f2) ∧ w.cell? ⟨(ad.add (i.toNat * 17)).block, (ad.add (i.toNat * 17)).off + 4, none⟩ = some (.int .u16 (rd_T39 xs i).f1.f0) ∧ w.cell? ⟨(ad.add (i.toNat * 17)).block, (ad.add (i.toNat * 17)).off + 5, none⟩ = some (.int .u16 (rd_T39 xs i).f1.f1) ∧ w.cell? ⟨(ad.add (i.toNat * 17)).block, (ad.add (i.toNat * 17)).off + 6, none⟩ = some (.int .i64 (rd_T39 xs i).f2) ∧ w.cell? ⟨(ad.add (i.toNat * 17)).block, (ad.add (i.toNat * 17)).off + 7, none⟩ = some (.bool (rd_T39 xs i).f3) ∧ w.cell? ⟨(ad.add (i.toNat * 17)).block, (ad.add (i.toNat * 17)).off + 8, none⟩ = some (.int .u16 (rd_T39 xs i).f4.f0) ∧ w.cell? ⟨(ad.add (i.toNat * 17)).block, (ad.add (i.toNat * 17)).off + 9, none⟩ = some (.int .u16 (rd_T39 xs i).f4.f1) ∧ w.cell? ⟨(ad.add (i.toNat * 17)).block, (ad.add (i.toNat * 17)).off + 10, none⟩ = some (.int .i64 (rd_T39 xs i).f5) ∧ w.cell? ⟨(ad.add (i.toNat * 17)).block, (ad.add (i.toNat * 17)).off + 11, none⟩ = some (.string (rd_T39 xs i).f6) ∧ w.cell? ⟨(ad.add (i.toNat * 17)).block, (ad.add (i.toNat * 17)).off + 12, none⟩ = some (.bool (rd_T39 xs i).f7) ∧ w.cell? ⟨(ad.add (i.toNat * 17)).block, (ad.add (i.toNat * 17)).off + 13, none⟩ = some (.int .i64 (rd_T39 xs i).f8.f0) ∧ w.cell? ⟨(ad.add (i.toNat * 17)).block, (ad.add (i.toNat * 17)).off + 14, none⟩ = some (.slice A14 (rd_T39 xs i).f8.f1.length c14) ∧ w.cell? ⟨(ad.add (i.toNat * 17)).block, (ad.add (i.toNat * 17)).off + 15, none⟩ = some (.slice A15 (rd_T39 xs i).f8.f2.length c15) ∧ w.cell? ⟨(ad.add (i.toNat * 17)).block, (ad.add (i.toNat * 17)).off + 16, none⟩ = some (.slice A16 (rd_T39 xs i).f8.f3.length c16) ∧ (rd_T39 xs i).f8.f1.length ≤ c14 ∧ k89.C w A14 (rd_T39 xs i).f8.f1.length (rd_T39 xs i).f8.f1 ∧ (rd_T39 xs i).f8.f2.length ≤ c15 ∧ k89.C w A15 (rd_T39 xs i).f8.f2.length (rd_T39 xs i).f8.f2 ∧ (rd_T39 xs i).f8.f3.length ≤ c16 ∧ k89.C w A16 (rd_T39 xs i).f8.f3.length (rd_T39 xs i).f8.f3 := by
  obtain ⟨ad, c, e, _, hK, hc0⟩ := Kd.C_get h z39 i h0 h1
  have hc : ∀ j u, c[j]? = some u → w.cell? (ad.add (i.toNat * 17 + j)) = some u := hc0
  obtain ⟨A14, c14, A15, c15, A16, c16, rfl, l14, g14, l15, g15, l16, g16⟩ := k39_open hK
  exact ⟨ad, A14, c14, A15, c15, A16, c16, e, hc 0 _ rfl, by rw [← add_field _ _ 1 (by omega)]; exact hc 1 _ rfl, by rw [← add_field _ _ 2 (by omega)]; exact hc 2 _ rfl, by rw [← add_field _ _ 3 (by omega)]; exact hc 3 _ rfl, by rw [← add_field _ _ 4 (by omega)]; exact hc 4 _ rfl, by rw [← add_field _ _ 5 (by omega)]; exact hc 5 _ rfl, by rw [← add_field _ _ 6 (by omega)]; exact hc 6 _ rfl, by rw [← add_field _ _ 7 (by omega)]; exact hc 7 _ rfl, by rw [← add_field _ _ 8 (by omega)]; exact hc 8 _ rfl, by rw [← add_field _ _ 9 (by omega)]; exact hc 9 _ rfl, by rw [← add_field _ _ 10 (by omega)]; exact hc 10 _ rfl, by rw [← add_field _ _ 11 (by omega)]; exact hc 11 _ rfl, by rw [← add_field _ _ 12 (by omega)]; exact hc 12 _ rfl, by rw [← add_field _ _ 13 (by omega)]; exact hc 13 _ rfl, by rw [← add_field _ _ 14 (by omega)]; exact hc 14 _ rfl, by rw [← add_field _ _ 15 (by omega)]; exact hc 15 _ rfl, by rw [← add_field _ _ 16 (by omega)]; exact hc 16 _ rfl, l14, g14, l15, g15, l16, g16⟩

end Go.Proofs.Ytaapejhoegeimaa.PPartPlays
