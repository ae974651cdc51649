/- alive of the statements on traces. No conditions. -/
import Derived.Test.YtdjndnoiankicaaGreatDoorJb
import Derived.Test.YtdjndnoiankicaaGreatDoorFree
namespace Go.Proofs.YtdjndnoiankicaaGreatDoor
open Go.RowKit Go.Shelf
set_option linter.unusedSimpArgs false
set_option linter.unusedVariables false
attribute [local go_sem] cell_over frozen_over

theorem tseen_at (A : Option Addr) (c : Nat) (es : List Tr.E) (hlen : es.length ≤ 1000000) (hok : ∀ e ∈ es, Lab.ok e.2.2.1) (b : Lab.L) (hb : Lab.ok b) (w : World) (hA : EntsAt w A es) :
    Calls Tryz.prog 76 #[.slice A es.length c, labV b] w fun e w' => ∃ p : Option Addr × Nat, e = .returned (.slice p.1 (Tr.seen es b).length p.2) ∧ EntsAt w' p.1 (Tr.seen es b) ∧ Below w.heap.size w w' := by
  refine (tseen_ok A c es hlen hok b hb w hA).mono ?_
  rintro e w' ⟨v, rfl, ho, hb1⟩
  obtain ⟨A', cap, rfl, h1, h2⟩ := ents_of_own ho
  exact ⟨(A', cap), rfl, h1, hb1⟩
/-- A row of entries, of events, as a fact. -/
def Fact.ents (l : List Tr.E) : Fact := ⟨fun v w => ∃ p : Option Addr × Nat, v = .slice p.1 l.length p.2 ∧ EntsAt w p.1 l, fun _ _ _ ⟨p, h1, h2⟩ hb => ⟨p, h1, h2.below hb⟩⟩
def Fact.evs (l : List Tr.Ev) : Fact := ⟨fun v w => ∃ p : Option Addr × Nat, v = .slice p.1 l.length p.2 ∧ EvsAt w p.1 l, fun _ _ _ ⟨p, h1, h2⟩ hb => ⟨p, h1, h2.below hb⟩⟩
theorem ten_cells {W : World} {b : Nat} {t : TypeId} {x0 x1 x2 x3 x4 x5 x6 x7 x8 x9 : Value} (h : W.heap[b]? = some (.cells #[x0, x1, x2, x3, x4, x5, x6, x7, x8, x9] t (0, 0))) : (W.cell? ⟨b, 0, none⟩ = some x0 ∧ W.cell? ⟨b, 1, none⟩ = some x1 ∧ W.cell? ⟨b, 2, none⟩ = some x2 ∧ W.cell? ⟨b, 3, none⟩ = some x3 ∧ W.cell? ⟨b, 4, none⟩ = some x4 ∧ W.cell? ⟨b, 5, none⟩ = some x5 ∧ W.cell? ⟨b, 6, none⟩ = some x6 ∧ W.cell? ⟨b, 7, none⟩ = some x7 ∧ W.cell? ⟨b, 8, none⟩ = some x8 ∧ W.cell? ⟨b, 9, none⟩ = some x9) ∧ b < W.heap.size :=
  ⟨⟨cell_of_row W b 0 _ t (0, 0) h, cell_of_row W b 1 _ t (0, 0) h, cell_of_row W b 2 _ t (0, 0) h, cell_of_row W b 3 _ t (0, 0) h, cell_of_row W b 4 _ t (0, 0) h, cell_of_row W b 5 _ t (0, 0) h, cell_of_row W b 6 _ t (0, 0) h, cell_of_row W b 7 _ t (0, 0) h, cell_of_row W b 8 _ t (0, 0) h, cell_of_row W b 9 _ t (0, 0) h⟩, (Array.getElem?_eq_some_iff.1 h).1⟩
theorem ents_one {W : World} {b : Nat} {t : TypeId} {e : Tr.E} (h : W.heap[b]? = some (.cells (trC e).toArray t (0, 0))) : EntsAt W (some ⟨b, 0, none⟩) [e] := by
  refine .inr ⟨b, 0, rfl, fun i hi => ?_⟩
  obtain rfl : i = 0 := by simp at hi; omega
  obtain ⟨⟨x0, x1, x2, x3, x4, x5, x6, x7, x8⟩, _, _⟩ := nine_cells h
  exact ⟨x0, x1, x2, x3, x4, x5, x6, x7, x8⟩
abbrev evC (e : Tr.Ev) : List Value := [.int .i64 e.kind, .int .u16 (e.src.1 : Int), .int .u16 (e.src.2 : Int), .int .u16 (e.dst.1 : Int), .int .u16 (e.dst.2 : Int), .int .i64 e.epoch, .int .i64 e.role, .int .u16 (e.under.1 : Int), .int .u16 (e.under.2 : Int), .int .u16 (e.used : Int)]
theorem evs_two {W : World} {b : Nat} {t : TypeId} {e f : Tr.Ev} (h : W.heap[b]? = some (.cells (evC e ++ evC f).toArray t (0, 0))) : EvsAt W (some ⟨b, 0, none⟩) [e, f] := by
  have hc : ∀ j (hj : j < 20), W.cell? ⟨b, j, none⟩ = (evC e ++ evC f)[j]? := fun j hj => by
    rw [cell_of_row W b j _ t (0, 0) h, List.getElem?_toArray]
  refine .inr ⟨b, 0, rfl, fun i hi => ?_⟩
  have : i = 0 ∨ i = 1 := by simp at hi; omega
  rcases this with rfl | rfl
  · exact ⟨hc 0 (by omega), hc 1 (by omega), hc 2 (by omega), hc 3 (by omega), hc 4 (by omega), hc 5 (by omega), hc 6 (by omega), hc 7 (by omega), hc 8 (by omega), hc 9 (by omega)⟩
  · exact ⟨hc 10 (by omega), hc 11 (by omega), hc 12 (by omega), hc 13 (by omega), hc 14 (by omega), hc 15 (by omega), hc 16 (by omega), hc 17 (by omega), hc 18 (by omega), hc 19 (by omega)⟩
namespace Tr
def evA : Ev := ⟨0, (2, 0), (1, 0), 0, 0, (0, 0), 2⟩
def evO : Ev := ⟨0, (0, 0), (0, 0), 0, 0, (0, 0), 0⟩
end Tr
theorem evA_ok : Tr.evA.ok := ⟨⟨by decide, by decide⟩, ⟨by decide, by decide⟩, ⟨by decide, by decide⟩, by decide⟩
theorem evO_ok : Tr.evO.ok := ⟨⟨by decide, by decide⟩, ⟨by decide, by decide⟩, ⟨by decide, by decide⟩, by decide⟩
set_option maxRecDepth 100000 in
set_option maxHeartbeats 4000000 in
theorem tralive_ok (w : World) (hL : LaidAt w) : Calls Tryz.prog 15 #[] w fun e w' => e = .returned (.bool true) ∧ Below w.heap.size w w' := by
  have HP1 : Hid (∀ w, LaidAt w → Calls Tryz.prog 16 #[.string ⟨#[51, 32, 112, 45, 47, 45, 46, 48, 32, 48, 47, 45, 32, 48, 32, 54, 49, 54, 50]⟩] w fun e w' => e = .returned (.tuple #[.agg #[.int .i64 3, .int .u16 0, .int .u16 0, .int .i64 1, .int .i64 0, .int .u16 1, .int .u16 0, .int .i64 0, .string ⟨#[97, 98]⟩], .int .i64 0]) ∧ Below w.heap.size w w') := Lib.hid fun w h => by
    have := trparse_ok ⟨#[51, 32, 112, 45, 47, 45, 46, 48, 32, 48, 47, 45, 32, 48, 32, 54, 49, 54, 50]⟩ (by decide) w h
    rw [Tr.al_parse] at this
    exact this
  have HP2 : Hid (∀ w, LaidAt w → Calls Tryz.prog 16 #[.string ⟨#[51, 32, 112, 45, 47, 45, 46, 48, 32, 48, 47, 45, 32, 48, 32, 54, 49, 54]⟩] w fun e w' => e = .returned (.tuple #[.agg #[.int .i64 0, .int .u16 0, .int .u16 0, .int .i64 0, .int .i64 0, .int .u16 0, .int .u16 0, .int .i64 0, .string ⟨#[]⟩], .int .i64 3]) ∧ Below w.heap.size w w') := Lib.hid fun w h => by
    have := trparse_ok ⟨#[51, 32, 112, 45, 47, 45, 46, 48, 32, 48, 47, 45, 32, 48, 32, 54, 49, 54]⟩ (by decide) w h
    rw [Tr.al_parse2] at this
    exact this
  have HLN : Hid (∀ w, LaidAt w → Calls Tryz.prog 19 #[.agg #[.int .i64 3, .int .u16 0, .int .u16 0, .int .i64 1, .int .i64 0, .int .u16 1, .int .u16 0, .int .i64 0, .string ⟨#[97, 98]⟩]] w fun e w' => e = .returned (.string ⟨#[51, 32, 112, 45, 47, 45, 46, 48, 32, 48, 47, 45, 32, 48, 32, 54, 49, 54, 50]⟩) ∧ Below w.heap.size w w') := Lib.hid fun w h => by
    have := trline_ok Tr.alE ⟨by decide, ⟨by decide, by decide⟩, ⟨by decide, by decide⟩, by decide⟩ (by decide) w h.tab h.pow
    rw [Tr.al_line] at this
    exact this
  have HC1 : Hid (∀ w, Calls Tryz.prog 74 #[.agg #[.int .i64 0, .int .u16 2, .int .u16 0, .int .u16 1, .int .u16 0, .int .i64 0, .int .i64 0, .int .u16 0, .int .u16 0, .int .u16 2], .agg #[.int .u16 1, .int .u16 0]] w fun e w' => e = .returned (.bool true) ∧ Below w.heap.size w w') := Lib.hid fun w => crosses_ok Tr.evA evA_ok (1, 0) ⟨by decide, by decide⟩ w
  have HC3 : Hid (∀ w, Calls Tryz.prog 74 #[.agg #[.int .i64 0, .int .u16 2, .int .u16 0, .int .u16 1, .int .u16 0, .int .i64 0, .int .i64 0, .int .u16 0, .int .u16 0, .int .u16 2], .agg #[.int .u16 3, .int .u16 0]] w fun e w' => e = .returned (.bool false) ∧ Below w.heap.size w w') := Lib.hid fun w => crosses_ok Tr.evA evA_ok (3, 0) ⟨by decide, by decide⟩ w
  have HCR : Hid (∀ (A : Option Addr) (c : Nat) w, EvsAt w A [Tr.evO, Tr.evA] → Calls Tryz.prog 75 #[.slice A 2 c, .agg #[.int .u16 1, .int .u16 0]] w fun e w' => e = .returned (.bool true) ∧ Below w.heap.size w w') := Lib.hid fun A c w h => crossed_ok A c [Tr.evO, Tr.evA] (by decide) (by intro e he; simp only [List.mem_cons, List.not_mem_nil, or_false] at he; exact he.elim (fun h => h ▸ evO_ok) (fun h => h ▸ evA_ok)) (1, 0) ⟨by decide, by decide⟩ w h
  have HS0 : Hid (∀ (A : Option Addr) (c : Nat) w, EntsAt w A [Tr.alE] → Calls Tryz.prog 76 #[.slice A 1 c, .agg #[.int .u16 0, .int .u16 0]] w fun e w' => ∃ p : Option Addr × Nat, e = .returned (.slice p.1 0 p.2) ∧ EntsAt w' p.1 [] ∧ Below w.heap.size w w') := Lib.hid fun A c w h => tseen_at A c [Tr.alE] (by decide) (by intro e he; simp only [List.mem_cons, List.not_mem_nil, or_false] at he; subst he; exact ⟨by decide, by decide⟩) (0, 0) ⟨by decide, by decide⟩ w h
  have HS5 : Hid (∀ (A : Option Addr) (c : Nat) w, EntsAt w A [Tr.alE] → Calls Tryz.prog 76 #[.slice A 1 c, .agg #[.int .u16 5, .int .u16 0]] w fun e w' => ∃ p : Option Addr × Nat, e = .returned (.slice p.1 1 p.2) ∧ EntsAt w' p.1 [Tr.alE] ∧ Below w.heap.size w w') := Lib.hid fun A c w h => tseen_at A c [Tr.alE] (by decide) (by intro e he; simp only [List.mem_cons, List.not_mem_nil, or_false] at he; subst he; exact ⟨by decide, by decide⟩) (5, 0) ⟨by decide, by decide⟩ w h
  have HSM : Hid (∀ (A B : Option Addr) (c d : Nat) w, EntsAt w A [Tr.alE] → EntsAt w B [Tr.alE] → Calls Tryz.prog 77 #[.slice A 1 c, .slice B 1 d] w fun e w' => e = .returned (.bool true) ∧ Below w.heap.size w w') := Lib.hid fun A B c d w h k => by
    have := same_ok A B c d [Tr.alE] [Tr.alE] (by decide) (by decide) w h k
    rw [decide_eq_true rfl] at this
    exact this
  have HLw := Lib.hid hL
  clear hL
  have HB0 := Lib.hid (below_fresh w (.cells #[.int .i64 3, .int .u16 0, .int .u16 0, .int .i64 1, .int .i64 0, .int .u16 1, .int .u16 0, .int .i64 0, .string ⟨#[97, 98]⟩] 33))
  have HI0 := Lib.hid (heap_alloc_new w (.cells #[.int .i64 3, .int .u16 0, .int .u16 0, .int .i64 1, .int .i64 0, .int .u16 1, .int .u16 0, .int .i64 0, .string ⟨#[97, 98]⟩] 33))
  go_enter Tryz.func15, Tryz.ntmps15
  go_wp2_with fail
  refine (HP1.out _ (HLw.out.below HB0.out)).mono ?_
  rintro e w1 ⟨rfl, hb1⟩
  have HB1 := Lib.hid (below_here HB0.out hb1)
  have HI1 := Lib.hid (block_below (below_fresh w1 (.cells #[.int .i64 3, .int .u16 0, .int .u16 0, .int .i64 1, .int .i64 0, .int .u16 1, .int .u16 0, .int .i64 0, .string ⟨#[97, 98]⟩] 33)) (block_below hb1 HI0.out))
  have HJ1 := Lib.hid (heap_alloc_new w1 (.cells #[.int .i64 3, .int .u16 0, .int .u16 0, .int .i64 1, .int .i64 0, .int .u16 1, .int .u16 0, .int .i64 0, .string ⟨#[97, 98]⟩] 33))
  have HB1' := Lib.hid (below_new HB1.out (.cells #[.int .i64 3, .int .u16 0, .int .u16 0, .int .i64 1, .int .i64 0, .int .u16 1, .int .u16 0, .int .i64 0, .string ⟨#[97, 98]⟩] 33))
  clear hb1
  go_wp2_with fail
  refine (HP2.out _ (HLw.out.below HB1'.out)).mono ?_
  rintro e w2 ⟨rfl, hb2⟩
  have hb9 := below_new (below_new (below_here HB1'.out hb2) (.cells #[.int .i64 0, .int .u16 0, .int .u16 0, .int .i64 0, .int .i64 0, .int .u16 0, .int .u16 0, .int .i64 0, .string ⟨#[]⟩] 33)) (.cells #[.int .i64 0, .int .u16 2, .int .u16 0, .int .u16 1, .int .u16 0, .int .i64 0, .int .i64 0, .int .u16 0, .int .u16 0, .int .u16 2] 127)
  have hb29 := below_new (below_fresh w2 (.cells #[.int .i64 0, .int .u16 0, .int .u16 0, .int .i64 0, .int .i64 0, .int .u16 0, .int .u16 0, .int .i64 0, .string ⟨#[]⟩] 33)) (.cells #[.int .i64 0, .int .u16 2, .int .u16 0, .int .u16 1, .int .u16 0, .int .i64 0, .int .i64 0, .int .u16 0, .int .u16 0, .int .u16 2] 127)
  have hi9 := block_below hb29 (block_below hb2 HI1.out)
  have hj9 := block_below hb29 (block_below hb2 HJ1.out)
  have hv9 := heap_alloc_new (w2.alloc (.cells #[.int .i64 0, .int .u16 0, .int .u16 0, .int .i64 0, .int .i64 0, .int .u16 0, .int .u16 0, .int .i64 0, .string ⟨#[]⟩] 33)) (.cells #[.int .i64 0, .int .u16 2, .int .u16 0, .int .u16 1, .int .u16 0, .int .i64 0, .int .i64 0, .int .u16 0, .int .u16 0, .int .u16 2] 127)
  clear hb2 hb29
  go_wp2_with fail
  generalize hw9 : (w2.alloc (.cells #[.int .i64 0, .int .u16 0, .int .u16 0, .int .i64 0, .int .i64 0, .int .u16 0, .int .u16 0, .int .i64 0, .string ⟨#[]⟩] 33)).alloc (.cells #[.int .i64 0, .int .u16 2, .int .u16 0, .int .u16 1, .int .u16 0, .int .i64 0, .int .i64 0, .int .u16 0, .int .u16 0, .int .u16 2] 127) = w9 at hb9 hi9 hj9 hv9 ⊢
  clear hw9
  rw [World.size_alloc] at hv9
  generalize w1.heap.size = n2 at hj9 ⊢
  generalize w2.heap.size + 1 = n3 at hv9 ⊢
  obtain ⟨⟨a0, a1, a2, a3, a4, a5, a6, a7, a8⟩, _, al⟩ := nine_cells hi9
  obtain ⟨⟨d0, d1, d2, d3, d4, d5, d6, d7, d8⟩, _, dl⟩ := nine_cells hj9
  obtain ⟨⟨v0, v1, v2, v3, v4, v5, v6, v7, v8, v9⟩, vl⟩ := ten_cells hv9
  have HB9 := Lib.hid hb9
  clear hb9 hi9 hj9 hv9
  refine wp_region_freeA 51 [some 22, some 23, some 24, some 25, some 26, some 27, some 28, some 29, some 30, some 31, some 32, some 33, some 34, some 35, some 36, some 37, some 38, some 39, some 40, some 41, some 42, some 43, some 44, some 45, some 46, some 47, some 48, some 49, some 50, some 51, some 52, some 53, some 54, some 55, some 56, some 57, some 58, some 59, some 60, some 61, some 62, some 63, some 64, some 65, some 66, some 67, some 68, some 69, some 70, some 71, some 72] (fun W => ∃ X, W = over w9 X) [Fact.is (.agg #[.int .i64 3, .int .u16 0, .int .u16 0, .int .i64 1, .int .i64 0, .int .u16 1, .int .u16 0, .int .i64 0, .string ⟨#[97, 98]⟩]), Fact.is (.string ⟨#[51, 32, 112, 45, 47, 45, 46, 48, 32, 48, 47, 45, 32, 48, 32, 54, 49, 54, 50]⟩), Fact.is (.bool true), Fact.is (.bool true), Fact.is (.agg #[.int .i64 3, .int .u16 0, .int .u16 0, .int .i64 1, .int .i64 0, .int .u16 1, .int .u16 0, .int .i64 0, .string ⟨#[97, 98]⟩]), Fact.is (.agg #[.int .i64 3, .int .u16 0, .int .u16 0, .int .i64 1, .int .i64 0, .int .u16 1, .int .u16 0, .int .i64 0, .string ⟨#[97, 98]⟩]), Fact.is (.bool true), Fact.is (.bool true), Fact.is (.bool true), Fact.is (.int .i64 0), Fact.is (.bool true), Fact.is (.bool true), Fact.is (.bool true), Fact.is (.int .i64 3), Fact.is (.bool true), Fact.is (.bool true), Fact.is (.bool true), Fact.is (.agg #[.int .i64 0, .int .u16 2, .int .u16 0, .int .u16 1, .int .u16 0, .int .i64 0, .int .i64 0, .int .u16 0, .int .u16 0, .int .u16 2]), Fact.is (.agg #[.int .u16 1, .int .u16 0]), Fact.is (.bool true), Fact.is (.bool true), Fact.is (.bool true), Fact.is (.agg #[.int .i64 0, .int .u16 2, .int .u16 0, .int .u16 1, .int .u16 0, .int .i64 0, .int .i64 0, .int .u16 0, .int .u16 0, .int .u16 2]), Fact.is (.agg #[.int .u16 3, .int .u16 0]), Fact.is (.bool false), Fact.is (.bool true), Fact.is (.bool true), Fact.is (.bool true), Fact.is (.agg #[.int .i64 0, .int .u16 0, .int .u16 0, .int .u16 0, .int .u16 0, .int .i64 0, .int .i64 0, .int .u16 0, .int .u16 0, .int .u16 0]), Fact.is (.agg #[.int .i64 0, .int .u16 2, .int .u16 0, .int .u16 1, .int .u16 0, .int .i64 0, .int .i64 0, .int .u16 0, .int .u16 0, .int .u16 2]), Fact.evs [Tr.evO, Tr.evA], Fact.is (.agg #[.int .u16 1, .int .u16 0]), Fact.is (.bool true), Fact.is (.bool true), Fact.is (.bool true), Fact.is (.agg #[.int .i64 3, .int .u16 0, .int .u16 0, .int .i64 1, .int .i64 0, .int .u16 1, .int .u16 0, .int .i64 0, .string ⟨#[97, 98]⟩]), Fact.ents [Tr.alE], Fact.is (.agg #[.int .u16 0, .int .u16 0]), Fact.ents [], Fact.is (.int .i64 0), Fact.is (.bool true), Fact.is (.bool true), Fact.is (.bool true), Fact.is (.agg #[.int .i64 3, .int .u16 0, .int .u16 0, .int .i64 1, .int .i64 0, .int .u16 1, .int .u16 0, .int .i64 0, .string ⟨#[97, 98]⟩]), Fact.ents [Tr.alE], Fact.is (.agg #[.int .u16 5, .int .u16 0]), Fact.ents [Tr.alE], Fact.is (.agg #[.int .i64 3, .int .u16 0, .int .u16 0, .int .i64 1, .int .i64 0, .int .u16 1, .int .u16 0, .int .i64 0, .string ⟨#[97, 98]⟩]), Fact.ents [Tr.alE], Fact.is (.bool true), Fact.is (.bool true)] [] (by kernel_rfl) (by kernel_rfl) ?same (over_of (Below.refl _ _).drew) ?steps ?fin
  case same => kernel_rfl
  case steps =>
    simp only [List.take_succ_cons, List.take_zero, stepsI]
    refine ⟨⟨fun v u => by kernel_rfl, ?s0⟩, ⟨fun v u => by kernel_rfl, ?s1⟩, ⟨fun v u => by kernel_rfl, ?s2⟩, ⟨fun v u => by kernel_rfl, ?s3⟩, ⟨fun v u => by kernel_rfl, ?s4⟩, ⟨fun v u => by kernel_rfl, ?s5⟩, ⟨fun v u => by kernel_rfl, ?s6⟩, ⟨fun v u => by kernel_rfl, ?s7⟩, ⟨fun v u => by kernel_rfl, ?s8⟩, ⟨fun v u => by kernel_rfl, ?s9⟩, ⟨fun v u => by kernel_rfl, ?s10⟩, ⟨fun v u => by kernel_rfl, ?s11⟩, ⟨fun v u => by kernel_rfl, ?s12⟩, ⟨fun v u => by kernel_rfl, ?s13⟩, ⟨fun v u => by kernel_rfl, ?s14⟩, ⟨fun v u => by kernel_rfl, ?s15⟩, ⟨fun v u => by kernel_rfl, ?s16⟩, ⟨fun v u => by kernel_rfl, ?s17⟩, ⟨fun v u => by kernel_rfl, ?s18⟩, ⟨fun v u => by kernel_rfl, ?s19⟩, ⟨fun v u => by kernel_rfl, ?s20⟩, ⟨fun v u => by kernel_rfl, ?s21⟩, ⟨fun v u => by kernel_rfl, ?s22⟩, ⟨fun v u => by kernel_rfl, ?s23⟩, ⟨fun v u => by kernel_rfl, ?s24⟩, ⟨fun v u => by kernel_rfl, ?s25⟩, ⟨fun v u => by kernel_rfl, ?s26⟩, ⟨fun v u => by kernel_rfl, ?s27⟩, ⟨fun v u => by kernel_rfl, ?s28⟩, ⟨fun v u => by kernel_rfl, ?s29⟩, ⟨fun v u => by kernel_rfl, ?s30⟩, ⟨fun v u => by kernel_rfl, ?s31⟩, ⟨fun v u => by kernel_rfl, ?s32⟩, ⟨fun v u => by kernel_rfl, ?s33⟩, ⟨fun v u => by kernel_rfl, ?s34⟩, ⟨fun v u => by kernel_rfl, ?s35⟩, ⟨fun v u => by kernel_rfl, ?s36⟩, ⟨fun v u => by kernel_rfl, ?s37⟩, ⟨fun v u => by kernel_rfl, ?s38⟩, ⟨fun v u => by kernel_rfl, ?s39⟩, ⟨fun v u => by kernel_rfl, ?s40⟩, ⟨fun v u => by kernel_rfl, ?s41⟩, ⟨fun v u => by kernel_rfl, ?s42⟩, ⟨fun v u => by kernel_rfl, ?s43⟩, ⟨fun v u => by kernel_rfl, ?s44⟩, ⟨fun v u => by kernel_rfl, ?s45⟩, ⟨fun v u => by kernel_rfl, ?s46⟩, ⟨fun v u => by kernel_rfl, ?s47⟩, ⟨fun v u => by kernel_rfl, ?s48⟩, ⟨fun v u => by kernel_rfl, ?s49⟩, ⟨fun v u => by kernel_rfl, ?s50⟩, trivial⟩
    case s0 =>
      intro v W hW hp
      obtain ⟨X, rfl⟩ := hW
      clear hp
      simp only [mkA, setAll, List.setIfInBounds_toArray, List.set_cons_succ, List.set_cons_zero]
      refine .inl ⟨rfl, ?_⟩
      go_simp
      first | exact ⟨⟨X, rfl⟩, Below.refl _ _, rfl⟩ | exact ⟨⟨X, rfl⟩, Below.refl _ _, rfl, fun h => by cases h⟩
    case s1 =>
      intro v W hW hp
      obtain ⟨X, rfl⟩ := hW
      have g0 : v 0 = .agg #[.int .i64 3, .int .u16 0, .int .u16 0, .int .i64 1, .int .i64 0, .int .u16 1, .int .u16 0, .int .i64 0, .string ⟨#[97, 98]⟩] := hp ⟨0, .data⟩ (by simp) rfl
      clear hp
      simp only [mkA, setAll, List.setIfInBounds_toArray, List.set_cons_succ, List.set_cons_zero]
      refine .inl ⟨rfl, ?_⟩
      go_simp
      refine (HLN.out _ ((HLw.out.below HB9.out).below (over_below _ _))).mono ?_
      rintro e W2 ⟨rfl, hb2⟩
      first | exact ⟨_, rfl, over_of (below_here (over_below _ _) hb2), hb2, rfl⟩ | exact ⟨_, rfl, over_of (below_here (over_below _ _) hb2), hb2, rfl, fun h => by cases h⟩
    case s2 =>
      intro v W hW hp
      obtain ⟨X, rfl⟩ := hW
      have g1 : v 1 = .string ⟨#[51, 32, 112, 45, 47, 45, 46, 48, 32, 48, 47, 45, 32, 48, 32, 54, 49, 54, 50]⟩ := hp ⟨1, .data⟩ (by simp) rfl
      clear hp
      simp only [mkA, setAll, List.setIfInBounds_toArray, List.set_cons_succ, List.set_cons_zero]
      refine .inl ⟨rfl, ?_⟩
      go_simp
      first | exact ⟨⟨X, rfl⟩, Below.refl _ _, rfl⟩ | exact ⟨⟨X, rfl⟩, Below.refl _ _, rfl, fun h => by cases h⟩
    case s3 =>
      intro v W hW hp
      obtain ⟨X, rfl⟩ := hW
      have g2 : v 2 = .bool true := hp ⟨2, .data⟩ (by simp) rfl
      clear hp
      simp only [mkA, setAll, List.setIfInBounds_toArray, List.set_cons_succ, List.set_cons_zero]
      refine .inl ⟨rfl, ?_⟩
      go_simp
      first | exact ⟨⟨X, rfl⟩, Below.refl _ _, rfl⟩ | exact ⟨⟨X, rfl⟩, Below.refl _ _, rfl, fun h => by cases h⟩
    case s4 =>
      intro v W hW hp
      obtain ⟨X, rfl⟩ := hW
      have g3 : v 3 = .bool true := hp ⟨3, .guard⟩ (by simp) rfl
      clear hp
      simp only [mkA, setAll, List.setIfInBounds_toArray, List.set_cons_succ, List.set_cons_zero]
      refine .inl ⟨by simp only [g3]; rfl, ?_⟩
      go_simp
      first | exact ⟨⟨X, rfl⟩, Below.refl _ _, rfl⟩ | exact ⟨⟨X, rfl⟩, Below.refl _ _, rfl, fun h => by cases h⟩
    case s5 =>
      intro v W hW hp
      obtain ⟨X, rfl⟩ := hW
      have g3 : v 3 = .bool true := hp ⟨3, .guard⟩ (by simp) rfl
      clear hp
      simp only [mkA, setAll, List.setIfInBounds_toArray, List.set_cons_succ, List.set_cons_zero]
      refine .inl ⟨by simp only [g3]; rfl, ?_⟩
      go_simp
      first | exact ⟨⟨X, rfl⟩, Below.refl _ _, rfl⟩ | exact ⟨⟨X, rfl⟩, Below.refl _ _, rfl, fun h => by cases h⟩
    case s6 =>
      intro v W hW hp
      obtain ⟨X, rfl⟩ := hW
      have g4 : v 4 = .agg #[.int .i64 3, .int .u16 0, .int .u16 0, .int .i64 1, .int .i64 0, .int .u16 1, .int .u16 0, .int .i64 0, .string ⟨#[97, 98]⟩] := hp ⟨4, .data⟩ (by simp) rfl
      have g5 : v 5 = .agg #[.int .i64 3, .int .u16 0, .int .u16 0, .int .i64 1, .int .i64 0, .int .u16 1, .int .u16 0, .int .i64 0, .string ⟨#[97, 98]⟩] := hp ⟨5, .data⟩ (by simp) rfl
      have g3 : v 3 = .bool true := hp ⟨3, .guard⟩ (by simp) rfl
      clear hp
      simp only [mkA, setAll, List.setIfInBounds_toArray, List.set_cons_succ, List.set_cons_zero]
      refine .inl ⟨by simp only [g3]; rfl, ?_⟩
      go_simp
      first | exact ⟨⟨X, rfl⟩, Below.refl _ _, rfl⟩ | exact ⟨⟨X, rfl⟩, Below.refl _ _, rfl, fun h => by cases h⟩
    case s7 =>
      intro v W hW hp
      obtain ⟨X, rfl⟩ := hW
      have g3 : v 3 = .bool true := hp ⟨3, .data⟩ (by simp) rfl
      have g6 : v 6 = .bool true := hp ⟨6, .data⟩ (by simp) rfl
      clear hp
      simp only [mkA, setAll, List.setIfInBounds_toArray, List.set_cons_succ, List.set_cons_zero]
      refine .inl ⟨rfl, ?_⟩
      go_simp
      first | exact ⟨⟨X, rfl⟩, Below.refl _ _, rfl⟩ | exact ⟨⟨X, rfl⟩, Below.refl _ _, rfl, fun h => by cases h⟩
    case s8 =>
      intro v W hW hp
      obtain ⟨X, rfl⟩ := hW
      have g7 : v 7 = .bool true := hp ⟨7, .data⟩ (by simp) rfl
      clear hp
      simp only [mkA, setAll, List.setIfInBounds_toArray, List.set_cons_succ, List.set_cons_zero]
      refine .inl ⟨rfl, ?_⟩
      go_simp
      first | exact ⟨⟨X, rfl⟩, Below.refl _ _, rfl⟩ | exact ⟨⟨X, rfl⟩, Below.refl _ _, rfl, fun h => by cases h⟩
    case s9 =>
      intro v W hW hp
      obtain ⟨X, rfl⟩ := hW
      have g8 : v 8 = .bool true := hp ⟨8, .guard⟩ (by simp) rfl
      clear hp
      simp only [mkA, setAll, List.setIfInBounds_toArray, List.set_cons_succ, List.set_cons_zero]
      refine .inl ⟨by simp only [g8]; rfl, ?_⟩
      go_simp
      first | exact ⟨⟨X, rfl⟩, Below.refl _ _, rfl⟩ | exact ⟨⟨X, rfl⟩, Below.refl _ _, rfl, fun h => by cases h⟩
    case s10 =>
      intro v W hW hp
      obtain ⟨X, rfl⟩ := hW
      have g9 : v 9 = .int .i64 0 := hp ⟨9, .data⟩ (by simp) rfl
      have g8 : v 8 = .bool true := hp ⟨8, .guard⟩ (by simp) rfl
      clear hp
      simp only [mkA, setAll, List.setIfInBounds_toArray, List.set_cons_succ, List.set_cons_zero]
      refine .inl ⟨by simp only [g8]; rfl, ?_⟩
      go_simp
      first | exact ⟨⟨X, rfl⟩, Below.refl _ _, rfl⟩ | exact ⟨⟨X, rfl⟩, Below.refl _ _, rfl, fun h => by cases h⟩
    case s11 =>
      intro v W hW hp
      obtain ⟨X, rfl⟩ := hW
      have g8 : v 8 = .bool true := hp ⟨8, .data⟩ (by simp) rfl
      have g10 : v 10 = .bool true := hp ⟨10, .data⟩ (by simp) rfl
      clear hp
      simp only [mkA, setAll, List.setIfInBounds_toArray, List.set_cons_succ, List.set_cons_zero]
      refine .inl ⟨rfl, ?_⟩
      go_simp
      first | exact ⟨⟨X, rfl⟩, Below.refl _ _, rfl⟩ | exact ⟨⟨X, rfl⟩, Below.refl _ _, rfl, fun h => by cases h⟩
    case s12 =>
      intro v W hW hp
      obtain ⟨X, rfl⟩ := hW
      have g11 : v 11 = .bool true := hp ⟨11, .data⟩ (by simp) rfl
      clear hp
      simp only [mkA, setAll, List.setIfInBounds_toArray, List.set_cons_succ, List.set_cons_zero]
      refine .inl ⟨rfl, ?_⟩
      go_simp
      first | exact ⟨⟨X, rfl⟩, Below.refl _ _, rfl⟩ | exact ⟨⟨X, rfl⟩, Below.refl _ _, rfl, fun h => by cases h⟩
    case s13 =>
      intro v W hW hp
      obtain ⟨X, rfl⟩ := hW
      have g12 : v 12 = .bool true := hp ⟨12, .guard⟩ (by simp) rfl
      clear hp
      simp only [mkA, setAll, List.setIfInBounds_toArray, List.set_cons_succ, List.set_cons_zero]
      refine .inl ⟨by simp only [g12]; rfl, ?_⟩
      go_simp
      first | exact ⟨⟨X, rfl⟩, Below.refl _ _, rfl⟩ | exact ⟨⟨X, rfl⟩, Below.refl _ _, rfl, fun h => by cases h⟩
    case s14 =>
      intro v W hW hp
      obtain ⟨X, rfl⟩ := hW
      have g13 : v 13 = .int .i64 3 := hp ⟨13, .data⟩ (by simp) rfl
      have g12 : v 12 = .bool true := hp ⟨12, .guard⟩ (by simp) rfl
      clear hp
      simp only [mkA, setAll, List.setIfInBounds_toArray, List.set_cons_succ, List.set_cons_zero]
      refine .inl ⟨by simp only [g12]; rfl, ?_⟩
      go_simp
      first | exact ⟨⟨X, rfl⟩, Below.refl _ _, rfl⟩ | exact ⟨⟨X, rfl⟩, Below.refl _ _, rfl, fun h => by cases h⟩
    case s15 =>
      intro v W hW hp
      obtain ⟨X, rfl⟩ := hW
      have g12 : v 12 = .bool true := hp ⟨12, .data⟩ (by simp) rfl
      have g14 : v 14 = .bool true := hp ⟨14, .data⟩ (by simp) rfl
      clear hp
      simp only [mkA, setAll, List.setIfInBounds_toArray, List.set_cons_succ, List.set_cons_zero]
      refine .inl ⟨rfl, ?_⟩
      go_simp
      first | exact ⟨⟨X, rfl⟩, Below.refl _ _, rfl⟩ | exact ⟨⟨X, rfl⟩, Below.refl _ _, rfl, fun h => by cases h⟩
    case s16 =>
      intro v W hW hp
      obtain ⟨X, rfl⟩ := hW
      have g15 : v 15 = .bool true := hp ⟨15, .data⟩ (by simp) rfl
      clear hp
      simp only [mkA, setAll, List.setIfInBounds_toArray, List.set_cons_succ, List.set_cons_zero]
      refine .inl ⟨rfl, ?_⟩
      go_simp
      first | exact ⟨⟨X, rfl⟩, Below.refl _ _, rfl⟩ | exact ⟨⟨X, rfl⟩, Below.refl _ _, rfl, fun h => by cases h⟩
    case s17 =>
      intro v W hW hp
      obtain ⟨X, rfl⟩ := hW
      have g16 : v 16 = .bool true := hp ⟨16, .guard⟩ (by simp) rfl
      clear hp
      simp only [mkA, setAll, List.setIfInBounds_toArray, List.set_cons_succ, List.set_cons_zero]
      refine .inl ⟨by simp only [g16]; rfl, ?_⟩
      go_simp
      first | exact ⟨⟨X, rfl⟩, Below.refl _ _, rfl⟩ | exact ⟨⟨X, rfl⟩, Below.refl _ _, rfl, fun h => by cases h⟩
    case s18 =>
      intro v W hW hp
      obtain ⟨X, rfl⟩ := hW
      have g16 : v 16 = .bool true := hp ⟨16, .guard⟩ (by simp) rfl
      clear hp
      simp only [mkA, setAll, List.setIfInBounds_toArray, List.set_cons_succ, List.set_cons_zero]
      refine .inl ⟨by simp only [g16]; rfl, ?_⟩
      go_simp
      first | exact ⟨⟨X, rfl⟩, Below.refl _ _, rfl⟩ | exact ⟨⟨X, rfl⟩, Below.refl _ _, rfl, fun h => by cases h⟩
    case s19 =>
      intro v W hW hp
      obtain ⟨X, rfl⟩ := hW
      have g17 : v 17 = .agg #[.int .i64 0, .int .u16 2, .int .u16 0, .int .u16 1, .int .u16 0, .int .i64 0, .int .i64 0, .int .u16 0, .int .u16 0, .int .u16 2] := hp ⟨17, .data⟩ (by simp) rfl
      have g18 : v 18 = .agg #[.int .u16 1, .int .u16 0] := hp ⟨18, .data⟩ (by simp) rfl
      have g16 : v 16 = .bool true := hp ⟨16, .guard⟩ (by simp) rfl
      clear hp
      simp only [mkA, setAll, List.setIfInBounds_toArray, List.set_cons_succ, List.set_cons_zero]
      refine .inl ⟨by simp only [g16]; rfl, ?_⟩
      go_simp
      refine (HC1.out _).mono ?_
      rintro e W2 ⟨rfl, hb2⟩
      first | exact ⟨_, rfl, over_of (below_here (over_below _ _) hb2), hb2, rfl⟩ | exact ⟨_, rfl, over_of (below_here (over_below _ _) hb2), hb2, rfl, fun h => by cases h⟩
    case s20 =>
      intro v W hW hp
      obtain ⟨X, rfl⟩ := hW
      have g16 : v 16 = .bool true := hp ⟨16, .data⟩ (by simp) rfl
      have g19 : v 19 = .bool true := hp ⟨19, .data⟩ (by simp) rfl
      clear hp
      simp only [mkA, setAll, List.setIfInBounds_toArray, List.set_cons_succ, List.set_cons_zero]
      refine .inl ⟨rfl, ?_⟩
      go_simp
      first | exact ⟨⟨X, rfl⟩, Below.refl _ _, rfl⟩ | exact ⟨⟨X, rfl⟩, Below.refl _ _, rfl, fun h => by cases h⟩
    case s21 =>
      intro v W hW hp
      obtain ⟨X, rfl⟩ := hW
      have g20 : v 20 = .bool true := hp ⟨20, .data⟩ (by simp) rfl
      clear hp
      simp only [mkA, setAll, List.setIfInBounds_toArray, List.set_cons_succ, List.set_cons_zero]
      refine .inl ⟨rfl, ?_⟩
      go_simp
      first | exact ⟨⟨X, rfl⟩, Below.refl _ _, rfl⟩ | exact ⟨⟨X, rfl⟩, Below.refl _ _, rfl, fun h => by cases h⟩
    case s22 =>
      intro v W hW hp
      obtain ⟨X, rfl⟩ := hW
      have g21 : v 21 = .bool true := hp ⟨21, .guard⟩ (by simp) rfl
      clear hp
      simp only [mkA, setAll, List.setIfInBounds_toArray, List.set_cons_succ, List.set_cons_zero]
      refine .inl ⟨by simp only [g21]; rfl, ?_⟩
      go_simp
      first | exact ⟨⟨X, rfl⟩, Below.refl _ _, rfl⟩ | exact ⟨⟨X, rfl⟩, Below.refl _ _, rfl, fun h => by cases h⟩
    case s23 =>
      intro v W hW hp
      obtain ⟨X, rfl⟩ := hW
      have g21 : v 21 = .bool true := hp ⟨21, .guard⟩ (by simp) rfl
      clear hp
      simp only [mkA, setAll, List.setIfInBounds_toArray, List.set_cons_succ, List.set_cons_zero]
      refine .inl ⟨by simp only [g21]; rfl, ?_⟩
      go_simp
      first | exact ⟨⟨X, rfl⟩, Below.refl _ _, rfl⟩ | exact ⟨⟨X, rfl⟩, Below.refl _ _, rfl, fun h => by cases h⟩
    case s24 =>
      intro v W hW hp
      obtain ⟨X, rfl⟩ := hW
      have g22 : v 22 = .agg #[.int .i64 0, .int .u16 2, .int .u16 0, .int .u16 1, .int .u16 0, .int .i64 0, .int .i64 0, .int .u16 0, .int .u16 0, .int .u16 2] := hp ⟨22, .data⟩ (by simp) rfl
      have g23 : v 23 = .agg #[.int .u16 3, .int .u16 0] := hp ⟨23, .data⟩ (by simp) rfl
      have g21 : v 21 = .bool true := hp ⟨21, .guard⟩ (by simp) rfl
      clear hp
      simp only [mkA, setAll, List.setIfInBounds_toArray, List.set_cons_succ, List.set_cons_zero]
      refine .inl ⟨by simp only [g21]; rfl, ?_⟩
      go_simp
      refine (HC3.out _).mono ?_
      rintro e W2 ⟨rfl, hb2⟩
      first | exact ⟨_, rfl, over_of (below_here (over_below _ _) hb2), hb2, rfl⟩ | exact ⟨_, rfl, over_of (below_here (over_below _ _) hb2), hb2, rfl, fun h => by cases h⟩
    case s25 =>
      intro v W hW hp
      obtain ⟨X, rfl⟩ := hW
      have g24 : v 24 = .bool false := hp ⟨24, .data⟩ (by simp) rfl
      have g21 : v 21 = .bool true := hp ⟨21, .guard⟩ (by simp) rfl
      clear hp
      simp only [mkA, setAll, List.setIfInBounds_toArray, List.set_cons_succ, List.set_cons_zero]
      refine .inl ⟨by simp only [g21]; rfl, ?_⟩
      go_simp
      first | exact ⟨⟨X, rfl⟩, Below.refl _ _, rfl⟩ | exact ⟨⟨X, rfl⟩, Below.refl _ _, rfl, fun h => by cases h⟩
    case s26 =>
      intro v W hW hp
      obtain ⟨X, rfl⟩ := hW
      have g21 : v 21 = .bool true := hp ⟨21, .data⟩ (by simp) rfl
      have g25 : v 25 = .bool true := hp ⟨25, .data⟩ (by simp) rfl
      clear hp
      simp only [mkA, setAll, List.setIfInBounds_toArray, List.set_cons_succ, List.set_cons_zero]
      refine .inl ⟨rfl, ?_⟩
      go_simp
      first | exact ⟨⟨X, rfl⟩, Below.refl _ _, rfl⟩ | exact ⟨⟨X, rfl⟩, Below.refl _ _, rfl, fun h => by cases h⟩
    case s27 =>
      intro v W hW hp
      obtain ⟨X, rfl⟩ := hW
      have g26 : v 26 = .bool true := hp ⟨26, .data⟩ (by simp) rfl
      clear hp
      simp only [mkA, setAll, List.setIfInBounds_toArray, List.set_cons_succ, List.set_cons_zero]
      refine .inl ⟨rfl, ?_⟩
      go_simp
      first | exact ⟨⟨X, rfl⟩, Below.refl _ _, rfl⟩ | exact ⟨⟨X, rfl⟩, Below.refl _ _, rfl, fun h => by cases h⟩
    case s28 =>
      intro v W hW hp
      obtain ⟨X, rfl⟩ := hW
      have g27 : v 27 = .bool true := hp ⟨27, .guard⟩ (by simp) rfl
      clear hp
      simp only [mkA, setAll, List.setIfInBounds_toArray, List.set_cons_succ, List.set_cons_zero]
      refine .inl ⟨by simp only [g27]; rfl, ?_⟩
      go_simp
      first | exact ⟨⟨X, rfl⟩, Below.refl _ _, rfl⟩ | exact ⟨⟨X, rfl⟩, Below.refl _ _, rfl, fun h => by cases h⟩
    case s29 =>
      intro v W hW hp
      obtain ⟨X, rfl⟩ := hW
      have g27 : v 27 = .bool true := hp ⟨27, .guard⟩ (by simp) rfl
      clear hp
      simp only [mkA, setAll, List.setIfInBounds_toArray, List.set_cons_succ, List.set_cons_zero]
      refine .inl ⟨by simp only [g27]; rfl, ?_⟩
      go_simp
      first | exact ⟨⟨X, rfl⟩, Below.refl _ _, rfl⟩ | exact ⟨⟨X, rfl⟩, Below.refl _ _, rfl, fun h => by cases h⟩
    case s30 =>
      intro v W hW hp
      obtain ⟨X, rfl⟩ := hW
      have g28 : v 28 = .agg #[.int .i64 0, .int .u16 0, .int .u16 0, .int .u16 0, .int .u16 0, .int .i64 0, .int .i64 0, .int .u16 0, .int .u16 0, .int .u16 0] := hp ⟨28, .data⟩ (by simp) rfl
      have g29 : v 29 = .agg #[.int .i64 0, .int .u16 2, .int .u16 0, .int .u16 1, .int .u16 0, .int .i64 0, .int .i64 0, .int .u16 0, .int .u16 0, .int .u16 2] := hp ⟨29, .data⟩ (by simp) rfl
      have g27 : v 27 = .bool true := hp ⟨27, .guard⟩ (by simp) rfl
      clear hp
      simp only [mkA, setAll, List.setIfInBounds_toArray, List.set_cons_succ, List.set_cons_zero]
      refine .inl ⟨by simp only [g27]; rfl, ?_⟩
      go_simp
      first | exact ⟨over_of (below_new (over_below _ _) _), below_fresh _ _, ⟨(_, _), rfl, evs_two (e := Tr.evO) (f := Tr.evA) (heap_alloc_new _ _)⟩⟩ | exact ⟨over_of (below_new (over_below _ _) _), below_fresh _ _, ⟨(_, _), rfl, evs_two (e := Tr.evO) (f := Tr.evA) (heap_alloc_new _ _)⟩, fun h => by cases h⟩
    case s31 =>
      intro v W hW hp
      obtain ⟨X, rfl⟩ := hW
      have g27 : v 27 = .bool true := hp ⟨27, .guard⟩ (by simp) rfl
      clear hp
      simp only [mkA, setAll, List.setIfInBounds_toArray, List.set_cons_succ, List.set_cons_zero]
      refine .inl ⟨by simp only [g27]; rfl, ?_⟩
      go_simp
      first | exact ⟨⟨X, rfl⟩, Below.refl _ _, rfl⟩ | exact ⟨⟨X, rfl⟩, Below.refl _ _, rfl, fun h => by cases h⟩
    case s32 =>
      intro v W hW hp
      obtain ⟨X, rfl⟩ := hW
      obtain ⟨b30, g30, r30⟩ := hp ⟨30, .data⟩ (by simp) rfl
      have g31 : v 31 = .agg #[.int .u16 1, .int .u16 0] := hp ⟨31, .data⟩ (by simp) rfl
      have g27 : v 27 = .bool true := hp ⟨27, .guard⟩ (by simp) rfl
      clear hp
      simp only [mkA, setAll, List.setIfInBounds_toArray, List.set_cons_succ, List.set_cons_zero]
      refine .inl ⟨by simp only [g27]; rfl, ?_⟩
      go_simp
      refine (HCR.out _ _ _ r30).mono ?_
      rintro e W2 ⟨rfl, hb2⟩
      first | exact ⟨_, rfl, over_of (below_here (over_below _ _) hb2), hb2, rfl⟩ | exact ⟨_, rfl, over_of (below_here (over_below _ _) hb2), hb2, rfl, fun h => by cases h⟩
    case s33 =>
      intro v W hW hp
      obtain ⟨X, rfl⟩ := hW
      have g27 : v 27 = .bool true := hp ⟨27, .data⟩ (by simp) rfl
      have g32 : v 32 = .bool true := hp ⟨32, .data⟩ (by simp) rfl
      clear hp
      simp only [mkA, setAll, List.setIfInBounds_toArray, List.set_cons_succ, List.set_cons_zero]
      refine .inl ⟨rfl, ?_⟩
      go_simp
      first | exact ⟨⟨X, rfl⟩, Below.refl _ _, rfl⟩ | exact ⟨⟨X, rfl⟩, Below.refl _ _, rfl, fun h => by cases h⟩
    case s34 =>
      intro v W hW hp
      obtain ⟨X, rfl⟩ := hW
      have g33 : v 33 = .bool true := hp ⟨33, .data⟩ (by simp) rfl
      clear hp
      simp only [mkA, setAll, List.setIfInBounds_toArray, List.set_cons_succ, List.set_cons_zero]
      refine .inl ⟨rfl, ?_⟩
      go_simp
      first | exact ⟨⟨X, rfl⟩, Below.refl _ _, rfl⟩ | exact ⟨⟨X, rfl⟩, Below.refl _ _, rfl, fun h => by cases h⟩
    case s35 =>
      intro v W hW hp
      obtain ⟨X, rfl⟩ := hW
      have g34 : v 34 = .bool true := hp ⟨34, .guard⟩ (by simp) rfl
      clear hp
      simp only [mkA, setAll, List.setIfInBounds_toArray, List.set_cons_succ, List.set_cons_zero]
      refine .inl ⟨by simp only [g34]; rfl, ?_⟩
      go_simp
      first | exact ⟨⟨X, rfl⟩, Below.refl _ _, rfl⟩ | exact ⟨⟨X, rfl⟩, Below.refl _ _, rfl, fun h => by cases h⟩
    case s36 =>
      intro v W hW hp
      obtain ⟨X, rfl⟩ := hW
      have g35 : v 35 = .agg #[.int .i64 3, .int .u16 0, .int .u16 0, .int .i64 1, .int .i64 0, .int .u16 1, .int .u16 0, .int .i64 0, .string ⟨#[97, 98]⟩] := hp ⟨35, .data⟩ (by simp) rfl
      have g34 : v 34 = .bool true := hp ⟨34, .guard⟩ (by simp) rfl
      clear hp
      simp only [mkA, setAll, List.setIfInBounds_toArray, List.set_cons_succ, List.set_cons_zero]
      refine .inl ⟨by simp only [g34]; rfl, ?_⟩
      go_simp
      first | exact ⟨over_of (below_new (over_below _ _) _), below_fresh _ _, ⟨(_, _), rfl, ents_one (e := Tr.alE) (heap_alloc_new _ _)⟩⟩ | exact ⟨over_of (below_new (over_below _ _) _), below_fresh _ _, ⟨(_, _), rfl, ents_one (e := Tr.alE) (heap_alloc_new _ _)⟩, fun h => by cases h⟩
    case s37 =>
      intro v W hW hp
      obtain ⟨X, rfl⟩ := hW
      have g34 : v 34 = .bool true := hp ⟨34, .guard⟩ (by simp) rfl
      clear hp
      simp only [mkA, setAll, List.setIfInBounds_toArray, List.set_cons_succ, List.set_cons_zero]
      refine .inl ⟨by simp only [g34]; rfl, ?_⟩
      go_simp
      first | exact ⟨⟨X, rfl⟩, Below.refl _ _, rfl⟩ | exact ⟨⟨X, rfl⟩, Below.refl _ _, rfl, fun h => by cases h⟩
    case s38 =>
      intro v W hW hp
      obtain ⟨X, rfl⟩ := hW
      obtain ⟨b36, g36, r36⟩ := hp ⟨36, .data⟩ (by simp) rfl
      have g37 : v 37 = .agg #[.int .u16 0, .int .u16 0] := hp ⟨37, .data⟩ (by simp) rfl
      have g34 : v 34 = .bool true := hp ⟨34, .guard⟩ (by simp) rfl
      clear hp
      simp only [mkA, setAll, List.setIfInBounds_toArray, List.set_cons_succ, List.set_cons_zero]
      refine .inl ⟨by simp only [g34]; rfl, ?_⟩
      go_simp
      refine (HS0.out _ _ _ r36).mono ?_
      rintro e W2 ⟨p2, rfl, h2, hb2⟩
      first | exact ⟨_, rfl, over_of (below_here (over_below _ _) hb2), hb2, ⟨p2, rfl, h2⟩⟩ | exact ⟨_, rfl, over_of (below_here (over_below _ _) hb2), hb2, ⟨p2, rfl, h2⟩, fun h => by cases h⟩
    case s39 =>
      intro v W hW hp
      obtain ⟨X, rfl⟩ := hW
      obtain ⟨b38, g38, r38⟩ := hp ⟨38, .data⟩ (by simp) rfl
      have g34 : v 34 = .bool true := hp ⟨34, .guard⟩ (by simp) rfl
      clear hp
      simp only [mkA, setAll, List.setIfInBounds_toArray, List.set_cons_succ, List.set_cons_zero]
      refine .inl ⟨by simp only [g34]; rfl, ?_⟩
      go_simp
      first | exact ⟨⟨X, rfl⟩, Below.refl _ _, rfl⟩ | exact ⟨⟨X, rfl⟩, Below.refl _ _, rfl, fun h => by cases h⟩
    case s40 =>
      intro v W hW hp
      obtain ⟨X, rfl⟩ := hW
      have g39 : v 39 = .int .i64 0 := hp ⟨39, .data⟩ (by simp) rfl
      have g34 : v 34 = .bool true := hp ⟨34, .guard⟩ (by simp) rfl
      clear hp
      simp only [mkA, setAll, List.setIfInBounds_toArray, List.set_cons_succ, List.set_cons_zero]
      refine .inl ⟨by simp only [g34]; rfl, ?_⟩
      go_simp
      first | exact ⟨⟨X, rfl⟩, Below.refl _ _, rfl⟩ | exact ⟨⟨X, rfl⟩, Below.refl _ _, rfl, fun h => by cases h⟩
    case s41 =>
      intro v W hW hp
      obtain ⟨X, rfl⟩ := hW
      have g34 : v 34 = .bool true := hp ⟨34, .data⟩ (by simp) rfl
      have g40 : v 40 = .bool true := hp ⟨40, .data⟩ (by simp) rfl
      clear hp
      simp only [mkA, setAll, List.setIfInBounds_toArray, List.set_cons_succ, List.set_cons_zero]
      refine .inl ⟨rfl, ?_⟩
      go_simp
      first | exact ⟨⟨X, rfl⟩, Below.refl _ _, rfl⟩ | exact ⟨⟨X, rfl⟩, Below.refl _ _, rfl, fun h => by cases h⟩
    case s42 =>
      intro v W hW hp
      obtain ⟨X, rfl⟩ := hW
      have g41 : v 41 = .bool true := hp ⟨41, .data⟩ (by simp) rfl
      clear hp
      simp only [mkA, setAll, List.setIfInBounds_toArray, List.set_cons_succ, List.set_cons_zero]
      refine .inl ⟨rfl, ?_⟩
      go_simp
      first | exact ⟨⟨X, rfl⟩, Below.refl _ _, rfl⟩ | exact ⟨⟨X, rfl⟩, Below.refl _ _, rfl, fun h => by cases h⟩
    case s43 =>
      intro v W hW hp
      obtain ⟨X, rfl⟩ := hW
      have g42 : v 42 = .bool true := hp ⟨42, .guard⟩ (by simp) rfl
      clear hp
      simp only [mkA, setAll, List.setIfInBounds_toArray, List.set_cons_succ, List.set_cons_zero]
      refine .inl ⟨by simp only [g42]; rfl, ?_⟩
      go_simp
      first | exact ⟨⟨X, rfl⟩, Below.refl _ _, rfl⟩ | exact ⟨⟨X, rfl⟩, Below.refl _ _, rfl, fun h => by cases h⟩
    case s44 =>
      intro v W hW hp
      obtain ⟨X, rfl⟩ := hW
      have g43 : v 43 = .agg #[.int .i64 3, .int .u16 0, .int .u16 0, .int .i64 1, .int .i64 0, .int .u16 1, .int .u16 0, .int .i64 0, .string ⟨#[97, 98]⟩] := hp ⟨43, .data⟩ (by simp) rfl
      have g42 : v 42 = .bool true := hp ⟨42, .guard⟩ (by simp) rfl
      clear hp
      simp only [mkA, setAll, List.setIfInBounds_toArray, List.set_cons_succ, List.set_cons_zero]
      refine .inl ⟨by simp only [g42]; rfl, ?_⟩
      go_simp
      first | exact ⟨over_of (below_new (over_below _ _) _), below_fresh _ _, ⟨(_, _), rfl, ents_one (e := Tr.alE) (heap_alloc_new _ _)⟩⟩ | exact ⟨over_of (below_new (over_below _ _) _), below_fresh _ _, ⟨(_, _), rfl, ents_one (e := Tr.alE) (heap_alloc_new _ _)⟩, fun h => by cases h⟩
    case s45 =>
      intro v W hW hp
      obtain ⟨X, rfl⟩ := hW
      have g42 : v 42 = .bool true := hp ⟨42, .guard⟩ (by simp) rfl
      clear hp
      simp only [mkA, setAll, List.setIfInBounds_toArray, List.set_cons_succ, List.set_cons_zero]
      refine .inl ⟨by simp only [g42]; rfl, ?_⟩
      go_simp
      first | exact ⟨⟨X, rfl⟩, Below.refl _ _, rfl⟩ | exact ⟨⟨X, rfl⟩, Below.refl _ _, rfl, fun h => by cases h⟩
    case s46 =>
      intro v W hW hp
      obtain ⟨X, rfl⟩ := hW
      obtain ⟨b44, g44, r44⟩ := hp ⟨44, .data⟩ (by simp) rfl
      have g45 : v 45 = .agg #[.int .u16 5, .int .u16 0] := hp ⟨45, .data⟩ (by simp) rfl
      have g42 : v 42 = .bool true := hp ⟨42, .guard⟩ (by simp) rfl
      clear hp
      simp only [mkA, setAll, List.setIfInBounds_toArray, List.set_cons_succ, List.set_cons_zero]
      refine .inl ⟨by simp only [g42]; rfl, ?_⟩
      go_simp
      refine (HS5.out _ _ _ r44).mono ?_
      rintro e W2 ⟨p2, rfl, h2, hb2⟩
      first | exact ⟨_, rfl, over_of (below_here (over_below _ _) hb2), hb2, ⟨p2, rfl, h2⟩⟩ | exact ⟨_, rfl, over_of (below_here (over_below _ _) hb2), hb2, ⟨p2, rfl, h2⟩, fun h => by cases h⟩
    case s47 =>
      intro v W hW hp
      obtain ⟨X, rfl⟩ := hW
      have g42 : v 42 = .bool true := hp ⟨42, .guard⟩ (by simp) rfl
      clear hp
      simp only [mkA, setAll, List.setIfInBounds_toArray, List.set_cons_succ, List.set_cons_zero]
      refine .inl ⟨by simp only [g42]; rfl, ?_⟩
      go_simp
      first | exact ⟨⟨X, rfl⟩, Below.refl _ _, rfl⟩ | exact ⟨⟨X, rfl⟩, Below.refl _ _, rfl, fun h => by cases h⟩
    case s48 =>
      intro v W hW hp
      obtain ⟨X, rfl⟩ := hW
      have g47 : v 47 = .agg #[.int .i64 3, .int .u16 0, .int .u16 0, .int .i64 1, .int .i64 0, .int .u16 1, .int .u16 0, .int .i64 0, .string ⟨#[97, 98]⟩] := hp ⟨47, .data⟩ (by simp) rfl
      have g42 : v 42 = .bool true := hp ⟨42, .guard⟩ (by simp) rfl
      clear hp
      simp only [mkA, setAll, List.setIfInBounds_toArray, List.set_cons_succ, List.set_cons_zero]
      refine .inl ⟨by simp only [g42]; rfl, ?_⟩
      go_simp
      first | exact ⟨over_of (below_new (over_below _ _) _), below_fresh _ _, ⟨(_, _), rfl, ents_one (e := Tr.alE) (heap_alloc_new _ _)⟩⟩ | exact ⟨over_of (below_new (over_below _ _) _), below_fresh _ _, ⟨(_, _), rfl, ents_one (e := Tr.alE) (heap_alloc_new _ _)⟩, fun h => by cases h⟩
    case s49 =>
      intro v W hW hp
      obtain ⟨X, rfl⟩ := hW
      obtain ⟨b46, g46, r46⟩ := hp ⟨46, .data⟩ (by simp) rfl
      obtain ⟨b48, g48, r48⟩ := hp ⟨48, .data⟩ (by simp) rfl
      have g42 : v 42 = .bool true := hp ⟨42, .guard⟩ (by simp) rfl
      clear hp
      simp only [mkA, setAll, List.setIfInBounds_toArray, List.set_cons_succ, List.set_cons_zero]
      refine .inl ⟨by simp only [g42]; rfl, ?_⟩
      go_simp
      refine (HSM.out _ _ _ _ _ r46 r48).mono ?_
      rintro e W2 ⟨rfl, hb2⟩
      first | exact ⟨_, rfl, over_of (below_here (over_below _ _) hb2), hb2, rfl⟩ | exact ⟨_, rfl, over_of (below_here (over_below _ _) hb2), hb2, rfl, fun h => by cases h⟩
    case s50 =>
      intro v W hW hp
      obtain ⟨X, rfl⟩ := hW
      have g42 : v 42 = .bool true := hp ⟨42, .data⟩ (by simp) rfl
      have g49 : v 49 = .bool true := hp ⟨49, .data⟩ (by simp) rfl
      clear hp
      simp only [mkA, setAll, List.setIfInBounds_toArray, List.set_cons_succ, List.set_cons_zero]
      refine .inl ⟨rfl, ?_⟩
      go_simp
      first | exact ⟨⟨X, rfl⟩, Below.refl _ _, rfl⟩ | exact ⟨⟨X, rfl⟩, Below.refl _ _, rfl, fun h => by cases h⟩
  case fin =>
    intro v W hW hR hD
    have hbW := below_of_over hW
    have g50 : v 50 = _ := hR 50 (by omega)
    simp only [List.drop_succ_cons, List.drop_zero, mkA, setAll, List.setIfInBounds_toArray, List.set_cons_succ, List.set_cons_zero, g50]
    generalize v 0 = u0
    generalize v 1 = u1
    generalize v 2 = u2
    generalize v 3 = u3
    generalize v 4 = u4
    generalize v 5 = u5
    generalize v 6 = u6
    generalize v 7 = u7
    generalize v 8 = u8
    generalize v 9 = u9
    generalize v 10 = u10
    generalize v 11 = u11
    generalize v 12 = u12
    generalize v 13 = u13
    generalize v 14 = u14
    generalize v 15 = u15
    generalize v 16 = u16
    generalize v 17 = u17
    generalize v 18 = u18
    generalize v 19 = u19
    generalize v 20 = u20
    generalize v 21 = u21
    generalize v 22 = u22
    generalize v 23 = u23
    generalize v 24 = u24
    generalize v 25 = u25
    generalize v 26 = u26
    generalize v 27 = u27
    generalize v 28 = u28
    generalize v 29 = u29
    generalize v 30 = u30
    generalize v 31 = u31
    generalize v 32 = u32
    generalize v 33 = u33
    generalize v 34 = u34
    generalize v 35 = u35
    generalize v 36 = u36
    generalize v 37 = u37
    generalize v 38 = u38
    generalize v 39 = u39
    generalize v 40 = u40
    generalize v 41 = u41
    generalize v 42 = u42
    generalize v 43 = u43
    generalize v 44 = u44
    generalize v 45 = u45
    generalize v 46 = u46
    generalize v 47 = u47
    generalize v 48 = u48
    generalize v 49 = u49
    clear hR hD hW g50
    go_wp2_with fail
    go_ret
    exact ⟨rfl, below_here HB9.out hbW⟩
end Go.Proofs.YtdjndnoiankicaaGreatDoor
