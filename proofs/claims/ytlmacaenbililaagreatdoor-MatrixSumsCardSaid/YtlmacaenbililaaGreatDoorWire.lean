/- Package wire: what is written, and read again (numbers of one and of two bytes). No conditions. -/
import Derived.Test.YtlmacaenbililaaGreatDoorIparse
import Derived.Deep.RegionLaw
namespace Go.Proofs.YtlmacaenbililaaGreatDoor
open Go.RowKit Go.Shelf
set_option linter.unusedSimpArgs false
set_option linter.unusedVariables false
attribute [local go_sem] cell_over frozen_over

theorem own_below {w w' : World} {B e size n : Nat} {v : Value} {xs : List Value} (h : w.ownsRow B e size v n xs) (hb : Below w.heap.size w w') : w'.ownsRow B e size v n xs :=
  h.kept (grown_below hb (row := none)) (by cases hv : v.ownBlock <;> simp)
abbrev u8s (l : List Int) : List Value := l.map (Value.int .u8)
/-- A writer without error that has these bytes, in a row of its own. -/
def WrAt (p : Nat) (bs : List Int) (w : World) : Prop := ∃ v, w.heap[p]? = some (.cells #[.int .i64 0, v] 146 (0, 0)) ∧ w.ownsRow (p + 1) 5 1 v bs.length (u8s bs)
/-- All but block p, and rows of bytes, are as they were. -/
def KeptU (p : Nat) (w w' : World) : Prop := Below p w w' ∧ w.heap.size ≤ w'.heap.size ∧ ∀ k o, k ≠ p → w.heap[k]? = some o → (∀ c fz, o ≠ .cells c 5 fz) → w'.heap[k]? = some o
theorem KeptU.refl (p : Nat) (w : World) (hp : p ≤ w.heap.size) : KeptU p w w := ⟨(Below.refl w.heap.size w).mono hp, Nat.le_refl _, fun _ _ _ h _ => h⟩
theorem KeptU.trans {p : Nat} {a b c : World} (h : KeptU p a b) (k : KeptU p b c) : KeptU p a c := ⟨h.1.trans k.1, Nat.le_trans h.2.1 k.2.1, fun x o hx h1 h2 => k.2.2 x o hx (h.2.2 x o hx h1 h2) h2⟩
theorem KeptU.of_below {p : Nat} {a b : World} (h : Below a.heap.size a b) (hp : p ≤ a.heap.size) : KeptU p a b := ⟨h.mono hp, h.size, fun x o _ h1 _ => block_below h h1⟩
theorem KeptU.set {p : Nat} {a b : World} (h : KeptU p a b) (o : Nat) (v : Value) : KeptU p a (b.setCell ⟨p, o, none⟩ v) := ⟨h.1.setCell (Nat.le_refl p) v, by simp [World.setCell]; exact h.2.1, fun x y hx h1 h2 => by rw [Below.heap_setCell b ⟨p, o, none⟩ v x hx]; exact h.2.2 x y hx h1 h2⟩
theorem KeptU.grown {p : Nat} {a b : World} {v : Value} {n : Nat} {xs : List Value} (hp : p ≤ a.heap.size) (ho : a.ownsRow (p + 1) 5 1 v n xs) (hg : a.grownBy b v.ownBlock) : KeptU p a b := by
  refine ⟨⟨hg.os, hg.tape, hg.output, hg.size, fun k hk => hg.block k (by omega) (fun e => ?_)⟩, hg.size, fun k o hk h1 h2 => ?_⟩
  · have := ho.lt k e.symm; omega
  · have hk' := (Array.getElem?_eq_some_iff.1 h1).1
    rw [hg.block k hk' (fun e => ?_)]
    · exact h1
    · rcases ho.2 with ⟨hv, _⟩ | ⟨g, cap, cur, hv, _, hgg, _⟩
      · rw [hv] at e; simp [Value.ownBlock] at e
      · rw [hv] at e
        simp [Value.ownBlock] at e
        subst e
        rw [hgg] at h1
        exact h2 _ _ (Option.some.inj h1).symm
theorem WrAt.below {p : Nat} {bs : List Int} {w w' : World} (h : WrAt p bs w) (hb : Below w.heap.size w w') : WrAt p bs w' := by
  obtain ⟨v, h1, h2⟩ := h
  exact ⟨v, block_below hb h1, own_below h2 hb⟩
theorem most1_ok (w : World) : Calls Tryz.prog 215 #[.int .i64 1] w fun e w' => e = .returned (.int .i64 255) ∧ Below w.heap.size w w' := by
  go_enter Tryz.func215, Tryz.ntmps215
  go_wp2_with fail
  go_ret
  exact ⟨rfl, Below.refl _ _⟩
theorem most2_ok (w : World) : Calls Tryz.prog 215 #[.int .i64 2] w fun e w' => e = .returned (.int .i64 65535) ∧ Below w.heap.size w w' := by
  go_enter Tryz.func215, Tryz.ntmps215
  go_wp2_with fail
  go_ret
  exact ⟨rfl, Below.refl _ _⟩
theorem step_append_own {P : Program} {ops : Array Oper} {o : Oper} {a : Act} {w : World} {K : Act → World → Prop} {Q : Exit → Act → World → Prop} {E : Prop}
    (hg : o.guard = none) (s x : Operand) (t : TypeId) (ho : o.op = .call { callee := .builtin .append, args := #[s, x], argTypes := #[t, t] })
    (base : Nat) (e : TypeId) (i : TypeInfo) (z : Value) (size bytes : Nat) (ht : P.underlying t = some (.slice e)) (hi : P.info? e = some i) (hz : i.zero = some z)
    (hsize : i.size = size) (hby : i.bytes = bytes) (hzs : z.cells.size = size) (hsz : 0 < size)
    (v : Value) (n : Nat) (xs : List Value) (hs : a.eval s = v) (hown : w.ownsRow base e size v n xs)
    (ad : Addr) (m c : Nat) (news : List Value) (hx : a.eval x = .slice (some ad) m c) (hl : news.length = m * size) (hnews : ∀ j u, news[j]? = some u → w.cell? (ad.add j) = some u) (h1 : ∀ u ∈ news, u.oneCell' = true)
    (h63 : n + m ≤ maxLen) (hbytes : (n + m) * bytes ≤ 140737488355328) (hbase : base ≤ w.heap.size)
    (hK : ∀ v' w', w'.ownsRow base e size v' (n + m) (xs ++ news) → w.grownBy w' v.ownBlock → (v' = .slice none 0 0 ↔ v = .slice none 0 0 ∧ m = 0) → K (a.put o.dst v') w') : if Region.wanted o (yielded ops a.tmps) = true then Oper.wp P o a w K Q else E := by
  have hw : Region.wanted o (yielded ops a.tmps) = true := by simp [Region.wanted, hg]
  rw [if_pos hw]
  exact wp_append_own w s x t ho base e i z size bytes ht hi hz hsize hby hzs hsz v n xs hs hown ad m c news hx hl hnews h1 h63 hbytes hbase hK
theorem own_succ {w : World} {base n : Nat} {e : TypeId} {v : Value} {xs : List Value} (h : w.ownsRow base e 1 v (n + 1) xs) : ∃ g cap, v = .slice (some ⟨g, 0, none⟩) (n + 1) cap := by
  rcases h.2 with ⟨_, h0⟩ | ⟨g, cap, _, h1, _⟩
  · omega
  · exact ⟨g, cap, h1⟩
theorem news_one {w : World} {g : Nat} {x : Value} {t : TypeId} (h : w.heap[g]? = some (.cells #[x] t (0, 0))) : ∀ j u, [x][j]? = some u → w.cell? ((⟨g, 0, none⟩ : Addr).add j) = some u := by
  intro j u hj
  match j, hj with
  | 0, hj => simp at hj; subst hj; exact cell_of_row w g 0 _ t (0, 0) h
theorem WrAt.pushed {p : Nat} {bs : List Int} {n : Int} {w : World} {v v' : Value} (hv : w.heap[p]? = some (.cells #[.int .i64 0, v] 146 (0, 0))) (ho : w.ownsRow (p + 1) 5 1 v' (bs.length + 1) (u8s bs ++ [.int .u8 n])) : WrAt p (bs ++ [n]) (w.setCell ⟨p, 1, none⟩ v') := by
  refine ⟨v', pair_set1 hv, ?_⟩
  have h := ho.kept (grown_setCells w p 1 [v']) (by
    rcases hb : v'.ownBlock with _ | k
    · exact .inl rfl
    · have := ho.lt k hb; exact .inr (by intro e; have := Option.some.inj e; omega))
  simpa [World.setCells] using h
theorem info_u8 : (Tryz.prog.info? 5).map (fun i => (i.zero, i.size, i.bytes)) = some (some (.int .u8 0), 1, 1) := by kernel_rfl
set_option maxRecDepth 100000 in
set_option maxHeartbeats 2000000 in
theorem wnum1_ok (p : Nat) (n : Nat) (hn : n < 256) (bs : List Int) (hbs : bs.length ≤ 1000000) (w : World) (hW : WrAt p bs w) :
    Calls Tryz.prog 160 #[.pointer (some ⟨p, 0, none⟩), .int .i64 (n : Int), .int .i64 1] w fun e w' => e = .returned (.tuple #[]) ∧ WrAt p (bs ++ [(n : Int)]) w' ∧ KeptU p w w' := by
  have HW := Lib.hid hW
  have hpl : p < w.heap.size := by obtain ⟨v, h1, _⟩ := hW; exact (Array.getElem?_eq_some_iff.1 h1).1
  have hn1 : ¬ (255 : Int) < n := by omega
  have hn0 : ¬ (n : Int) < 0 := by omega
  obtain ⟨i0, hi, hz0, hz1, hz2⟩ := info_parts info_u8
  clear hW
  go_enter Tryz.func160, Tryz.ntmps160
  go_wp2_with (go_at_call 215; refine (most1_ok _).mono ?_; rintro e w1 ⟨rfl, hb1⟩; replace HW := Lib.hid (HW.out.below hb1); have HK := Lib.hid (KeptU.of_below hb1 (Nat.le_of_lt hpl)); have hzp : p < w1.heap.size := Nat.lt_of_lt_of_le hpl hb1.size; clear hb1)
  go_loopw [6] (fun i wr => (i = .int .i64 0 ∧ Hid (WrAt p bs wr) ∧ Hid (KeptU p w wr) ∧ p < wr.heap.size) ∨ (i = .int .i64 (-1) ∧ Hid (WrAt p (bs ++ [(n : Int)]) wr) ∧ Hid (KeptU p w wr) ∧ p < wr.heap.size)) (fun i _ => (intOf i + 1).toNat)
  case atStart => exact (.inl ⟨rfl, HW, HK, hzp⟩)
  case round =>
    rcases hrel with ⟨rfl, hA, hK, hp⟩ | ⟨rfl, hA, hK, hp⟩
    · obtain ⟨v, hv, hown⟩ := hA.out
      obtain ⟨q0, q1, q2, q3⟩ := pair_cells hv
      have HO := Lib.hid hown
      have HV := Lib.hid hv
      clear hown hv
      have hown9 := own_below HO.out ((below_new (Below.refl wr.heap.size wr) (.cells #[.int .u8 (n : Int)] 5)).drew)
      have HO9 := Lib.hid hown9
      clear hown9
      have hws0 : IntKind.i64.wrap 0 = 0 := by decide
      have hwu : IntKind.u8.wrap (n : Int) = (n : Int) := by simp [IntKind.wrap, IntKind.bits, IntKind.signed] <;> omega
      have hbl : bs.length ≤ 1000001 := by first | omega | (simp; omega)
      go_wp2_with fail
      go_region_law (refine step_append_own rfl (.tmp 39) (.tmp 45) 144 rfl (p + 1) 5 i0 (.int .u8 0) 1 1 Tryz.underlying144 hi hz0 hz1 hz2 rfl (by decide) v bs.length (u8s bs) (by simp [Act.eval, Act.put]) HO9.out ⟨wr.heap.size, 0, none⟩ 1 1 [.int .u8 (n : Int)] (by simp [Act.eval, Act.put]) rfl (news_one (heap_alloc_new wr _)) (by simp [Value.oneCell']) (by unfold maxLen; omega) (by omega) (by simp; omega) ?_; intro v' w2 hown' hgrow _; obtain ⟨g', cap', rfl⟩ := own_succ hown'; have hk2 : KeptU p wr w2 := (KeptU.of_below ((below_new (Below.refl wr.heap.size wr) (.cells #[.int .u8 (n : Int)] 5)).drew) (Nat.le_of_lt hp)).trans (KeptU.grown (by simp; omega) HO9.out hgrow); have hv2 := hgrow.block p (by simp; omega) (by intro e; have := HO.out.lt p e.symm; omega); have HVV := Lib.hid (hv2.trans (block_below ((below_new (Below.refl wr.heap.size wr) (.cells #[.int .u8 (n : Int)] 5)).drew) HV.out)); clear hv2; clear q0 q1 q2 q3; obtain ⟨q0, q1, q2, q3⟩ := pair_cells HVV.out; have HOW := Lib.hid hown'; have HKK := Lib.hid hk2; clear hown' hgrow hk2)
      all_goals
        have HA2 := Lib.hid (WrAt.pushed HVV.out HOW.out)
        have HK2 := Lib.hid ((hK.out.trans HKK.out).set 1 (.slice (some ⟨g', 0, none⟩) (bs.length + 1) cap'))
        have hp2 : p < (w2.setCell ⟨p, 1, none⟩ (.slice (some ⟨g', 0, none⟩) (bs.length + 1) cap')).heap.size := by simp only [World.setCell, Array.size_modify]; exact (Array.getElem?_eq_some_iff.1 HVV.out).1
        go_wp2_with fail
        go_roundw
        case rel => exact (.inr ⟨rfl, HA2, HK2, hp2⟩)
        case measure => simp [intOf]
    · go_wp2_with fail
      go_end0
      exact ⟨rfl, hA.out, hK.out⟩
set_option maxRecDepth 100000 in
set_option maxHeartbeats 2000000 in
theorem wnum2_ok (p : Nat) (n : Nat) (hn : n < 65536) (bs : List Int) (hbs : bs.length ≤ 1000000) (w : World) (hW : WrAt p bs w) :
    Calls Tryz.prog 160 #[.pointer (some ⟨p, 0, none⟩), .int .i64 (n : Int), .int .i64 2] w fun e w' => e = .returned (.tuple #[]) ∧ WrAt p ((bs ++ [((n / 256 : Nat) : Int)]) ++ [((n % 256 : Nat) : Int)]) w' ∧ KeptU p w w' := by
  have HW := Lib.hid hW
  have hpl : p < w.heap.size := by obtain ⟨v, h1, _⟩ := hW; exact (Array.getElem?_eq_some_iff.1 h1).1
  have hn1 : ¬ (65535 : Int) < n := by omega
  have hn0 : ¬ (n : Int) < 0 := by omega
  obtain ⟨i0, hi, hz0, hz1, hz2⟩ := info_parts info_u8
  clear hW
  go_enter Tryz.func160, Tryz.ntmps160
  go_wp2_with (go_at_call 215; refine (most2_ok _).mono ?_; rintro e w1 ⟨rfl, hb1⟩; replace HW := Lib.hid (HW.out.below hb1); have HK := Lib.hid (KeptU.of_below hb1 (Nat.le_of_lt hpl)); have hzp : p < w1.heap.size := Nat.lt_of_lt_of_le hpl hb1.size; clear hb1)
  go_loopw [6] (fun i wr => (i = .int .i64 1 ∧ Hid (WrAt p bs wr) ∧ Hid (KeptU p w wr) ∧ p < wr.heap.size) ∨ (i = .int .i64 0 ∧ Hid (WrAt p (bs ++ [((n / 256 : Nat) : Int)]) wr) ∧ Hid (KeptU p w wr) ∧ p < wr.heap.size) ∨ (i = .int .i64 (-1) ∧ Hid (WrAt p ((bs ++ [((n / 256 : Nat) : Int)]) ++ [((n % 256 : Nat) : Int)]) wr) ∧ Hid (KeptU p w wr) ∧ p < wr.heap.size)) (fun i _ => (intOf i + 1).toNat)
  case atStart => exact (.inl ⟨rfl, HW, HK, hzp⟩)
  case round =>
    rcases hrel with ⟨rfl, hA, hK, hp⟩ | ⟨rfl, hA, hK, hp⟩ | ⟨rfl, hA, hK, hp⟩
    · obtain ⟨v, hv, hown⟩ := hA.out
      obtain ⟨q0, q1, q2, q3⟩ := pair_cells hv
      have HO := Lib.hid hown
      have HV := Lib.hid hv
      clear hown hv
      have hown9 := own_below HO.out ((below_new (Below.refl wr.heap.size wr) (.cells #[.int .u8 ((n / 256 : Nat) : Int)] 5)).drew)
      have HO9 := Lib.hid hown9
      clear hown9
      have hws0 : IntKind.i64.wrap 8 = 8 := by decide
      have hwu : IntKind.u8.wrap ((n : Int) / 256) = ((n / 256 : Nat) : Int) := by simp [IntKind.wrap, IntKind.bits, IntKind.signed] <;> omega
      have hbl : bs.length ≤ 1000001 := by first | omega | (simp; omega)
      go_wp2_with fail
      go_region_law (refine step_append_own rfl (.tmp 39) (.tmp 45) 144 rfl (p + 1) 5 i0 (.int .u8 0) 1 1 Tryz.underlying144 hi hz0 hz1 hz2 rfl (by decide) v bs.length (u8s bs) (by simp [Act.eval, Act.put]) HO9.out ⟨wr.heap.size, 0, none⟩ 1 1 [.int .u8 ((n / 256 : Nat) : Int)] (by simp [Act.eval, Act.put]) rfl (news_one (heap_alloc_new wr _)) (by simp [Value.oneCell']) (by unfold maxLen; omega) (by omega) (by simp; omega) ?_; intro v' w2 hown' hgrow _; obtain ⟨g', cap', rfl⟩ := own_succ hown'; have hk2 : KeptU p wr w2 := (KeptU.of_below ((below_new (Below.refl wr.heap.size wr) (.cells #[.int .u8 ((n / 256 : Nat) : Int)] 5)).drew) (Nat.le_of_lt hp)).trans (KeptU.grown (by simp; omega) HO9.out hgrow); have hv2 := hgrow.block p (by simp; omega) (by intro e; have := HO.out.lt p e.symm; omega); have HVV := Lib.hid (hv2.trans (block_below ((below_new (Below.refl wr.heap.size wr) (.cells #[.int .u8 ((n / 256 : Nat) : Int)] 5)).drew) HV.out)); clear hv2; clear q0 q1 q2 q3; obtain ⟨q0, q1, q2, q3⟩ := pair_cells HVV.out; have HOW := Lib.hid hown'; have HKK := Lib.hid hk2; clear hown' hgrow hk2)
      all_goals
        have HA2 := Lib.hid (WrAt.pushed HVV.out HOW.out)
        have HK2 := Lib.hid ((hK.out.trans HKK.out).set 1 (.slice (some ⟨g', 0, none⟩) (bs.length + 1) cap'))
        have hp2 : p < (w2.setCell ⟨p, 1, none⟩ (.slice (some ⟨g', 0, none⟩) (bs.length + 1) cap')).heap.size := by simp only [World.setCell, Array.size_modify]; exact (Array.getElem?_eq_some_iff.1 HVV.out).1
        go_wp2_with fail
        go_roundw
        case rel => exact (.inr (.inl ⟨rfl, HA2, HK2, hp2⟩))
        case measure => simp [intOf]
    · obtain ⟨v, hv, hown⟩ := hA.out
      obtain ⟨q0, q1, q2, q3⟩ := pair_cells hv
      have HO := Lib.hid hown
      have HV := Lib.hid hv
      clear hown hv
      have hown9 := own_below HO.out ((below_new (Below.refl wr.heap.size wr) (.cells #[.int .u8 ((n % 256 : Nat) : Int)] 5)).drew)
      have HO9 := Lib.hid hown9
      clear hown9
      have hws0 : IntKind.i64.wrap 0 = 0 := by decide
      have hwu : IntKind.u8.wrap (n : Int) = ((n % 256 : Nat) : Int) := by simp [IntKind.wrap, IntKind.bits, IntKind.signed] <;> omega
      have hbl : (bs ++ [((n / 256 : Nat) : Int)]).length ≤ 1000001 := by first | omega | (simp; omega)
      go_wp2_with fail
      go_region_law (refine step_append_own rfl (.tmp 39) (.tmp 45) 144 rfl (p + 1) 5 i0 (.int .u8 0) 1 1 Tryz.underlying144 hi hz0 hz1 hz2 rfl (by decide) v (bs ++ [((n / 256 : Nat) : Int)]).length (u8s (bs ++ [((n / 256 : Nat) : Int)])) (by simp [Act.eval, Act.put]) HO9.out ⟨wr.heap.size, 0, none⟩ 1 1 [.int .u8 ((n % 256 : Nat) : Int)] (by simp [Act.eval, Act.put]) rfl (news_one (heap_alloc_new wr _)) (by simp [Value.oneCell']) (by unfold maxLen; omega) (by omega) (by simp; omega) ?_; intro v' w2 hown' hgrow _; obtain ⟨g', cap', rfl⟩ := own_succ hown'; have hk2 : KeptU p wr w2 := (KeptU.of_below ((below_new (Below.refl wr.heap.size wr) (.cells #[.int .u8 ((n % 256 : Nat) : Int)] 5)).drew) (Nat.le_of_lt hp)).trans (KeptU.grown (by simp; omega) HO9.out hgrow); have hv2 := hgrow.block p (by simp; omega) (by intro e; have := HO.out.lt p e.symm; omega); have HVV := Lib.hid (hv2.trans (block_below ((below_new (Below.refl wr.heap.size wr) (.cells #[.int .u8 ((n % 256 : Nat) : Int)] 5)).drew) HV.out)); clear hv2; clear q0 q1 q2 q3; obtain ⟨q0, q1, q2, q3⟩ := pair_cells HVV.out; have HOW := Lib.hid hown'; have HKK := Lib.hid hk2; clear hown' hgrow hk2)
      all_goals
        have HA2 := Lib.hid (WrAt.pushed HVV.out HOW.out)
        have HK2 := Lib.hid ((hK.out.trans HKK.out).set 1 (.slice (some ⟨g', 0, none⟩) ((bs ++ [((n / 256 : Nat) : Int)]).length + 1) cap'))
        have hp2 : p < (w2.setCell ⟨p, 1, none⟩ (.slice (some ⟨g', 0, none⟩) ((bs ++ [((n / 256 : Nat) : Int)]).length + 1) cap')).heap.size := by simp only [World.setCell, Array.size_modify]; exact (Array.getElem?_eq_some_iff.1 HVV.out).1
        have hlen : (bs ++ [((n / 256 : Nat) : Int)]).length = bs.length + 1 := by simp
        rw [hlen] at HA2 HK2 hp2
        go_wp2_with fail
        go_roundw
        case rel => exact (.inr (.inr ⟨rfl, HA2, HK2, hp2⟩))
        case measure => simp [intOf]
    · go_wp2_with fail
      go_end0
      exact ⟨rfl, hA.out, hK.out⟩
end Go.Proofs.YtlmacaenbililaaGreatDoor
