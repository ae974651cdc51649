/- LabelTexts: the walk. The document's names: which name a text is. Maps of tags (package forepeakref04): only that what is made is a map. The image of a set of tags under a map, in plain words. Maps of tags (package forepeakref04): the image of a set, and of a label. Maps of tags: the image of a label, as the document has it and as the program has it. No conditions. -/
import Derived.Test.YtlmacaenbililaaGreatDoorLalive
import Derived.Test.YtlmacaenbililaaGreatDoorKa
import Derived.Test.YtlmacaenbililaaGreatDoorKb
import Derived.Test.YtlmacaenbililaaGreatDoorLref
import Derived.Test.YtlmacaenbililaaGreatDoorTlawb
import Derived.Test.YtlmacaenbililaaGreatDoorTlaid
namespace Go.Proofs.YtlmacaenbililaaGreatDoor
open Go.RowKit Go.Shelf
set_option linter.unusedSimpArgs false
set_option linter.unusedVariables false
attribute [local go_sem] cell_over frozen_over

/-- A block holds a label. -/
def LabIn (b : Nat) (a : Lab.L) (W : World) : Prop := W.heap[b]? = some (.cells #[.int .u16 (a.1 : Int), .int .u16 (a.2 : Int)] 25 (0, 0))
theorem LabIn.below {b : Nat} {a : Lab.L} {W W' : World} (h : LabIn b a W) (hb : Below W.heap.size W W') : LabIn b a W' := block_below hb h
theorem LabIn.new (W : World) (a : Lab.L) : LabIn W.heap.size a (W.alloc (.cells #[.int .u16 (a.1 : Int), .int .u16 (a.2 : Int)] 25)) := heap_alloc_new _ _
theorem LabIn.cells {b : Nat} {a : Lab.L} {W : World} (h : LabIn b a W) : W.cell? ⟨b, 0, none⟩ = some (.int .u16 (a.1 : Int)) ∧ W.cell? ⟨b, 1, none⟩ = some (.int .u16 (a.2 : Int)) ∧ b < W.heap.size :=
  ⟨(pair_cells h).1, (pair_cells h).2.1, World.block_lt_of_cell? W _ (pair_cells h).1⟩
theorem below_old (w : World) (o : Obj) : Below w.heap.size w (w.alloc o) := below_new (Below.refl _ _) o
end Go.Proofs.YtlmacaenbililaaGreatDoor
namespace Go.Proofs.YtlmacaenbililaaGreatDoor
open Go.RowKit Go.Shelf
set_option linter.unusedSimpArgs false
set_option linter.unusedVariables false
attribute [local go_sem] cell_over frozen_over

namespace Idn
/-- The label that is tried at a dot. -/
def labAt (s : List UInt8) (i : Nat) : Lab.L := (Lab.parse ((s.take (max 1 i)).drop 1)).1
theorem labAt_ok (s : List UInt8) (i : Nat) : Lab.ok (labAt s i) := Lab.parse_lt _
theorem parse_hit {s : List UInt8} {i n : Nat} (hn : n < 12) (h : text (mk (labAt s i) (n : Int)) = s) : parse s = (mk (labAt s i) (n : Int), 0) := by
  have := parse_text (x := mk (labAt s i) (n : Int)) (by rw [mk_in _ (by omega) (by omega)]; exact labAt_ok s i) (fine_mk _ (by omega) (by omega))
  rw [h] at this
  exact this
theorem parse_zero (s : List UInt8) : (parse s).2 = 0 ∨ parse s = (zero, 3) := by
  unfold parse
  split
  · exact .inr rfl
  · split
    · exact .inr rfl
    · split
      · exact .inl rfl
      · exact .inr rfl
theorem parse_miss {s : List UInt8} (h : ∀ i, i < s.length → s.getD i 0 = 46 → ∀ n, n < 12 → text (mk (labAt s i) ((n : Nat) : Int)) ≠ s) : parse s = (zero, 3) := by
  rcases parse_zero s with h0 | h0
  · exfalso
    obtain ⟨h1, h2, h3⟩ := parse_fine h0
    generalize (parse s).1 = x at h1 h2 h3
    have ht := h1
    rw [text_fine h2] at ht
    have hlen : s.length = (Lab.text x.1).length + 3 := by rw [← ht]; simp
    have hi : (Lab.text x.1).length + 1 < s.length := by omega
    have hdot : s.getD ((Lab.text x.1).length + 1) 0 = 46 := by
      rw [← ht, List.getD_cons_succ, List.getD_eq_getElem?_getD, List.getElem?_append_right (Nat.le_refl _)]; simp
    have hlab : labAt s ((Lab.text x.1).length + 1) = x.1 := by
      unfold labAt
      have e : (s.take (max 1 ((Lab.text x.1).length + 1))).drop 1 = Lab.text x.1 := by
        rw [← ht, show max 1 ((Lab.text x.1).length + 1) = (Lab.text x.1).length + 1 by omega, List.take_succ_cons, List.drop_one, List.tail_cons, List.take_left]
      rw [e, Lab.parse_text _ h3]
    obtain ⟨l1, l2, l3, l4⟩ := fine_iff.1 h2
    have hl := lane_fine h2
    have hm := mk_lane h2
    have hn : (lane x).toNat < 12 := by omega
    refine h _ hi hdot (lane x).toNat hn ?_
    rw [hlab, show (((lane x).toNat : Nat) : Int) = lane x by omega, hm, h1]
  · exact h0
end Idn
end Go.Proofs.YtlmacaenbililaaGreatDoor
namespace Go.Proofs.YtlmacaenbililaaGreatDoor
open Go.RowKit Go.Shelf
set_option linter.unusedSimpArgs false
set_option linter.unusedVariables false
attribute [local go_sem] cell_over frozen_over

def mapC (m : List Nat) : List Value := m.map fun n : Nat => .int .u8 (n : Int)
def mapV (m : List Nat) : Value := .agg (mapC m).toArray
def MapOk (m : List Nat) : Prop := m.length = 16 ∧ ∀ u ∈ m, u < 16
def MapIn (b : Nat) (m : List Nat) (w : World) : Prop := w.heap[b]? = some (.cells (mapC m).toArray 31 (0, 0))
theorem mapC_len (m : List Nat) : (mapC m).length = m.length := by simp [mapC]
theorem mapC_one (m : List Nat) : ∀ v ∈ mapC m, v.oneCell' = true := by
  intro v hv
  obtain ⟨n, _, rfl⟩ := List.mem_map.1 hv
  rfl
theorem map_size : (Tryz.prog.info? 31).map (·.size) = some 16 := by kernel_rfl
theorem MapIn.range {b : Nat} {m : List Nat} {w : World} (h : MapIn b m w) : w.rangeAt b 0 (mapC m) := range_of_block h 0 _ (fun j _ => by rw [Nat.zero_add])
theorem MapIn.cell {b : Nat} {m : List Nat} {w : World} (h : MapIn b m w) (t : Nat) (ht : t < m.length) : w.cell? ⟨b, t, none⟩ = some (.int .u8 ((m[t] : Nat) : Int)) := by
  have h1 := h.range t (.int .u8 ((m[t] : Nat) : Int)) (by simp [mapC, List.getElem?_map, List.getElem?_eq_getElem ht])
  rw [Nat.zero_add] at h1
  exact h1
theorem MapIn.below {N b : Nat} {m : List Nat} {w W : World} (h : MapIn b m w) (hb : Below N w W) (hN : b < N) : MapIn b m W := (hb.block b hN).trans h
theorem MapIn.there {b : Nat} {m : List Nat} {w : World} (h : MapIn b m w) (hl : m.length = 16) : w.there b 0 16 := fun j hj => by
  have h1 := h.cell j (by omega)
  rw [Nat.zero_add, h1]
  refine ⟨rfl, ?_⟩
  unfold MapIn at h
  simp [World.frozen?, h]
theorem MapIn.other {b : Nat} {m : List Nat} {w : World} (h : MapIn b m w) (c o : Nat) (v : Value) (hne : b ≠ c) : MapIn b m (w.setCell ⟨c, o, none⟩ v) := by
  unfold MapIn at h ⊢
  simp [World.setCell, Array.getElem?_modify, h, hne, Ne.symm hne]
theorem MapIn.setCells {b : Nat} {m m' : List Nat} {w : World} (h : MapIn b m w) (hl : m.length = 16) (hl' : m'.length = 16) : MapIn b m' (w.setCells b 0 (mapC m')) := by
  have := heap_setCells_same b 31 (mapC m') 0 w (mapC m) h (by rw [mapC_len, mapC_len]; omega)
  unfold MapIn
  rw [this]
  have e : splice (mapC m) 0 (mapC m') = mapC m' := by
    simp [splice, mapC, hl, hl']
  rw [e]
theorem MapIn.set {b : Nat} {m : List Nat} {w : World} (h : MapIn b m w) (t : Nat) (u : Nat) : MapIn b (m.set t u) (w.setCell ⟨b, t, none⟩ (.int .u8 (u : Int))) := by
  unfold MapIn at h ⊢
  simp [World.setCell, Array.getElem?_modify, h, mapC, List.map_set]
theorem MapOk.set {m : List Nat} (h : MapOk m) (t : Nat) {u : Nat} (hu : u < 16) : MapOk (m.set t u) :=
  ⟨by rw [List.length_set]; exact h.1, fun x hx => by
    rcases List.mem_or_eq_of_mem_set hx with h1 | rfl
    · exact h.2 x h1
    · exact hu⟩
theorem MapOk.get {m : List Nat} (h : MapOk m) (t : Nat) (ht : t < m.length) : m[t] < 16 := h.2 _ (List.getElem_mem ht)
theorem same_mapOk : MapOk (List.range 16) := ⟨by simp, fun u hu => by simpa using hu⟩
theorem zero_mapOk : MapOk (List.replicate 16 0) := ⟨by simp, fun u hu => by simp at hu; omega⟩
set_option maxRecDepth 100000 in
theorem r04same_ok (w : World) : Calls Tryz.prog 92 #[] w fun e w' => e = .returned (mapV (List.range 16)) ∧ Below w.heap.size w w' := by
  go_enter Tryz.func92, Tryz.ntmps92
  go_wp2_with fail
  exact ret_cell rfl w.heap.size 0 rfl (mapC (List.range 16)) _ (range_of_block (heap_alloc_new w _) 0 _ (fun j _ => by rw [Nat.zero_add]; rfl)) Tryz.underlying31 rfl map_size rfl ⟨rfl, below_fresh _ _⟩
def movedTo (m : List Nat) : Nat → Nat
  | 0 => 0
  | k + 1 => if m.getD k 0 = k then movedTo m k else movedTo m k ||| 2 ^ k
theorem movedTo_lt (m : List Nat) : ∀ k, k ≤ 16 → movedTo m k < 65536
  | 0, _ => by unfold movedTo; omega
  | k + 1, h => by
    unfold movedTo
    split
    · exact movedTo_lt m k (by omega)
    · exact Nat.or_lt_two_pow (n := 16) (movedTo_lt m k (by omega)) (Nat.pow_lt_pow_right (by omega) (by omega))
set_option maxRecDepth 100000 in
set_option maxHeartbeats 4000000 in
theorem rmoved_ok (m : List Nat) (hm : MapOk m) (w : World) : Calls Tryz.prog 145 #[mapV m] w fun e w' => e = .returned (.int .u16 (movedTo m 16 : Int)) ∧ Below w.heap.size w w' := by
  have HM := Lib.hid hm
  have HI := Lib.hid (show MapIn w.heap.size m (w.alloc (.cells (mapC m).toArray 31)) from heap_alloc_new w _)
  have HB := Lib.hid (below_fresh w (.cells (mapC m).toArray 31))
  clear hm
  unfold mapV
  go_enter Tryz.func145, Tryz.ntmps145
  go_wp2_with fail
  go_loopw [3, 4] (fun v i wr => ∃ (k s : Nat), i = .int .i64 (k : Int) ∧ v = .int .u16 (s : Int) ∧ k ≤ 16 ∧ Hid (s = movedTo m k) ∧ Hid (MapIn w.heap.size m wr) ∧ Hid (Below w.heap.size w wr)) (fun _ i _ => 16 - (intOf i).toNat)
  case atStart => exact ⟨0, 0, rfl, rfl, by omega, Lib.hid rfl, HI, HB⟩
  case round =>
    obtain ⟨k, s, rfl, rfl, hk, hS, hI, hW⟩ := hrel
    by_cases hk16 : k = 16
    · subst hk16
      go_wp2_with fail
      go_ret
      exact ⟨by rw [hS.out]; rfl, hW.out⟩
    · have hkl : k < 16 := by omega
      have hki : (k : Int) < 16 := by omega
      have hkm : k < m.length := by rw [HM.out.1]; exact hkl
      have HW := Lib.hid (fun w => withb_ok s (by rw [hS.out]; exact movedTo_lt m k (by omega)) k hkl w)
      have hc := hI.out.cell k hkm
      have hn : Hid (movedTo m (k + 1) = if m[k] = k then s else s ||| 2 ^ k) := Lib.hid (by
        rw [hS.out]
        show (if m.getD k 0 = k then _ else _) = _
        rw [List.getD_eq_getElem?_getD, List.getElem?_eq_getElem hkm]; rfl)
      clear hS
      obtain ⟨u, hu⟩ : ∃ u, u = m[k] := ⟨_, rfl⟩
      have hu16 : u < 16 := by rw [hu]; exact HM.out.get k hkm
      rw [← hu] at hc hn
      have hw64 : wrap64 (u : Int) = (u : Int) := by unfold wrap64; omega
      clear hk16 hu HI HB
      by_cases he : u = k
      · subst he
        have hn' : Hid (s = movedTo m (u + 1)) := Lib.hid (by rw [hn.out, if_pos rfl])
        clear hn
        go_wp2_with fail
        go_roundw
        case rel => exact ⟨u + 1, s, by go_num, rfl, by omega, hn', hI, hW⟩
        case measure => simp [intOf]; omega
      · have he1 : ¬ (u : Int) = (k : Int) := by omega
        have hn' : Hid (s ||| 2 ^ k = movedTo m (k + 1)) := Lib.hid (by rw [hn.out, if_neg he])
        clear hn
        have hg : ((u : Int) != (k : Int)) = true := by simpa using he1
        go_wp2_with (go_at_call 103; refine (HW.out _).mono ?_; rintro e w1 ⟨rfl, hw1⟩; obtain rfl := hw1.symm)
        go_roundw
        case rel => exact ⟨k + 1, _, by go_num, rfl, by omega, hn', hI, hW⟩
        case measure => simp [intOf]; omega

theorem wpList_load_want {P : Program} {ops : Array Oper} {rest : List Oper} {op : Oper} {a : Act} {w : World} {Q : Exit → Act → World → Prop} (ty : TypeId) (x : Operand) (ho : op.op = .load ty x) (hgd : Region.wanted op (yielded ops a.tmps) = true)
    (b o : Nat) (hx : a.eval x = .pointer (some ⟨b, o, none⟩)) (cs : List Value) (d : TypeDesc) (hc : w.rangeAt b o cs)
    (hu : P.underlying ty = some d) (hd : d.isRow = true) (hi : (P.info? ty).map (·.size) = some cs.length)
    (h : wpList P ops Q rest (a.put op.dst (.agg cs.toArray)) w) : wpList P ops Q (op :: rest) a w :=
  wpList_step fun K hK => by rw [if_pos hgd]; exact wp_load_mid ty x ho b o hx cs d hc hu hd hi (hK _ _ h)
def put1 (f t : Nat) (u : Nat) : Nat := if u = f then t else u
def moveNo : Value := .tuple #[mapV (List.replicate 16 0), .bool false]
/-- What a move gives; 'b': one of the two is moved. -/
def moveIn (m : List Nat) (f t : Nat) (b : Bool) : Value := if b then moveNo else .tuple #[mapV (m.map (put1 f t)), .bool true]
theorem part_here (m : List Nat) (g : Nat → Nat) (k : Nat) (hk : k < m.length) : (m.take k).map g ++ m.drop k = (m.take k).map g ++ (m[k] :: m.drop (k + 1)) := by rw [← List.drop_eq_getElem_cons hk]
theorem part_next (m : List Nat) (g : Nat → Nat) (k : Nat) (hk : k < m.length) : (m.take (k + 1)).map g ++ m.drop (k + 1) = (m.take k).map g ++ (g m[k] :: m.drop (k + 1)) := by
  rw [← List.take_append_getElem hk, List.map_append, List.append_assoc]; rfl
theorem part_at (m : List Nat) (g : Nat → Nat) (k : Nat) (hk : k < m.length) (h : k < ((m.take k).map g ++ m.drop k).length) : ((m.take k).map g ++ m.drop k)[k] = m[k] := by
  rw [List.getElem_append_right (by simp; omega)]
  simp [Nat.min_eq_left (Nat.le_of_lt hk)]
theorem part_set (m : List Nat) (g : Nat → Nat) (k u : Nat) (hk : k < m.length) (hu : g m[k] = u) : ((m.take k).map g ++ m.drop k).set k u = (m.take (k + 1)).map g ++ m.drop (k + 1) := by
  rw [part_here m g k hk, part_next m g k hk, hu, List.set_append_right _ _ (by simp; omega)]
  rw [show k - ((m.take k).map g).length = 0 by simp; omega]
  rfl
set_option maxRecDepth 100000 in
set_option maxHeartbeats 4000000 in
theorem rmove_no (m : List Nat) (f t : Int) (h : f < 0 ∨ (¬ f < 0 ∧ 15 < f) ∨ (¬ f < 0 ∧ ¬ 15 < f ∧ t < 0) ∨ (¬ f < 0 ∧ ¬ 15 < f ∧ ¬ t < 0 ∧ 15 < t) ∨ (¬ f < 0 ∧ ¬ 15 < f ∧ ¬ t < 0 ∧ ¬ 15 < t ∧ f = t)) (w : World) :
    Calls Tryz.prog 93 #[mapV m, .int .i64 f, .int .i64 t] w fun e w' => e = .returned moveNo ∧ Below w.heap.size w w' := by
  have HB := Lib.hid (below_new (below_fresh w (.cells (mapC m).toArray 31)) (.cells (mapC (List.replicate 16 0)).toArray 31))
  have HR := Lib.hid (show MapIn (w.heap.size + 1) (List.replicate 16 0) ((w.alloc (.cells (mapC m).toArray 31)).alloc (.cells (mapC (List.replicate 16 0)).toArray 31)) from by
    have := heap_alloc_new (w.alloc (.cells (mapC m).toArray 31)) (.cells (mapC (List.replicate 16 0)).toArray 31)
    rw [World.size_alloc] at this
    exact this)
  unfold mapV
  rcases h with h1 | ⟨h1, h2⟩ | ⟨h1, h2, h3⟩ | ⟨h1, h2, h3, h4⟩ | ⟨h1, h2, h3, h4, h5⟩
  all_goals try subst h5
  all_goals
    go_enter Tryz.func93, Tryz.ntmps93
    go_wp2_with fail
    exact ret_cell_tmp rfl (w.heap.size + 1) 0 rfl (mapC (List.replicate 16 0)) _ HR.out.range Tryz.underlying31 rfl map_size rfl ⟨rfl, HB.out⟩
set_option maxRecDepth 100000 in
set_option maxHeartbeats 8000000 in
theorem rmove_in (m : List Nat) (hm : MapOk m) (f t : Nat) (hf : f < 16) (ht : t < 16) (hne : f ≠ t) (w : World) :
    Calls Tryz.prog 93 #[mapV m, .int .i64 (f : Int), .int .i64 (t : Int)] w fun e w' => e = .returned (moveIn m f t ((movedTo m 16).testBit f || (movedTo m 16).testBit t)) ∧ Below w.heap.size w w' := by
  have HM := Lib.hid hm
  have HV := Lib.hid (fun w => rmoved_ok m hm w)
  have HH1 := Lib.hid (fun w => hasb_ok (movedTo m 16) (movedTo_lt m 16 (by omega)) f hf w)
  have HH2 := Lib.hid (fun w => hasb_ok (movedTo m 16) (movedTo_lt m 16 (by omega)) t ht w)
  generalize movedTo m 16 = s at HV HH1 HH2 ⊢
  generalize s.testBit f = b1 at HH1 ⊢
  generalize s.testBit t = b2 at HH2 ⊢
  obtain ⟨W0, hW0⟩ : ∃ W0 : World, W0 = (w.alloc (.cells (mapC m).toArray 31)).alloc (.cells (mapC (List.replicate 16 0)).toArray 31) := ⟨_, rfl⟩
  have hs0 : W0.heap.size = w.heap.size + 2 := by rw [hW0]; simp
  have hB0 : Below w.heap.size w W0 := by rw [hW0]; exact below_new (below_fresh w _) _
  have hI0 : MapIn w.heap.size m W0 := by rw [hW0]; exact heap_alloc2_old w _ _
  have hR0 : MapIn (w.heap.size + 1) (List.replicate 16 0) W0 := by
    have := heap_alloc_new (w.alloc (.cells (mapC m).toArray 31)) (.cells (mapC (List.replicate 16 0)).toArray 31)
    rw [World.size_alloc] at this
    rw [hW0]
    exact this
  have HK : Hid (∀ W : World, Below W0.heap.size W0 W → W0.heap.size ≤ W.heap.size ∧ MapIn w.heap.size m W ∧ MapIn (w.heap.size + 1) (List.replicate 16 0) W ∧ Below w.heap.size w W) := Lib.hid (fun W hb => ⟨hb.size, hI0.below hb (by omega), hR0.below hb (by omega), hB0.trans (hb.mono (by omega))⟩)
  have h1 : ¬ (f : Int) < 0 := by omega
  have h2 : ¬ (15 : Int) < (f : Int) := by omega
  have h3 : ¬ (t : Int) < 0 := by omega
  have h4 : ¬ (15 : Int) < (t : Int) := by omega
  have h5 : ¬ (f : Int) = (t : Int) := by omega
  have h6 : ((f : Int) == (t : Int)) = false := by simpa using h5
  have HW0 := Lib.hid hW0
  have HS0 := Lib.hid hs0
  clear hW0 hs0 hB0 hI0 hR0 hm hne
  have HLZ := Lib.hid (show (mapC (List.replicate 16 0)).length = 16 from rfl)
  have HLM := Lib.hid (show (mapC m).length = 16 from (mapC_len m).trans HM.out.1)
  unfold mapV at HV ⊢
  cases b1 with
  | true =>
    go_enter Tryz.func93, Tryz.ntmps93
    go_wp2_with (first
      | (refine wpList_load_want 31 (.tmp 3) rfl (by kernel_rfl) w.heap.size 0 rfl (mapC m) _ (MapIn.range (heap_alloc2_old w _ _)) Tryz.underlying31 rfl (by rw [HLM.out]; exact map_size) ?_)
      | (go_at_call 145; refine (HV.out _).mono ?_; rintro e w1 ⟨rfl, hb1⟩; have hb2 : Below W0.heap.size W0 w1 := (by rw [HW0.out]; exact hb1); have HK2 := Lib.hid (HK.out w1 hb2); have hth := HK2.out.2.2.1.there rfl; clear hb1 hb2)
      | (go_at_call 100; refine (HH1.out _).mono ?_; rintro e w1' ⟨rfl, hw1⟩; obtain rfl := hw1.symm)
      | (refine wpList_store_mid rfl 31 _ _ rfl (w.heap.size + 1) 0 (mapC (List.replicate 16 0)).toArray rfl rfl hth map_size (all_oneCell_toArray (mapC_one _)) ?_))
    exact ret_cell_tmp rfl (w.heap.size + 1) 0 rfl (mapC (List.replicate 16 0)) _ (MapIn.setCells HK2.out.2.2.1 rfl rfl).range Tryz.underlying31 rfl map_size rfl ⟨rfl, below_setCells HK2.out.2.2.2 (by omega) _ _⟩
  | false =>
    have HK' : Hid (∀ W W' : World, Below W0.heap.size W0 W → Below W.heap.size W W' → Below W0.heap.size W0 W') := Lib.hid (fun W W' hb hb' => hb.trans (hb'.mono hb.size))
    cases b2 with
    | true =>
      go_enter Tryz.func93, Tryz.ntmps93
      go_wp2_with (first
        | (refine wpList_load_want 31 (.tmp 3) rfl (by kernel_rfl) w.heap.size 0 rfl (mapC m) _ (by first | exact HK2.out.2.1.range | exact MapIn.range (heap_alloc2_old w _ _)) Tryz.underlying31 rfl (by rw [HLM.out]; exact map_size) ?_)
        | (go_at_call 145; refine (HV.out _).mono ?_; rintro e w1 ⟨rfl, hb1⟩; have hb2 : Below W0.heap.size W0 w1 := (by first | exact HK'.out _ _ HB2.out hb1 | (rw [HW0.out]; exact hb1)); have HB2 := Lib.hid hb2; have HK2 := Lib.hid (HK.out w1 hb2); have hth := HK2.out.2.2.1.there rfl; clear hb1 hb2)
        | (go_at_call 100; have _h := HH1; refine (HH1.out _).mono ?_; clear _h HH1; rintro e w1' ⟨rfl, hw1⟩; obtain rfl := hw1.symm)
        | (go_at_call 100; refine (HH2.out _).mono ?_; rintro e w1' ⟨rfl, hw1⟩; obtain rfl := hw1.symm)
        | (refine wpList_store_mid rfl 31 _ _ rfl (w.heap.size + 1) 0 (mapC (List.replicate 16 0)).toArray rfl rfl hth map_size (all_oneCell_toArray (mapC_one _)) ?_))
      exact ret_cell_tmp rfl (w.heap.size + 1) 0 rfl (mapC (List.replicate 16 0)) _ (MapIn.setCells HK2.out.2.2.1 rfl rfl).range Tryz.underlying31 rfl map_size rfl ⟨rfl, below_setCells HK2.out.2.2.2 (by omega) _ _⟩
    | false =>
      go_enter Tryz.func93, Tryz.ntmps93
      go_wp2_with (first
        | (refine wpList_load_want 31 (.tmp 3) rfl (by kernel_rfl) w.heap.size 0 rfl (mapC m) _ (by first | exact HK2.out.2.1.range | exact MapIn.range (heap_alloc2_old w _ _)) Tryz.underlying31 rfl (by rw [HLM.out]; exact map_size) ?_)
        | (go_at_call 145; refine (HV.out _).mono ?_; rintro e w1 ⟨rfl, hb1⟩; have hb2 : Below W0.heap.size W0 w1 := (by first | exact HK'.out _ _ HB2.out hb1 | (rw [HW0.out]; exact hb1)); have HB2 := Lib.hid hb2; have HK2 := Lib.hid (HK.out w1 hb2); clear hb1 hb2)
        | (go_at_call 100; have _h := HH1; refine (HH1.out _).mono ?_; clear _h HH1; rintro e w1' ⟨rfl, hw1⟩; obtain rfl := hw1.symm)
        | (go_at_call 100; refine (HH2.out _).mono ?_; rintro e w1' ⟨rfl, hw1⟩; obtain rfl := hw1.symm))
      go_loopw [8] (fun i wr => ∃ (k : Nat) (m' : List Nat), i = .int .i64 (k : Int) ∧ k ≤ 16 ∧ Hid (m' = (m.take k).map (put1 f t) ++ m.drop k) ∧ Hid (MapOk m') ∧ Hid (MapIn w.heap.size m' wr) ∧ Hid (MapIn (w.heap.size + 1) (List.replicate 16 0) wr) ∧ Hid (Below w.heap.size w wr)) (fun i _ => 16 - (intOf i).toNat)
      case atStart => exact ⟨0, m, rfl, by omega, Lib.hid (by simp), HM, Lib.hid HK2.out.2.1, Lib.hid HK2.out.2.2.1, Lib.hid HK2.out.2.2.2⟩
      case round =>
        obtain ⟨k, m', rfl, hk, hP, hM, hI, hR, hW⟩ := hrel
        by_cases hk16 : k = 16
        · subst hk16
          have hlm : (mapC m').length = 16 := (mapC_len m').trans hM.out.1
          have hsz : (mapC m').toArray.size = 16 := by rw [List.size_toArray]; exact hlm
          have HE := Lib.hid (MapIn.setCells hR.out rfl hM.out.1).range
          have hth := hR.out.there rfl
          go_wp2_with (first
            | (refine wpList_load_want 31 (.tmp 3) rfl (by kernel_rfl) w.heap.size 0 rfl (mapC m') _ hI.out.range Tryz.underlying31 rfl (by rw [hlm]; exact map_size) ?_)
            | (refine wpList_store_mid rfl 31 _ _ rfl (w.heap.size + 1) 0 (mapC m').toArray rfl rfl (by rw [hsz]; exact hth) (by rw [hsz]; exact map_size) (all_oneCell_toArray (mapC_one _)) ?_))
          exact ret_cell_tmp rfl (w.heap.size + 1) 0 rfl (mapC m') _ HE.out Tryz.underlying31 rfl (by rw [hlm]; exact map_size) rfl ⟨by have e : m' = m.map (put1 f t) := (by rw [hP.out, List.take_of_length_le (by rw [HM.out.1]; omega), List.drop_of_length_le (by rw [HM.out.1]; omega), List.append_nil]); rw [e]; rfl, below_setCells hW.out (by omega) _ _⟩
        · have hkl : k < 16 := by omega
          have hki : (k : Int) < 16 := by omega
          have hkm : k < m'.length := by rw [hM.out.1]; exact hkl
          have hc := hI.out.cell k hkm
          have hfz := (hI.out.there hM.out.1 k hkl).2
          rw [Nat.zero_add] at hfz
          have hkm0 : k < m.length := by rw [HM.out.1]; exact hkl
          obtain ⟨u, hu⟩ : ∃ u, u = m'[k] := ⟨_, rfl⟩
          have hum : u = m[k] := by
            rw [hu]
            simp only [hP.out]
            exact part_at m _ k hkm0 _
          have HS : Hid (∀ x, put1 f t u = x → m'.set k x = (m.take (k + 1)).map (put1 f t) ++ m.drop (k + 1)) := Lib.hid (fun x hx => by rw [hP.out]; exact part_set m _ k x hkm0 (by rw [← hum]; exact hx))
          have HT : Hid (put1 f t u = u → m' = (m.take (k + 1)).map (put1 f t) ++ m.drop (k + 1)) := Lib.hid (fun hx => by rw [hP.out, part_here m _ k hkm0, part_next m _ k hkm0, ← hum, hx])
          have hu16 : u < 16 := by rw [hu]; exact hM.out.get k hkm
          rw [← hu] at hc
          have hw64 : wrap64 (u : Int) = (u : Int) := by unfold wrap64; omega
          clear hk16 hu hum
          by_cases he : u = f
          · have hg : ((u : Int) == (f : Int)) = true := by simpa using (show (u : Int) = (f : Int) by omega)
            have HN := Lib.hid (hI.out.set k t)
            have HO := Lib.hid (hR.out.other w.heap.size k (.int .u8 (t : Int)) (by omega))
            have HP := Lib.hid (hM.out.set k ht)
            have HX := Lib.hid (HS.out t (by unfold put1; rw [if_pos he]))
            have HQ := Lib.hid (hW.out.setCell (p := ⟨w.heap.size, k, none⟩) (Nat.le_refl _) (.int .u8 (t : Int)))
            go_wp2_with fail
            go_roundw
            case rel => exact ⟨k + 1, _, by go_num, by omega, HX, HP, HN, HO, HQ⟩
            case measure => simp [intOf]; omega
          · have he1 : ¬ (u : Int) = (f : Int) := by omega
            have hg : ((u : Int) == (f : Int)) = false := by simpa using he1
            have HX := Lib.hid (HT.out (by unfold put1; rw [if_neg he]))
            go_wp2_with fail
            go_roundw
            case rel => exact ⟨k + 1, m', by go_num, by omega, HX, hM, hI, hR, hW⟩
            case measure => simp [intOf]; omega
end Go.Proofs.YtlmacaenbililaaGreatDoor
namespace Go.Proofs.YtlmacaenbililaaGreatDoor
set_option linter.unusedSimpArgs false
set_option linter.unusedVariables false

namespace Tag
/-- The image of some tags. -/
def img (m : List Nat) (l : List Nat) : Nat := l.foldl (fun o t => o ||| 2 ^ m.getD t 0) 0
def image (m : List Nat) (s : Nat) : Nat := img m (tags s)
theorem img_snoc (m l : List Nat) (x : Nat) : img m (l ++ [x]) = img m l ||| 2 ^ m.getD x 0 := by simp [img, List.foldl_append]
theorem foldm_bit (m : List Nat) : ∀ (l : List Nat) (o i : Nat), (l.foldl (fun o t => o ||| 2 ^ m.getD t 0) o).testBit i = (o.testBit i || l.any (fun t => decide (m.getD t 0 = i)))
  | [], o, i => by simp
  | t :: l, o, i => by
    rw [List.foldl_cons, foldm_bit m l, Nat.testBit_or, Nat.testBit_two_pow, List.any_cons, Bool.or_assoc]
theorem img_bit (m l : List Nat) (i : Nat) : (img m l).testBit i = l.any (fun t => decide (m.getD t 0 = i)) := by rw [img, foldm_bit]; simp
theorem foldm_lt {m : List Nat} (hm : ∀ t, m.getD t 0 < 16) : ∀ (l : List Nat) (o : Nat), o < 65536 → l.foldl (fun o t => o ||| 2 ^ m.getD t 0) o < 65536
  | [], o, h => h
  | t :: l, o, h => foldm_lt hm l _ (Nat.or_lt_two_pow (n := 16) h (Nat.pow_lt_pow_right (by omega) (hm t)))
theorem img_lt {m : List Nat} (hm : ∀ t, m.getD t 0 < 16) (l : List Nat) : img m l < 65536 := foldm_lt hm l 0 (by omega)
/-- Does a tag below t that is in the set go to u? -/
def hit (m : List Nat) (s u t : Nat) : Bool := (List.range t).any fun t => s.testBit t && decide (m.getD t 0 = u)
theorem hit_succ (m : List Nat) (s u t : Nat) : hit m s u (t + 1) = (hit m s u t || (s.testBit t && decide (m.getD t 0 = u))) := by
  unfold hit
  rw [List.range_succ, List.any_append]
  simp
theorem image_bit (m : List Nat) (s i : Nat) : (image m s).testBit i = hit m s i 16 := by
  rw [image, img_bit, tags, List.any_filter]; rfl
theorem image_same {s : Nat} (h : s < 65536) : image (List.range 16) s = s := by
  refine ext (img_lt (fun t => ?_) _) h fun i hi => ?_
  · rw [List.getD_eq_getElem?_getD]
    by_cases ht : t < 16
    · rw [List.getElem?_eq_getElem (by simpa using ht)]; simpa using ht
    · rw [List.getElem?_eq_none (by simpa using ht)]; simp
  · rw [image_bit, Bool.eq_iff_iff, hit, List.any_eq_true]
    constructor
    · rintro ⟨t, ht, h1⟩
      have ht := List.mem_range.1 ht
      rw [List.getD_eq_getElem?_getD, List.getElem?_eq_getElem (by simpa using ht)] at h1
      simp at h1
      rw [← h1.2]; exact h1.1
    · intro h1
      refine ⟨i, List.mem_range.2 hi, ?_⟩
      rw [List.getD_eq_getElem?_getD, List.getElem?_eq_getElem (by simpa using hi)]
      simpa using h1
/-- What the document's loops have made so far. -/
def part (m : List Nat) (s u t out : Nat) : Prop := out < 65536 ∧ ∀ v, out.testBit v = ((decide (v < u) && hit m s v 16) || (decide (v = u) && hit m s u t))
theorem part_zero (m : List Nat) (s : Nat) : part m s 0 0 0 := ⟨by omega, fun v => by simp [hit]⟩
theorem part_yes {m : List Nat} {s u t out : Nat} (h : part m s u t out) (hu : u < 16) (hs : s.testBit t = true) (hm : m.getD t 0 = u) : part m s u (t + 1) (out ||| 2 ^ u) :=
  ⟨Nat.or_lt_two_pow (n := 16) h.1 (Nat.pow_lt_pow_right (by omega) hu), fun v => by
    rw [Nat.testBit_or, Nat.testBit_two_pow, h.2 v, hit_succ m s u t, hs, hm]
    by_cases e : v = u
    · subst e; simp
    · have e' : ¬ u = v := fun x => e x.symm
      simp [e, e']⟩
theorem part_no {m : List Nat} {s u t out : Nat} (h : part m s u t out) (hs : (s.testBit t && decide (m.getD t 0 = u)) = false) : part m s u (t + 1) out :=
  ⟨h.1, fun v => by rw [h.2 v, hit_succ m s u t, hs, Bool.or_false]⟩
theorem part_next {m : List Nat} {s u out : Nat} (h : part m s u 16 out) : part m s (u + 1) 0 out :=
  ⟨h.1, fun v => by
    rw [h.2 v]
    have h0 : hit m s (u + 1) 0 = false := by simp [hit]
    rw [h0, Bool.and_false, Bool.or_false]
    by_cases e : v = u
    · subst e; simp
    · have e1 : (decide (v < u + 1)) = decide (v < u) := by
        rw [decide_eq_decide]; omega
      simp [e, e1]⟩
theorem part_end {m : List Nat} (hm : ∀ t, m.getD t 0 < 16) {s out : Nat} (h : part m s 16 0 out) : out = image m s := by
  refine ext h.1 (img_lt hm _) fun i hi => ?_
  rw [h.2 i, image_bit]
  have h0 : ¬ i = 16 := by omega
  simp [hi, h0]
end Tag
theorem MapOk.getD {m : List Nat} (h : MapOk m) (t : Nat) : m.getD t 0 < 16 := by
  rw [List.getD_eq_getElem?_getD]
  by_cases ht : t < m.length
  · rw [List.getElem?_eq_getElem ht]; exact h.get t ht
  · rw [List.getElem?_eq_none (by omega)]; simp
theorem getD_of {m : List Nat} {t : Nat} (ht : t < m.length) : m.getD t 0 = m[t] := by rw [List.getD_eq_getElem?_getD, List.getElem?_eq_getElem ht]; rfl
end Go.Proofs.YtlmacaenbililaaGreatDoor
namespace Go.Proofs.YtlmacaenbililaaGreatDoor
open Go.RowKit Go.Shelf
set_option linter.unusedSimpArgs false
set_option linter.unusedVariables false
attribute [local go_sem] cell_over frozen_over

set_option maxRecDepth 100000 in
set_option maxHeartbeats 4000000 in
theorem r04set_ok (m : List Nat) (hm : MapOk m) (s : Nat) (hs : s < 65536) (w : World) : Calls Tryz.prog 96 #[mapV m, .int .u16 (s : Int)] w fun e w' => e = .returned (.int .u16 (Tag.image m s : Int)) ∧ Below w.heap.size w w' := by
  have HM := Lib.hid hm
  have HI := Lib.hid (show MapIn w.heap.size m (w.alloc (.cells (mapC m).toArray 31)) from heap_alloc_new w _)
  have HB := Lib.hid (below_fresh w (.cells (mapC m).toArray 31))
  clear hm
  unfold mapV
  go_enter Tryz.func96, Tryz.ntmps96
  go_wp2_with fail
  go_loopw [5, 6, 7] (fun v i _ wr => ∃ (u out : Nat), v = .int .u16 (out : Int) ∧ i = .int .i64 (u : Int) ∧ u ≤ 16 ∧ Hid (Tag.part m s u 0 out) ∧ Hid (MapIn w.heap.size m wr) ∧ Hid (Below w.heap.size w wr)) (fun _ i _ _ => 16 - (intOf i).toNat)
  case atStart => exact ⟨0, 0, rfl, rfl, by omega, Lib.hid (Tag.part_zero m s), HI, HB⟩
  case round =>
    obtain ⟨u, out, rfl, rfl, hu, hP, hI, hW⟩ := hrel
    by_cases hu16 : u = 16
    · subst hu16
      have hr := Lib.hid (Tag.part_end HM.out.getD hP.out)
      go_wp2_with fail
      go_ret
      exact ⟨by rw [hr.out]; rfl, hW.out⟩
    · have hul : u < 16 := by omega
      have hui : (u : Int) < 16 := by omega
      obtain ⟨wo, rfl⟩ : ∃ wo : World, wo = wr := ⟨_, rfl⟩
      clear hu16 HI HB
      go_wp2_with fail
      go_loopw [5, 7] (fun v i wr => ∃ (t out : Nat), v = .int .u16 (out : Int) ∧ i = .int .i64 (t : Int) ∧ t ≤ 16 ∧ Hid (Tag.part m s u t out) ∧ Hid (MapIn w.heap.size m wr) ∧ Hid (Below w.heap.size w wr)) (fun _ i _ => 16 - (intOf i).toNat)
      case atStart => exact ⟨0, out, rfl, rfl, by omega, hP, hI, hW⟩
      case round =>
        obtain ⟨t, o2, rfl, rfl, ht, hP2, hI2, hW2⟩ := hrel
        by_cases ht16 : t = 16
        · subst ht16
          have hr := Lib.hid (Tag.part_next hP2.out)
          go_wp2_with fail
          go_roundw
          case rel => exact ⟨u + 1, o2, rfl, by go_num, by omega, hr, hI2, hW2⟩
          case measure => simp [intOf]; omega
        · have htl : t < 16 := by omega
          have hti : (t : Int) < 16 := by omega
          have htm : t < m.length := by rw [HM.out.1]; exact htl
          have hc := hI2.out.cell t htm
          have hgd : m.getD t 0 = m[t] := getD_of htm
          have HH := Lib.hid (fun w => hasb_ok s hs t htl w)
          have HY : Hid (s.testBit t = true → m[t] = u → Tag.part m s u (t + 1) (o2 ||| 2 ^ u)) := Lib.hid (fun h1 h2 => Tag.part_yes hP2.out hul h1 (hgd.trans h2))
          have HN : Hid ((s.testBit t = true → m[t] = u → False) → Tag.part m s u (t + 1) o2) := Lib.hid (fun h => Tag.part_no hP2.out (by
            cases hb : s.testBit t with
            | false => rfl
            | true => rw [hgd]; simpa using h hb))
          have HW := Lib.hid (fun w => withb_ok o2 hP2.out.1 u hul w)
          obtain ⟨x, hx⟩ : ∃ x, x = m[t] := ⟨_, rfl⟩
          have hx16 : x < 16 := by rw [hx]; exact HM.out.get t htm
          rw [← hx] at hc HY HN
          generalize s.testBit t = b at HH HY HN
          have hw64 : wrap64 (x : Int) = (x : Int) := by unfold wrap64; omega
          clear hgd hx ht16 hP2
          cases b with
          | false =>
            have hn := Lib.hid (HN.out (fun h => by cases h))
            go_wp2_with (go_at_call 100; refine (HH.out _).mono ?_; rintro e w1 ⟨rfl, hw1⟩; obtain rfl := hw1.symm)
            go_roundw
            case rel => exact ⟨t + 1, o2, rfl, by go_num, by omega, hn, hI2, hW2⟩
            case measure => simp [intOf]; omega
          | true =>
            by_cases he : x = u
            · have hg : ((x : Int) == (u : Int)) = true := by simpa using (show (x : Int) = (u : Int) by omega)
              have he1 : (x : Int) = (u : Int) := by omega
              have hn := Lib.hid (HY.out rfl he)
              clear HY HN he
              go_wp2_with (first
                | (go_at_call 100; refine (HH.out _).mono ?_; rintro e w1 ⟨rfl, hw1⟩; obtain rfl := hw1.symm)
                | (go_at_call 103; refine (HW.out _).mono ?_; rintro e w1 ⟨rfl, hw1⟩; obtain rfl := hw1.symm))
              go_roundw
              case rel => exact ⟨t + 1, _, rfl, by go_num, by omega, hn, hI2, hW2⟩
              case measure => simp [intOf]; omega
            · have he1 : ¬ (x : Int) = (u : Int) := by omega
              have hg : ((x : Int) == (u : Int)) = false := by simpa using he1
              have hn := Lib.hid (HN.out (fun _ h => he h))
              clear HY HN he
              go_wp2_with (go_at_call 100; refine (HH.out _).mono ?_; rintro e w1 ⟨rfl, hw1⟩; obtain rfl := hw1.symm)
              go_roundw
              case rel => exact ⟨t + 1, o2, rfl, by go_num, by omega, hn, hI2, hW2⟩
              case measure => simp [intOf]; omega
theorem setsOf_lt {m : List Nat} (hm : MapOk m) (a : Lab.L) : Lab.ok (Tag.image m a.1, Tag.image m a.2) := ⟨Tag.img_lt hm.getD _, Tag.img_lt hm.getD _⟩
end Go.Proofs.YtlmacaenbililaaGreatDoor
namespace Go.Proofs.YtlmacaenbililaaGreatDoor
open Go.RowKit Go.Shelf
set_option linter.unusedSimpArgs false
set_option linter.unusedVariables false
attribute [local go_sem] cell_over frozen_over Oper.semAt_some

theorem heap_alloc2_old' (w : World) (o p q : Obj) : ((w.alloc o).alloc p |>.alloc q).heap[w.heap.size]? = some o := by
  rw [Below.heap_alloc _ _ _ (by rw [World.size_alloc, World.size_alloc]; omega), Below.heap_alloc _ _ _ (by rw [World.size_alloc]; omega)]; exact heap_alloc_new _ _
/-- The image of a label. -/
def imageL (m : List Nat) (a : Lab.L) : Lab.L := (Tag.image m a.1, Tag.image m a.2)
theorem imageL_ok {m : List Nat} (hm : MapOk m) (a : Lab.L) : Lab.ok (imageL m a) := setsOf_lt hm a
set_option maxRecDepth 100000 in
set_option maxHeartbeats 2000000 in
theorem r04label_ok (m : List Nat) (hm : MapOk m) (a : Lab.L) (ha : Lab.ok a) (w : World) : Calls Tryz.prog 40 #[mapV m, labV a] w fun e w' => e = .returned (labV (imageL m a)) ∧ Below w.heap.size w w' := by
  have HS1 := Lib.hid (fun w => r04set_ok m hm a.1 ha.1 w)
  have HS2 := Lib.hid (fun w => r04set_ok m hm a.2 ha.2 w)
  have hlm : (mapC m).length = 16 := (mapC_len m).trans hm.1
  unfold imageL
  obtain ⟨a1, a2⟩ := a
  have HMC := Lib.hid (show ∀ W : World, (∃ X, W = over (((w.alloc (.cells (mapC m).toArray 31)).alloc (.cells #[.int .u16 (a1 : Int), .int .u16 (a2 : Int)] 25)).alloc (.cells #[.int .u16 0, .int .u16 0] 25)) X) → W.rangeAt w.heap.size 0 (mapC m) from by
    rintro W ⟨X, rfl⟩
    exact rangeAt_over (MapIn.range (heap_alloc2_old' w _ _ _)))
  have HB := Lib.hid (below_new (below_new (below_fresh w (.cells (mapC m).toArray 31)) (.cells #[.int .u16 (a1 : Int), .int .u16 (a2 : Int)] 25)) (.cells #[.int .u16 0, .int .u16 0] 25))
  simp only at HS1 HS2 ⊢
  generalize Tag.image m a1 = s1 at HS1 ⊢
  generalize Tag.image m a2 = s2 at HS2 ⊢
  clear hm ha
  unfold mapV at HS1 HS2 ⊢
  go_enter Tryz.func40, Tryz.ntmps40
  go_wp2_with fail
  refine wp_region_over_tail 9 (by kernel_rfl) (by kernel_rfl) ?_
  simp only [List.take_succ_cons, List.take_zero, List.drop_succ_cons, List.drop_zero]
  repeat (first
    | (go_big_quiet_want; refine quiet_load_mid 31 (.tmp 2) rfl w.heap.size 0 rfl (mapC m) _ HMC.out Tryz.underlying31 rfl (by rw [hlm]; exact map_size) ?_; go_big_quiet_on; simp only [Act.put, List.setIfInBounds_toArray, List.set_cons_succ, List.set_cons_zero])
    | go_big_quiet_step (first
      | ((go_at_call 96; with_reducible exact Calls.over_of (HS1.out _)))
      | ((go_at_call 96; with_reducible exact Calls.over_of (HS2.out _)))))
  refine wpQuiet_nil ?_
  intro W7 hW7
  have hb7 := below_of_over hW7
  have hr7 := block_below hb7 (heap_alloc_new ((w.alloc (.cells (mapC m).toArray 31)).alloc (.cells #[.int .u16 (a1 : Int), .int .u16 (a2 : Int)] 25)) (.cells #[.int .u16 0, .int .u16 0] 25))
  rw [World.size_alloc, World.size_alloc] at hr7
  obtain ⟨c0, c1, f0, f1⟩ := pair_cells hr7
  have HR7 := Lib.hid hr7
  have HB7 := Lib.hid (below_here HB.out hb7)
  clear hr7 hW7 hb7
  go_wp2_with fail
  exact ret_cell rfl (w.heap.size + 1 + 1) 0 rfl [.int .u16 (s1 : Int), .int .u16 (s2 : Int)] _ (range_of_block (heap_setCells_same _ _ [.int .u16 (s1 : Int), .int .u16 (s2 : Int)] 0 W7 [.int .u16 0, .int .u16 0] HR7.out (by simp)) 0 _ (fun j _ => by rw [Nat.zero_add]; rfl)) Tryz.underlying25 rfl info_lab rfl ⟨rfl, below_setCells HB7.out (g := w.heap.size + 1 + 1) (by omega) 0 [.int .u16 (s1 : Int), .int .u16 (s2 : Int)]⟩
set_option maxRecDepth 100000 in
set_option maxHeartbeats 2000000 in
theorem same4_ok (w : World) : Calls Tryz.prog 148 #[] w fun e w' => e = .returned (mapV (List.range 16)) ∧ Below w.heap.size w w' := by
  have HB := Lib.hid (below_new (below_fresh w (.cells (mapC (List.replicate 16 0)).toArray 31)) (.cells (mapC (List.replicate 16 0)).toArray 31))
  have HM := Lib.hid (show MapIn (w.heap.size + 1) (List.range 0 ++ List.replicate 16 0) ((w.alloc (.cells (mapC (List.replicate 16 0)).toArray 31)).alloc (.cells (mapC (List.replicate 16 0)).toArray 31)) from by
    have := heap_alloc_new (w.alloc (.cells (mapC (List.replicate 16 0)).toArray 31)) (.cells (mapC (List.replicate 16 0)).toArray 31)
    rw [World.size_alloc] at this
    exact this)
  have HR := Lib.hid (show MapIn w.heap.size (List.replicate 16 0) ((w.alloc (.cells (mapC (List.replicate 16 0)).toArray 31)).alloc (.cells (mapC (List.replicate 16 0)).toArray 31)) from heap_alloc2_old w _ _)
  go_enter Tryz.func148, Tryz.ntmps148
  go_wp2_with fail
  go_loopw [2, 3] (fun _ i wr => ∃ (k : Nat), i = .int .i64 (k : Int) ∧ k ≤ 16 ∧ Hid (MapIn (w.heap.size + 1) (List.range k ++ List.replicate (16 - k) 0) wr) ∧ Hid (MapIn w.heap.size (List.replicate 16 0) wr) ∧ Hid (Below w.heap.size w wr)) (fun _ i _ => 16 - (intOf i).toNat)
  case atStart => exact ⟨0, rfl, by omega, HM, HR, HB⟩
  case round =>
    clear HM HR HB
    obtain ⟨k, rfl, hk, hM, hR, hW⟩ := hrel
    by_cases hk16 : k = 16
    · subst hk16
      have hM' : Hid (MapIn (w.heap.size + 1) (List.range 16) wr) := Lib.hid (by have := hM.out; simpa using this)
      have HE := Lib.hid (MapIn.setCells hR.out rfl (show (List.range 16).length = 16 by simp)).range
      have hth := hR.out.there rfl
      go_wp2_with (first
        | (refine wpList_load_want 31 (.tmp 1) rfl (by kernel_rfl) (w.heap.size + 1) 0 rfl (mapC (List.range 16)) _ hM'.out.range Tryz.underlying31 rfl map_size ?_)
        | (refine wpList_store_mid rfl 31 _ _ rfl w.heap.size 0 (mapC (List.range 16)).toArray rfl rfl hth map_size (all_oneCell_toArray (mapC_one _)) ?_))
      exact ret_cell rfl w.heap.size 0 rfl (mapC (List.range 16)) _ HE.out Tryz.underlying31 rfl map_size rfl ⟨rfl, below_setCells hW.out (Nat.le_refl _) _ _⟩
    · have hkl : k < 16 := by omega
      have hki : (k : Int) < 16 := by omega
      have hlen : (List.range k ++ List.replicate (16 - k) 0).length = 16 := by simp; omega
      obtain ⟨z, hc⟩ : ∃ z : Nat, wr.cell? ⟨w.heap.size + 1, k, none⟩ = some (.int .u8 (z : Int)) := ⟨_, hM.out.cell k (by rw [hlen]; exact hkl)⟩
      have hfz := (hM.out.there hlen k hkl).2
      rw [Nat.zero_add] at hfz
      have hset : (List.range k ++ List.replicate (16 - k) 0).set k k = List.range (k + 1) ++ List.replicate (16 - (k + 1)) 0 := by
        rw [List.set_append_right _ _ (by simp), List.length_range, Nat.sub_self, show 16 - k = (16 - (k + 1)) + 1 by omega, List.replicate_succ, List.set_cons_zero, List.range_succ, List.append_assoc]
        rfl
      have HN := Lib.hid (hM.out.set k k)
      rw [hset] at HN
      have HO := Lib.hid (hR.out.other (w.heap.size + 1) k (.int .u8 (k : Int)) (by omega))
      have HQ := Lib.hid (hW.out.setCell (p := ⟨w.heap.size + 1, k, none⟩) (by show w.heap.size ≤ w.heap.size + 1; omega) (.int .u8 (k : Int)))
      have hw8 : IntKind.u8.wrap (k : Int) = (k : Int) := by simp [IntKind.wrap, IntKind.bits, IntKind.signed]; omega
      clear hk16 hlen hset
      go_wp2_with fail
      go_roundw
      case rel => exact ⟨k + 1, by go_num, by omega, HN, HO, HQ⟩
      case measure => simp [intOf]; omega
end Go.Proofs.YtlmacaenbililaaGreatDoor
