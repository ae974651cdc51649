/- Maps of tags (package forepeakref04): only that what is made is a map. No conditions. -/
import Derived.Test.YtlmacaenbililaaGreatDoorLref
import Derived.Test.YtlmacaenbililaaGreatDoorRidd
namespace Go.Proofs.YtlmacaenbililaaGreatDoor
open Go.RowKit Go.Shelf
set_option linter.unusedSimpArgs false
set_option linter.unusedVariables false
attribute [local go_sem] cell_over frozen_over

def mapC (m : List Nat) : List Value := m.map fun n : Nat => .int .u8 (n : Int)
def mapV (m : List Nat) : Value := .agg (mapC m).toArray
def MapOk (m : List Nat) : Prop := m.length = 16 ∧ ∀ u ∈ m, u < 16
def MapIn (b : Nat) (m : List Nat) (w : World) : Prop := w.heap[b]? = some (.cells (mapC m).toArray 31 (0, 0))
theorem mapC_len (m : List Nat) : (mapC m).length = m.length := by simp [mapC]
theorem mapC_one (m : List Nat) : ∀ v ∈ mapC m, v.oneCell' = true := by
  intro v hv
  obtain ⟨n, _, rfl⟩ := List.mem_map.1 hv
  rfl
theorem map_size : (Tryz.prog.info? 31).map (·.size) = some 16 := by kernel_rfl
theorem MapIn.range {b : Nat} {m : List Nat} {w : World} (h : MapIn b m w) : w.rangeAt b 0 (mapC m) := range_of_block h 0 _ (fun j _ => by rw [Nat.zero_add])
theorem MapIn.cell {b : Nat} {m : List Nat} {w : World} (h : MapIn b m w) (t : Nat) (ht : t < m.length) : w.cell? ⟨b, t, none⟩ = some (.int .u8 ((m[t] : Nat) : Int)) := by
  have h1 := h.range t (.int .u8 ((m[t] : Nat) : Int)) (by simp [mapC, List.getElem?_map, List.getElem?_eq_getElem ht])
  rw [Nat.zero_add] at h1
  exact h1
theorem MapIn.below {N b : Nat} {m : List Nat} {w W : World} (h : MapIn b m w) (hb : Below N w W) (hN : b < N) : MapIn b m W := (hb.block b hN).trans h
theorem MapIn.there {b : Nat} {m : List Nat} {w : World} (h : MapIn b m w) (hl : m.length = 16) : w.there b 0 16 := fun j hj => by
  have h1 := h.cell j (by omega)
  rw [Nat.zero_add, h1]
  refine ⟨rfl, ?_⟩
  unfold MapIn at h
  simp [World.frozen?, h]
theorem MapIn.other {b : Nat} {m : List Nat} {w : World} (h : MapIn b m w) (c o : Nat) (v : Value) (hne : b ≠ c) : MapIn b m (w.setCell ⟨c, o, none⟩ v) := by
  unfold MapIn at h ⊢
  simp [World.setCell, Array.getElem?_modify, h, hne, Ne.symm hne]
theorem MapIn.setCells {b : Nat} {m m' : List Nat} {w : World} (h : MapIn b m w) (hl : m.length = 16) (hl' : m'.length = 16) : MapIn b m' (w.setCells b 0 (mapC m')) := by
  have := heap_setCells_same b 31 (mapC m') 0 w (mapC m) h (by rw [mapC_len, mapC_len]; omega)
  unfold MapIn
  rw [this]
  have e : splice (mapC m) 0 (mapC m') = mapC m' := by
    simp [splice, mapC, hl, hl']
  rw [e]
theorem MapIn.set {b : Nat} {m : List Nat} {w : World} (h : MapIn b m w) (t : Nat) (u : Nat) : MapIn b (m.set t u) (w.setCell ⟨b, t, none⟩ (.int .u8 (u : Int))) := by
  unfold MapIn at h ⊢
  simp [World.setCell, Array.getElem?_modify, h, mapC, List.map_set]
theorem MapOk.set {m : List Nat} (h : MapOk m) (t : Nat) {u : Nat} (hu : u < 16) : MapOk (m.set t u) :=
  ⟨by rw [List.length_set]; exact h.1, fun x hx => by
    rcases List.mem_or_eq_of_mem_set hx with h1 | rfl
    · exact h.2 x h1
    · exact hu⟩
theorem MapOk.get {m : List Nat} (h : MapOk m) (t : Nat) (ht : t < m.length) : m[t] < 16 := h.2 _ (List.getElem_mem ht)
theorem same_mapOk : MapOk (List.range 16) := ⟨by simp, fun u hu => by simpa using hu⟩
theorem zero_mapOk : MapOk (List.replicate 16 0) := ⟨by simp, fun u hu => by simp at hu; omega⟩
set_option maxRecDepth 100000 in
theorem r04same_ok (w : World) : Calls Tryz.prog 92 #[] w fun e w' => e = .returned (mapV (List.range 16)) ∧ Below w.heap.size w w' := by
  go_enter Tryz.func92, Tryz.ntmps92
  go_wp2_with fail
  exact ret_cell rfl w.heap.size 0 rfl (mapC (List.range 16)) _ (range_of_block (heap_alloc_new w _) 0 _ (fun j _ => by rw [Nat.zero_add]; rfl)) Tryz.underlying31 rfl map_size rfl ⟨rfl, below_fresh _ _⟩
def movedTo (m : List Nat) : Nat → Nat
  | 0 => 0
  | k + 1 => if m.getD k 0 = k then movedTo m k else movedTo m k ||| 2 ^ k
theorem movedTo_lt (m : List Nat) : ∀ k, k ≤ 16 → movedTo m k < 65536
  | 0, _ => by unfold movedTo; omega
  | k + 1, h => by
    unfold movedTo
    split
    · exact movedTo_lt m k (by omega)
    · exact Nat.or_lt_two_pow (n := 16) (movedTo_lt m k (by omega)) (Nat.pow_lt_pow_right (by omega) (by omega))
set_option maxRecDepth 100000 in
set_option maxHeartbeats 4000000 in
theorem rmoved_ok (m : List Nat) (hm : MapOk m) (w : World) : Calls Tryz.prog 145 #[mapV m] w fun e w' => e = .returned (.int .u16 (movedTo m 16 : Int)) ∧ Below w.heap.size w w' := by
  have HM := Lib.hid hm
  have HI := Lib.hid (show MapIn w.heap.size m (w.alloc (.cells (mapC m).toArray 31)) from heap_alloc_new w _)
  have HB := Lib.hid (below_fresh w (.cells (mapC m).toArray 31))
  clear hm
  unfold mapV
  go_enter Tryz.func145, Tryz.ntmps145
  go_wp2_with fail
  go_loopw [3, 4] (fun v i wr => ∃ (k s : Nat), i = .int .i64 (k : Int) ∧ v = .int .u16 (s : Int) ∧ k ≤ 16 ∧ Hid (s = movedTo m k) ∧ Hid (MapIn w.heap.size m wr) ∧ Hid (Below w.heap.size w wr)) (fun _ i _ => 16 - (intOf i).toNat)
  case atStart => exact ⟨0, 0, rfl, rfl, by omega, Lib.hid rfl, HI, HB⟩
  case round =>
    obtain ⟨k, s, rfl, rfl, hk, hS, hI, hW⟩ := hrel
    by_cases hk16 : k = 16
    · subst hk16
      go_wp2_with fail
      go_ret
      exact ⟨by rw [hS.out]; rfl, hW.out⟩
    · have hkl : k < 16 := by omega
      have hki : (k : Int) < 16 := by omega
      have hkm : k < m.length := by rw [HM.out.1]; exact hkl
      have HW := Lib.hid (fun w => withb_ok s (by rw [hS.out]; exact movedTo_lt m k (by omega)) k hkl w)
      have hc := hI.out.cell k hkm
      have hn : Hid (movedTo m (k + 1) = if m[k] = k then s else s ||| 2 ^ k) := Lib.hid (by
        rw [hS.out]
        show (if m.getD k 0 = k then _ else _) = _
        rw [List.getD_eq_getElem?_getD, List.getElem?_eq_getElem hkm]; rfl)
      clear hS
      obtain ⟨u, hu⟩ : ∃ u, u = m[k] := ⟨_, rfl⟩
      have hu16 : u < 16 := by rw [hu]; exact HM.out.get k hkm
      rw [← hu] at hc hn
      have hw64 : wrap64 (u : Int) = (u : Int) := by unfold wrap64; omega
      clear hk16 hu HI HB
      by_cases he : u = k
      · subst he
        have hn' : Hid (s = movedTo m (u + 1)) := Lib.hid (by rw [hn.out, if_pos rfl])
        clear hn
        go_wp2_with fail
        go_roundw
        case rel => exact ⟨u + 1, s, by go_num, rfl, by omega, hn', hI, hW⟩
        case measure => simp [intOf]; omega
      · have he1 : ¬ (u : Int) = (k : Int) := by omega
        have hn' : Hid (s ||| 2 ^ k = movedTo m (k + 1)) := Lib.hid (by rw [hn.out, if_neg he])
        clear hn
        have hg : ((u : Int) != (k : Int)) = true := by simpa using he1
        go_wp2_with (go_at_call 103; refine (HW.out _).mono ?_; rintro e w1 ⟨rfl, hw1⟩; obtain rfl := hw1.symm)
        go_roundw
        case rel => exact ⟨k + 1, _, by go_num, rfl, by omega, hn', hI, hW⟩
        case measure => simp [intOf]; omega

theorem wpList_load_want {P : Program} {ops : Array Oper} {rest : List Oper} {op : Oper} {a : Act} {w : World} {Q : Exit → Act → World → Prop} (ty : TypeId) (x : Operand) (ho : op.op = .load ty x) (hgd : Region.wanted op (yielded ops a.tmps) = true)
    (b o : Nat) (hx : a.eval x = .pointer (some ⟨b, o, none⟩)) (cs : List Value) (d : TypeDesc) (hc : w.rangeAt b o cs)
    (hu : P.underlying ty = some d) (hd : d.isRow = true) (hi : (P.info? ty).map (·.size) = some cs.length)
    (h : wpList P ops Q rest (a.put op.dst (.agg cs.toArray)) w) : wpList P ops Q (op :: rest) a w :=
  wpList_step fun K hK => by rw [if_pos hgd]; exact wp_load_mid ty x ho b o hx cs d hc hu hd hi (hK _ _ h)
def put1 (f t : Nat) (u : Nat) : Nat := if u = f then t else u
def moveNo : Value := .tuple #[mapV (List.replicate 16 0), .bool false]
/-- What a move gives; 'b': one of the two is moved. -/
def moveIn (m : List Nat) (f t : Nat) (b : Bool) : Value := if b then moveNo else .tuple #[mapV (m.map (put1 f t)), .bool true]
theorem part_here (m : List Nat) (g : Nat → Nat) (k : Nat) (hk : k < m.length) : (m.take k).map g ++ m.drop k = (m.take k).map g ++ (m[k] :: m.drop (k + 1)) := by rw [← List.drop_eq_getElem_cons hk]
theorem part_next (m : List Nat) (g : Nat → Nat) (k : Nat) (hk : k < m.length) : (m.take (k + 1)).map g ++ m.drop (k + 1) = (m.take k).map g ++ (g m[k] :: m.drop (k + 1)) := by
  rw [← List.take_append_getElem hk, List.map_append, List.append_assoc]; rfl
theorem part_at (m : List Nat) (g : Nat → Nat) (k : Nat) (hk : k < m.length) (h : k < ((m.take k).map g ++ m.drop k).length) : ((m.take k).map g ++ m.drop k)[k] = m[k] := by
  rw [List.getElem_append_right (by simp; omega)]
  simp [Nat.min_eq_left (Nat.le_of_lt hk)]
theorem part_set (m : List Nat) (g : Nat → Nat) (k u : Nat) (hk : k < m.length) (hu : g m[k] = u) : ((m.take k).map g ++ m.drop k).set k u = (m.take (k + 1)).map g ++ m.drop (k + 1) := by
  rw [part_here m g k hk, part_next m g k hk, hu, List.set_append_right _ _ (by simp; omega)]
  rw [show k - ((m.take k).map g).length = 0 by simp; omega]
  rfl
set_option maxRecDepth 100000 in
set_option maxHeartbeats 4000000 in
theorem rmove_no (m : List Nat) (f t : Int) (h : f < 0 ∨ (¬ f < 0 ∧ 15 < f) ∨ (¬ f < 0 ∧ ¬ 15 < f ∧ t < 0) ∨ (¬ f < 0 ∧ ¬ 15 < f ∧ ¬ t < 0 ∧ 15 < t) ∨ (¬ f < 0 ∧ ¬ 15 < f ∧ ¬ t < 0 ∧ ¬ 15 < t ∧ f = t)) (w : World) :
    Calls Tryz.prog 93 #[mapV m, .int .i64 f, .int .i64 t] w fun e w' => e = .returned moveNo ∧ Below w.heap.size w w' := by
  have HB := Lib.hid (below_new (below_fresh w (.cells (mapC m).toArray 31)) (.cells (mapC (List.replicate 16 0)).toArray 31))
  have HR := Lib.hid (show MapIn (w.heap.size + 1) (List.replicate 16 0) ((w.alloc (.cells (mapC m).toArray 31)).alloc (.cells (mapC (List.replicate 16 0)).toArray 31)) from by
    have := heap_alloc_new (w.alloc (.cells (mapC m).toArray 31)) (.cells (mapC (List.replicate 16 0)).toArray 31)
    rw [World.size_alloc] at this
    exact this)
  unfold mapV
  rcases h with h1 | ⟨h1, h2⟩ | ⟨h1, h2, h3⟩ | ⟨h1, h2, h3, h4⟩ | ⟨h1, h2, h3, h4, h5⟩
  all_goals try subst h5
  all_goals
    go_enter Tryz.func93, Tryz.ntmps93
    go_wp2_with fail
    exact ret_cell_tmp rfl (w.heap.size + 1) 0 rfl (mapC (List.replicate 16 0)) _ HR.out.range Tryz.underlying31 rfl map_size rfl ⟨rfl, HB.out⟩
set_option maxRecDepth 100000 in
set_option maxHeartbeats 8000000 in
theorem rmove_in (m : List Nat) (hm : MapOk m) (f t : Nat) (hf : f < 16) (ht : t < 16) (hne : f ≠ t) (w : World) :
    Calls Tryz.prog 93 #[mapV m, .int .i64 (f : Int), .int .i64 (t : Int)] w fun e w' => e = .returned (moveIn m f t ((movedTo m 16).testBit f || (movedTo m 16).testBit t)) ∧ Below w.heap.size w w' := by
  have HM := Lib.hid hm
  have HV := Lib.hid (fun w => rmoved_ok m hm w)
  have HH1 := Lib.hid (fun w => hasb_ok (movedTo m 16) (movedTo_lt m 16 (by omega)) f hf w)
  have HH2 := Lib.hid (fun w => hasb_ok (movedTo m 16) (movedTo_lt m 16 (by omega)) t ht w)
  generalize movedTo m 16 = s at HV HH1 HH2 ⊢
  generalize s.testBit f = b1 at HH1 ⊢
  generalize s.testBit t = b2 at HH2 ⊢
  obtain ⟨W0, hW0⟩ : ∃ W0 : World, W0 = (w.alloc (.cells (mapC m).toArray 31)).alloc (.cells (mapC (List.replicate 16 0)).toArray 31) := ⟨_, rfl⟩
  have hs0 : W0.heap.size = w.heap.size + 2 := by rw [hW0]; simp
  have hB0 : Below w.heap.size w W0 := by rw [hW0]; exact below_new (below_fresh w _) _
  have hI0 : MapIn w.heap.size m W0 := by rw [hW0]; exact heap_alloc2_old w _ _
  have hR0 : MapIn (w.heap.size + 1) (List.replicate 16 0) W0 := by
    have := heap_alloc_new (w.alloc (.cells (mapC m).toArray 31)) (.cells (mapC (List.replicate 16 0)).toArray 31)
    rw [World.size_alloc] at this
    rw [hW0]
    exact this
  have HK : Hid (∀ W : World, Below W0.heap.size W0 W → W0.heap.size ≤ W.heap.size ∧ MapIn w.heap.size m W ∧ MapIn (w.heap.size + 1) (List.replicate 16 0) W ∧ Below w.heap.size w W) := Lib.hid (fun W hb => ⟨hb.size, hI0.below hb (by omega), hR0.below hb (by omega), hB0.trans (hb.mono (by omega))⟩)
  have h1 : ¬ (f : Int) < 0 := by omega
  have h2 : ¬ (15 : Int) < (f : Int) := by omega
  have h3 : ¬ (t : Int) < 0 := by omega
  have h4 : ¬ (15 : Int) < (t : Int) := by omega
  have h5 : ¬ (f : Int) = (t : Int) := by omega
  have h6 : ((f : Int) == (t : Int)) = false := by simpa using h5
  have HW0 := Lib.hid hW0
  have HS0 := Lib.hid hs0
  clear hW0 hs0 hB0 hI0 hR0 hm hne
  have HLZ := Lib.hid (show (mapC (List.replicate 16 0)).length = 16 from rfl)
  have HLM := Lib.hid (show (mapC m).length = 16 from (mapC_len m).trans HM.out.1)
  unfold mapV at HV ⊢
  cases b1 with
  | true =>
    go_enter Tryz.func93, Tryz.ntmps93
    go_wp2_with (first
      | (refine wpList_load_want 31 (.tmp 3) rfl (by kernel_rfl) w.heap.size 0 rfl (mapC m) _ (MapIn.range (heap_alloc2_old w _ _)) Tryz.underlying31 rfl (by rw [HLM.out]; exact map_size) ?_)
      | (go_at_call 145; refine (HV.out _).mono ?_; rintro e w1 ⟨rfl, hb1⟩; have hb2 : Below W0.heap.size W0 w1 := (by rw [HW0.out]; exact hb1); have HK2 := Lib.hid (HK.out w1 hb2); have hth := HK2.out.2.2.1.there rfl; clear hb1 hb2)
      | (go_at_call 100; refine (HH1.out _).mono ?_; rintro e w1' ⟨rfl, hw1⟩; obtain rfl := hw1.symm)
      | (refine wpList_store_mid rfl 31 _ _ rfl (w.heap.size + 1) 0 (mapC (List.replicate 16 0)).toArray rfl rfl hth map_size (all_oneCell_toArray (mapC_one _)) ?_))
    exact ret_cell_tmp rfl (w.heap.size + 1) 0 rfl (mapC (List.replicate 16 0)) _ (MapIn.setCells HK2.out.2.2.1 rfl rfl).range Tryz.underlying31 rfl map_size rfl ⟨rfl, below_setCells HK2.out.2.2.2 (by omega) _ _⟩
  | false =>
    have HK' : Hid (∀ W W' : World, Below W0.heap.size W0 W → Below W.heap.size W W' → Below W0.heap.size W0 W') := Lib.hid (fun W W' hb hb' => hb.trans (hb'.mono hb.size))
    cases b2 with
    | true =>
      go_enter Tryz.func93, Tryz.ntmps93
      go_wp2_with (first
        | (refine wpList_load_want 31 (.tmp 3) rfl (by kernel_rfl) w.heap.size 0 rfl (mapC m) _ (by first | exact HK2.out.2.1.range | exact MapIn.range (heap_alloc2_old w _ _)) Tryz.underlying31 rfl (by rw [HLM.out]; exact map_size) ?_)
        | (go_at_call 145; refine (HV.out _).mono ?_; rintro e w1 ⟨rfl, hb1⟩; have hb2 : Below W0.heap.size W0 w1 := (by first | exact HK'.out _ _ HB2.out hb1 | (rw [HW0.out]; exact hb1)); have HB2 := Lib.hid hb2; have HK2 := Lib.hid (HK.out w1 hb2); have hth := HK2.out.2.2.1.there rfl; clear hb1 hb2)
        | (go_at_call 100; have _h := HH1; refine (HH1.out _).mono ?_; clear _h HH1; rintro e w1' ⟨rfl, hw1⟩; obtain rfl := hw1.symm)
        | (go_at_call 100; refine (HH2.out _).mono ?_; rintro e w1' ⟨rfl, hw1⟩; obtain rfl := hw1.symm)
        | (refine wpList_store_mid rfl 31 _ _ rfl (w.heap.size + 1) 0 (mapC (List.replicate 16 0)).toArray rfl rfl hth map_size (all_oneCell_toArray (mapC_one _)) ?_))
      exact ret_cell_tmp rfl (w.heap.size + 1) 0 rfl (mapC (List.replicate 16 0)) _ (MapIn.setCells HK2.out.2.2.1 rfl rfl).range Tryz.underlying31 rfl map_size rfl ⟨rfl, below_setCells HK2.out.2.2.2 (by omega) _ _⟩
    | false =>
      go_enter Tryz.func93, Tryz.ntmps93
      go_wp2_with (first
        | (refine wpList_load_want 31 (.tmp 3) rfl (by kernel_rfl) w.heap.size 0 rfl (mapC m) _ (by first | exact HK2.out.2.1.range | exact MapIn.range (heap_alloc2_old w _ _)) Tryz.underlying31 rfl (by rw [HLM.out]; exact map_size) ?_)
        | (go_at_call 145; refine (HV.out _).mono ?_; rintro e w1 ⟨rfl, hb1⟩; have hb2 : Below W0.heap.size W0 w1 := (by first | exact HK'.out _ _ HB2.out hb1 | (rw [HW0.out]; exact hb1)); have HB2 := Lib.hid hb2; have HK2 := Lib.hid (HK.out w1 hb2); clear hb1 hb2)
        | (go_at_call 100; have _h := HH1; refine (HH1.out _).mono ?_; clear _h HH1; rintro e w1' ⟨rfl, hw1⟩; obtain rfl := hw1.symm)
        | (go_at_call 100; refine (HH2.out _).mono ?_; rintro e w1' ⟨rfl, hw1⟩; obtain rfl := hw1.symm))
      go_loopw [8] (fun i wr => ∃ (k : Nat) (m' : List Nat), i = .int .i64 (k : Int) ∧ k ≤ 16 ∧ Hid (m' = (m.take k).map (put1 f t) ++ m.drop k) ∧ Hid (MapOk m') ∧ Hid (MapIn w.heap.size m' wr) ∧ Hid (MapIn (w.heap.size + 1) (List.replicate 16 0) wr) ∧ Hid (Below w.heap.size w wr)) (fun i _ => 16 - (intOf i).toNat)
      case atStart => exact ⟨0, m, rfl, by omega, Lib.hid (by simp), HM, Lib.hid HK2.out.2.1, Lib.hid HK2.out.2.2.1, Lib.hid HK2.out.2.2.2⟩
      case round =>
        obtain ⟨k, m', rfl, hk, hP, hM, hI, hR, hW⟩ := hrel
        by_cases hk16 : k = 16
        · subst hk16
          have hlm : (mapC m').length = 16 := (mapC_len m').trans hM.out.1
          have hsz : (mapC m').toArray.size = 16 := by rw [List.size_toArray]; exact hlm
          have HE := Lib.hid (MapIn.setCells hR.out rfl hM.out.1).range
          have hth := hR.out.there rfl
          go_wp2_with (first
            | (refine wpList_load_want 31 (.tmp 3) rfl (by kernel_rfl) w.heap.size 0 rfl (mapC m') _ hI.out.range Tryz.underlying31 rfl (by rw [hlm]; exact map_size) ?_)
            | (refine wpList_store_mid rfl 31 _ _ rfl (w.heap.size + 1) 0 (mapC m').toArray rfl rfl (by rw [hsz]; exact hth) (by rw [hsz]; exact map_size) (all_oneCell_toArray (mapC_one _)) ?_))
          exact ret_cell_tmp rfl (w.heap.size + 1) 0 rfl (mapC m') _ HE.out Tryz.underlying31 rfl (by rw [hlm]; exact map_size) rfl ⟨by have e : m' = m.map (put1 f t) := (by rw [hP.out, List.take_of_length_le (by rw [HM.out.1]; omega), List.drop_of_length_le (by rw [HM.out.1]; omega), List.append_nil]); rw [e]; rfl, below_setCells hW.out (by omega) _ _⟩
        · have hkl : k < 16 := by omega
          have hki : (k : Int) < 16 := by omega
          have hkm : k < m'.length := by rw [hM.out.1]; exact hkl
          have hc := hI.out.cell k hkm
          have hfz := (hI.out.there hM.out.1 k hkl).2
          rw [Nat.zero_add] at hfz
          have hkm0 : k < m.length := by rw [HM.out.1]; exact hkl
          obtain ⟨u, hu⟩ : ∃ u, u = m'[k] := ⟨_, rfl⟩
          have hum : u = m[k] := by
            rw [hu]
            simp only [hP.out]
            exact part_at m _ k hkm0 _
          have HS : Hid (∀ x, put1 f t u = x → m'.set k x = (m.take (k + 1)).map (put1 f t) ++ m.drop (k + 1)) := Lib.hid (fun x hx => by rw [hP.out]; exact part_set m _ k x hkm0 (by rw [← hum]; exact hx))
          have HT : Hid (put1 f t u = u → m' = (m.take (k + 1)).map (put1 f t) ++ m.drop (k + 1)) := Lib.hid (fun hx => by rw [hP.out, part_here m _ k hkm0, part_next m _ k hkm0, ← hum, hx])
          have hu16 : u < 16 := by rw [hu]; exact hM.out.get k hkm
          rw [← hu] at hc
          have hw64 : wrap64 (u : Int) = (u : Int) := by unfold wrap64; omega
          clear hk16 hu hum
          by_cases he : u = f
          · have hg : ((u : Int) == (f : Int)) = true := by simpa using (show (u : Int) = (f : Int) by omega)
            have HN := Lib.hid (hI.out.set k t)
            have HO := Lib.hid (hR.out.other w.heap.size k (.int .u8 (t : Int)) (by omega))
            have HP := Lib.hid (hM.out.set k ht)
            have HX := Lib.hid (HS.out t (by unfold put1; rw [if_pos he]))
            have HQ := Lib.hid (hW.out.setCell (p := ⟨w.heap.size, k, none⟩) (Nat.le_refl _) (.int .u8 (t : Int)))
            go_wp2_with fail
            go_roundw
            case rel => exact ⟨k + 1, _, by go_num, by omega, HX, HP, HN, HO, HQ⟩
            case measure => simp [intOf]; omega
          · have he1 : ¬ (u : Int) = (f : Int) := by omega
            have hg : ((u : Int) == (f : Int)) = false := by simpa using he1
            have HX := Lib.hid (HT.out (by unfold put1; rw [if_neg he]))
            go_wp2_with fail
            go_roundw
            case rel => exact ⟨k + 1, m', by go_num, by omega, HX, hM, hI, hR, hW⟩
            case measure => simp [intOf]; omega
end Go.Proofs.YtlmacaenbililaaGreatDoor
