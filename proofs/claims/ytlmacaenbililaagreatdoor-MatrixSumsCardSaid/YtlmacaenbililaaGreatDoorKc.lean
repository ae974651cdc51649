/- A region that draws its order, in a round of a range over a function: by the law of one that stands outside. Package policy: the tags of some roles, a role's capabilities. A region that draws its order, walked along a list whose last operation, behind all others, may leave the class of worlds. Package matrix: Of (a range over a function that collects rows). No conditions. -/
import Derived.Test.YtlmacaenbililaaGreatDoorKr
import Derived.Test.YtlmacaenbililaaGreatDoorIn
import Derived.Test.YtlmacaenbililaaGreatDoorKd
import Derived.Test.YtlmacaenbililaaGreatDoorKe
namespace Go.Proofs.YtlmacaenbililaaGreatDoor
open Go.RowKit
section
variable {P : Program} {ops : Array Oper} {Q : Exit → Act → World → Prop} {md : Region.Mode}
def noDeferB (l : List Oper) : Bool := l.all fun o => match o.op with | .defer _ => false | _ => true
theorem opIn_of {l n : Nat} {o : Oper} (hd : ∀ c, o.op ≠ .defer c) {a : Act} {w : World} {K : Act → World → Prop} (h : o.wp P a w K Q) : o.wpIn (Fence.wide.inRound l) n P a w K Q := by
  refine ⟨fun _ _ => trivial, ?_⟩
  unfold Oper.wp at h
  rw [semAt_of hd]
  generalize (execOp a.eval o).run P w = r at *
  cases r with
  | ok x w' =>
    cases x <;> simp only [Oper.upon, Oper.uponIn] at h ⊢
    case value => exact h
    case skip => exact h
    case defer => exact h
    case enter f args => exact ⟨(fun h => by cases h), CallsIn.inRound l (callsIn_wide.2 h)⟩
    case row r args =>
      refine ⟨(fun h => by cases h), fun c cs _ => ?_⟩
      obtain ⟨v, w'', hr, hs⟩ := h c cs
      exact ⟨v, w'', hr, stepsIn_wide.2 hs⟩
  | halt x w' => cases x <;> simp only [Oper.upon, Oper.uponIn] at h ⊢ <;> exact h
theorem any_in_round {l n : Nat} (hd : ∀ (i : Nat) (o : Oper) c, ops[i]? = some o → o.op ≠ .defer c) (hQ : ¬ LetsOut Q) : ∀ (fuel : Nat) (listed : Array Bool) (a : Act) (w : World), wpAny P md ops Q fuel listed a w → wpAnyIn (Fence.wide.inRound l) n P md ops Q fuel listed a w
  | 0, listed, a, w, h => h
  | fuel + 1, listed, a, w, h => by
    refine ⟨h.1, fun i hi => ?_⟩
    have h2 := wpOp_mono (fun a w h => any_in_round (l := l) (n := n) hd hQ fuel _ a w h) (h.2 i hi)
    unfold wpOp at h2
    unfold wpOpIn
    split
    · rename_i he
      simpa [he] using h2
    · rename_i o ho
      simp only [ho] at h2
      split
      · rename_i hw
        simp only [hw, if_true] at h2
        rcases h2 with h2 | h2
        · exact opIn_of (fun c => hd i o c ho) h2
        · exact absurd h2.2 hQ
      · rename_i hw
        simp only [hw] at h2
        exact ⟨fun _ _ => trivial, h2⟩
theorem noDefer_at {L : List Oper} (h : noDeferB L = true) (i : Nat) (o : Oper) (c : Call) (ho : L.toArray[i]? = some o) : o.op ≠ .defer c := by
  intro e
  rw [List.getElem?_toArray] at ho
  have := List.all_eq_true.1 h o (List.mem_of_getElem? ho)
  rw [e] at this
  cases this
theorem wpIn_region_ord {l n id : Nat} {a : Act} {w : World} {L : List Oper} (T ord : List Nat) (C : World → Prop) (hm : P.follows .mixedOrders = true) (hs : Region.noSelect L.toArray = true) (hd : noDeferB L = true) (hlen : ord.length = L.length)
    (hB : ordB .any L.toArray T ord (Array.replicate L.toArray.size false) = true) (hQ : ¬ LetsOut Q) (hC : C w.drew) (h : wpO P L.toArray C T Q ord a w.drew) : (Code.region id L.toArray true).wpIn (Fence.wide.inRound l) n P Q a w := by
  refine wpIn_region_any hm (any_in_round (noDefer_at hd) hQ _ _ _ _ ?_)
  have := any_of_G _ _ _ _ hC (G_of_O (md := .any) hs ord _ a w.drew hC hB h)
  rw [hlen] at this
  simpa using this
end
theorem wpIn_region_over_tail {l₀ n₀ : Nat} {P : Program} {id : Nat} {Q : Exit → Act → World → Prop} {a : Act} {w : World} {l : List Oper} (n : Nat) (hm : P.follows .mixedOrders = true) (hB : Region.lexTailB .any l.toArray n = true)
    (hd : noDeferB l = true) (hQ : ¬ LetsOut Q) (h : wpQuiet P l.toArray (fun w' => ∃ X, w' = over w X) (fun a' => ∀ w', (∃ X, w' = over w X) → wpList P l.toArray Q (l.drop n) a' w') (l.take n) a) : (Code.region id l.toArray true).wpIn (Fence.wide.inRound l₀) n₀ P Q a w := by
  simp only [Region.lexTailB, Bool.and_eq_true, decide_eq_true_eq] at hB
  obtain ⟨⟨⟨⟨hsel, hn⟩, hs⟩, hc⟩, hlex⟩ := hB
  have hn' : n < l.length := by simpa using hn
  have htl : (l.take n).length = n := by simp; omega
  have hdl : (l.drop n).length = l.toArray.size - n := by simp
  have inv0 : HeadInv .any l.toArray n (Array.replicate l.toArray.size false) :=
    ⟨by simp, fun j oj _ hl => (by rw [getD_replicate_false] at hl; cases hl), fun t _ ht => getD_in (by simpa using ht) (getD_replicate_false _ _)⟩
  have H := head_lex (P := P) (C := fun w' => ∃ X, w' = over w X) (md := .any) (g := l.toArray.size - n) hsel hs hc hn (l.take n) 0 _ a (fun j hj => by
    have hj' : j < n := by rw [htl] at hj; exact hj
    simp [hj']) (by simpa using htl) inv0 (by rw [htl]; exact hlex) h
  refine wpIn_region_any hm (any_in_round (noDefer_at hd) hQ _ _ _ _ ?_)
  have := any_of_head (Q' := Q) (g := l.toArray.size - n) (fun listed a' w' hw' hL => by
    have := wpAny_of_seq (md := .any) (Q' := Q) (l.drop n) n listed a' w' (fun j => by simp [List.getElem?_drop]) (by rw [hdl]; exact hL.1) (hL.2 w' hw')
    rwa [hdl] at this) _ _ _ _ (YtlmacaenbililaaGreatDoor.over_of ((Below.refl w.heap.size w).drew)) H
  rw [htl, show n + (l.toArray.size - n) = l.toArray.size from by omega] at this
  exact this
end Go.Proofs.YtlmacaenbililaaGreatDoor
namespace Go.Proofs.YtlmacaenbililaaGreatDoor
open Go.RowKit Go.Shelf
set_option linter.unusedSimpArgs false
set_option linter.unusedVariables false
attribute [local go_sem] cell_over frozen_over

theorem info_u8s : (Tryz.prog.info? 28).map (·.size) = some 16 := by kernel_rfl
theorem u8C_len (l : List Nat) : (Pol.u8C l).length = l.length := by simp [Pol.u8C]
theorem u8C_get {l : List Nat} {r : Nat} (hr : r < l.length) : (Pol.u8C l)[r]? = some (.int .u8 (l.getD r 0 : Int)) := by
  unfold Pol.u8C
  rw [List.getElem?_map, List.getElem?_eq_getElem hr, List.getD_eq_getElem?_getD, List.getElem?_eq_getElem hr]
  rfl
theorem index_u8 (l : List Nat) (hl : l.length = 16) (k : Nat) (hk : k < 16) (W : World) : (Instr.index 28 (.agg (Pol.u8C l).toArray) (.int .i64 (k : Int))).run Tryz.prog W = .ok (.int .u8 (l.getD k 0 : Int)) W := by
  have h := u8C_get (l := l) (r := k) (by omega)
  have hs : (Pol.u8C l).length = 16 := by rw [u8C_len, hl]
  simp [Instr.index, run_underlying Tryz.underlying28, go_sem, h, hs]
  intro h; omega
/-- The owners lie together. -/
theorem PolIn.owners {b : Nat} {p : Pol.P} {W : World} (h : PolIn b p W) (hp : Pol.Ok p) : W.rangeAt b 49 (Pol.u8C p.owner) := fun j v hv => by
  have hj : j < 16 := by
    have := (List.getElem?_eq_some_iff.1 hv).1
    rw [u8C_len, hp.nowner] at this
    exact this
  rw [h.cell (49 + j) (Pol.cell_own hp hj)]
  rw [u8C_get (by rw [hp.nowner]; exact hj)] at hv
  exact hv
theorem PolIn.actsAt {b : Nat} {p : Pol.P} {W : World} (h : PolIn b p W) (hp : Pol.Ok p) : W.rangeAt b 33 (Pol.u16C p.acts) := fun j v hv => h.cell (33 + j) (Pol.acts_at hp j v hv)
set_option maxRecDepth 100000 in
set_option maxHeartbeats 4000000 in
theorem powned_ok (p : Pol.P) (hp : Pol.Ok p) (s : Nat) (hs : s < 65536) (w : World) :
    Calls Tryz.prog 109 #[Pol.val p, .int .u16 (s : Int)] w fun e w' => e = .returned (.int .u16 (Pol.owned p s : Int)) ∧ Below w.heap.size w w' := by
  have HE0 := Lib.hid (show PolIn w.heap.size p (w.alloc (.cells (Pol.cells p).toArray 30)) from heap_alloc_new w _)
  have HB0 := Lib.hid (below_fresh w (.cells (Pol.cells p).toArray 30))
  have HR := Lib.hid (HE0.out.owners hp)
  have hl16 : (Pol.u8C p.owner).length = 16 := by rw [u8C_len, hp.nowner]
  have HOK := Lib.hid hp
  have HH := Lib.hid (fun t w => has_ok s hs t w)
  clear hp
  unfold Pol.val
  go_enter Tryz.func109, Tryz.ntmps109
  go_wp2_with (refine wpList_load_mid rfl 28 (.tmp 8) rfl w.heap.size 49 rfl (Pol.u8C p.owner) _ HR.out Tryz.underlying28 rfl (by rw [hl16]; exact info_u8s) ?_)
  go_loopw [5, 10] (fun o i wr => ∃ (k v : Nat), i = .int .i64 (k : Int) ∧ o = .int .u16 (v : Int) ∧ k ≤ 16 ∧ Hid (v = Pol.setTo (fun t => Tag.has s (Pol.own p t : Int)) k) ∧ wr = w.alloc (.cells (Pol.cells p).toArray 30)) (fun _ i _ => 16 - (intOf i).toNat)
  case atStart => exact ⟨0, 0, rfl, rfl, by omega, Lib.hid rfl, rfl⟩
  case round =>
    obtain ⟨k, v, rfl, rfl, hk, hv, rfl⟩ := hrel
    by_cases hk16 : k = 16
    · subst hk16
      have hr : v = Pol.owned p s := hv.out
      have HR := Lib.hid hr
      clear hr hv
      go_wp2_with fail
      go_ret
      exact ⟨by rw [HR.out]; rfl, HB0.out⟩
    · have hkl : k < 16 := by omega
      have hki : (k : Int) < 16 := by omega
      have hix := fun W => index_u8 p.owner HOK.out.nowner k hkl W
      have hol := Pol.own_lt HOK.out k
      have hvl : v < 65536 := by rw [hv.out]; exact Pol.setTo_lt _ k (by omega)
      have HT := Lib.hid (fun w => HH.out (Pol.own p k : Int) w)
      have hnx : Pol.setTo (fun t => Tag.has s (Pol.own p t : Int)) (k + 1) = if Tag.has s (Pol.own p k : Int) = true then v ||| 2 ^ k else v := by rw [hv.out]; rfl
      have HNX := Lib.hid hnx
      obtain ⟨u, hu⟩ : ∃ u, u = Pol.own p k := ⟨_, rfl⟩
      have hu2 : p.owner.getD k 0 = u := hu.symm
      simp only [hu2] at hix
      rw [← hu] at hol HT HNX
      have hwu : IntKind.i64.wrap (u : Int) = (u : Int) := IntWalk.i64_in _ (by omega)
      have HOR := or_shift hvl hkl
      clear hv hnx hu hu2 hk16
      generalize Tag.has s (u : Int) = d at HT HNX
      cases d with
      | false =>
        have HN : Hid (v = Pol.setTo (fun t => Tag.has s (Pol.own p t : Int)) (k + 1)) := Lib.hid (by rw [HNX.out]; simp)
        clear HNX HOR
        go_wp2_with (go_at_call 118; refine (HT.out _).mono ?_; rintro e w' ⟨rfl, hw'⟩; obtain rfl := hw'.symm)
        go_roundw
        case rel => exact ⟨k + 1, v, by go_num, rfl, by omega, HN, trivial⟩
        case measure => simp [intOf]; omega
      | true =>
        have HN : Hid (v ||| 2 ^ k = Pol.setTo (fun t => Tag.has s (Pol.own p t : Int)) (k + 1)) := Lib.hid (by rw [HNX.out]; simp)
        obtain ⟨v', hv'⟩ : ∃ v', v' = v ||| 2 ^ k := ⟨_, rfl⟩
        rw [← hv'] at HN HOR
        have HOR := Lib.hid HOR
        clear HNX hv'
        go_wp2_with (go_at_call 118; refine (HT.out _).mono ?_; rintro e w' ⟨rfl, hw'⟩; obtain rfl := hw'.symm)
        go_roundw
        case rel => exact ⟨k + 1, v', by go_num, rfl, by omega, HN, trivial⟩
        case measure => simp [intOf]; omega
theorem slice_int1 (x : Int) (W : World) : (Instr.buildSlice 58 1 #[(0, .int .i64 x)]).run Tryz.prog W = .ok (.slice (some ⟨W.heap.size, 0, none⟩) 1 1) (W.alloc (.cells #[.int .i64 x] 3)) := by kernel_rfl
theorem ints_new' (W : World) (t : TypeId) (u : Int) : IntsAt (W.alloc (.cells #[.int .i64 u] t)) (some ⟨W.heap.size, 0, none⟩) [u] := .inr ⟨W.heap.size, 0, rfl, fun i hi => by
  obtain rfl : i = 0 := by simp at hi; omega
  exact cell_of_row (W.alloc (.cells #[.int .i64 u] t)) _ 0 _ _ _ (heap_alloc_new W _)⟩
set_option maxRecDepth 100000 in
set_option maxHeartbeats 4000000 in
theorem pdown_ok (p : Pol.P) (hp : Pol.Ok p) (r : Int) (la : Lab.L) (hla : Lab.ok la) (w : World) (hT : TabAt w) :
    Calls Tryz.prog 172 #[Pol.val p, .int .i64 r, labV la] w fun e w' => e = .returned (.int .u16 (Pol.downOf p r la : Int)) ∧ Below w.heap.size w w' := by
  have hE0 : PolIn w.heap.size p ((w.alloc (.cells (Pol.cells p).toArray 30)).alloc (.cells #[.int .u16 (la.1 : Int), .int .u16 (la.2 : Int)] 25)) := block_below (below_fresh _ _) (heap_alloc_new w _)
  have hL0 := heap_alloc_new (w.alloc (.cells (Pol.cells p).toArray 30)) (.cells #[.int .u16 (la.1 : Int), .int .u16 (la.2 : Int)] 25)
  rw [World.size_alloc] at hL0
  have hB0 : Below w.heap.size w ((w.alloc (.cells (Pol.cells p).toArray 30)).alloc (.cells #[.int .u16 (la.1 : Int), .int .u16 (la.2 : Int)] 25)) := below_new (below_fresh _ _) _
  obtain ⟨w9, hw9⟩ : ∃ w9, w9 = ((w.alloc (.cells (Pol.cells p).toArray 30)).alloc (.cells #[.int .u16 (la.1 : Int), .int .u16 (la.2 : Int)] 25)) := ⟨_, rfl⟩
  rw [← hw9] at hE0 hL0 hB0
  have HT := Lib.hid (hT.below hB0)
  have HB0 := Lib.hid hB0
  have HE0 := Lib.hid hE0
  have HA := Lib.hid (show ∀ W : World, (∃ X, W = over w9 X) → W.rangeAt w.heap.size 33 (Pol.u16C p.acts) from by
    rintro W ⟨X, rfl⟩
    exact rangeAt_over (hE0.actsAt hp))
  have HP := Lib.hid (show ∀ W : World, (∃ X, W = over w9 X) → W.rangeAt w.heap.size 0 (Pol.cells p) from by
    rintro W ⟨X, rfl⟩
    exact rangeAt_over hE0.range)
  obtain ⟨c1, c2, c3, c4⟩ := pair_cells hL0
  have hcl := World.block_lt_of_cell? w9 _ c1
  have hl16 : (Pol.u16C p.acts).length = 16 := by rw [u16C_len, hp.nacts]
  have hl66 := Pol.cells_len hp
  have HSN := Lib.hid (fun w h => pseen_ok p hp la hla w h)
  have HDN := Lib.hid (fun w h => gdown_ok p.acts hp.nacts hp.acts (Tag.of [r]) (Pol.seen p la) (Tag.of_lt _) (Pol.seen_lt _ _) w h)
  have HOF := Lib.hid (fun A W' (hA : IntsAt W' A [r]) => of_ok A 1 [r] (by simp) W' hA)
  have HW9 := Lib.hid hw9
  clear hp hla hT hE0 hL0 hB0 hw9
  obtain ⟨l1, l2⟩ := la
  unfold Pol.val
  go_enter Tryz.func172, Tryz.ntmps172
  go_wp2_with fail
  rw [← HW9.out]
  unfold Pol.val labV at HSN
  unfold labV
  simp only at HSN ⊢
  refine wp_region_ord [3, 4, 7, 8] [0, 1, 2, 5, 6, 3, 4, 7, 8, 9] (fun W => ∃ X, W = over w9 X) (by kernel_rfl) (by kernel_rfl) rfl (by kernel_rfl) (over_of (Below.refl _ _).drew) ?_
  have HW0 := Lib.hid ((Below.refl w9.heap.size w9).drew)
  iterate 5
      refine wpO_one (by simp only [List.getElem?_toArray, List.getElem?_cons_zero, List.getElem?_cons_succ]; exact rfl) (by kernel_rfl) ?_
      (first
        | (go_big_quiet_want; refine quiet_load_mid 27 (.tmp 7) rfl w.heap.size 33 rfl (Pol.u16C p.acts) _ (fun W' h => HA.out W' (by obtain ⟨s, rfl⟩ := h; exact s.property)) Tryz.underlying27 rfl (by rw [hl16]; exact info_u16s) ?_; go_big_quiet_on; simp only [Act.put, List.setIfInBounds_toArray, List.set_cons_succ, List.set_cons_zero])
        | (go_big_quiet_want; refine quiet_load_mid 30 (.tmp 3) rfl w.heap.size 0 rfl (Pol.cells p) _ (fun W' h => HP.out W' (by obtain ⟨s, rfl⟩ := h; exact s.property)) Tryz.underlying30 rfl (by rw [hl66]; exact info_pol) ?_; go_big_quiet_on; simp only [Act.put, List.setIfInBounds_toArray, List.set_cons_succ, List.set_cons_zero])
        | go_big_quiet_step (fail)
        | (go_big_quiet_want; go_big_quiet_op; refine ⟨_, fun _ _ _ => rfl, ?_⟩; go_big_quiet_on))
      refine wpQuiet_nil ?_
  refine wpO_run rfl rfl rfl (fun K hK => ?_)
  have hx := slice_int1
  go_simp
  have HW1 := Lib.hid (below_new HW0.out (.cells #[.int .i64 r] 3))
  have HI1 := Lib.hid (ints_new' w9.drew 3 r)
  refine ⟨over_of HW1.out, hK _ _ ?_⟩
  clear hK K hx
  simp only [Act.put, List.setIfInBounds_toArray, List.set_cons_succ, List.set_cons_zero]
  refine wpO_run rfl rfl rfl (fun K hK => ?_)
  go_simp
  refine (HOF.out _ _ HI1.out).mono ?_
  rintro e W ⟨rfl, hw⟩
  obtain rfl := hw.symm
  refine ⟨_, rfl, over_of HW1.out, hK _ _ ?_⟩
  clear hK K
  simp only [Act.put, List.setIfInBounds_toArray, List.set_cons_succ, List.set_cons_zero]
  refine wpO_run rfl rfl rfl (fun K hK => ?_)
  go_simp
  refine (HSN.out _ (HT.out.below HW1.out)).mono ?_
  rintro e W2 ⟨rfl, hb⟩
  have HW2 := Lib.hid (below_here HW1.out hb)
  clear hb
  refine ⟨_, rfl, over_of HW2.out, hK _ _ ?_⟩
  clear hK K
  simp only [Act.put, List.setIfInBounds_toArray, List.set_cons_succ, List.set_cons_zero]
  refine wpO_run rfl rfl rfl (fun K hK => ?_)
  go_simp
  refine (HDN.out _ (HT.out.below HW2.out)).mono ?_
  rintro e W3 ⟨rfl, hb⟩
  have HW3 := Lib.hid (below_here HW2.out hb)
  clear hb
  refine ⟨_, rfl, over_of HW3.out, hK _ _ ?_⟩
  clear hK K
  simp only [Act.put, List.setIfInBounds_toArray, List.set_cons_succ, List.set_cons_zero]
  iterate 1
    refine wpO_one (by simp only [List.getElem?_toArray, List.getElem?_cons_zero, List.getElem?_cons_succ]; exact rfl) (by kernel_rfl) ?_
    (first
      | go_big_quiet_step (fail)
      | (go_big_quiet_want; go_big_quiet_op; refine ⟨_, fun _ _ _ => rfl, ?_⟩; go_big_quiet_on))
    refine wpQuiet_nil ?_
  refine wpO_nil ?_
  go_wp2_with fail
  go_ret
  exact ⟨rfl, below_here HB0.out HW3.out⟩
set_option maxRecDepth 100000 in
set_option maxHeartbeats 4000000 in
theorem pcaps_ok (p : Pol.P) (hp : Pol.Ok p) (r : Int) (la : Lab.L) (hla : Lab.ok la) (w : World) (hT : TabAt w) :
    Calls Tryz.prog 110 #[Pol.val p, .int .i64 r, labV la] w fun e w' => e = .returned (.int .u16 (Pol.caps p r la : Int)) ∧ Below w.heap.size w w' := by
  have hE0 : PolIn w.heap.size p ((w.alloc (.cells (Pol.cells p).toArray 30)).alloc (.cells #[.int .u16 (la.1 : Int), .int .u16 (la.2 : Int)] 25)) := block_below (below_fresh _ _) (heap_alloc_new w _)
  have hL0 := heap_alloc_new (w.alloc (.cells (Pol.cells p).toArray 30)) (.cells #[.int .u16 (la.1 : Int), .int .u16 (la.2 : Int)] 25)
  rw [World.size_alloc] at hL0
  have hB0 : Below w.heap.size w ((w.alloc (.cells (Pol.cells p).toArray 30)).alloc (.cells #[.int .u16 (la.1 : Int), .int .u16 (la.2 : Int)] 25)) := below_new (below_fresh _ _) _
  obtain ⟨w9, hw9⟩ : ∃ w9, w9 = ((w.alloc (.cells (Pol.cells p).toArray 30)).alloc (.cells #[.int .u16 (la.1 : Int), .int .u16 (la.2 : Int)] 25)) := ⟨_, rfl⟩
  rw [← hw9] at hE0 hL0 hB0
  have HT := Lib.hid (hT.below hB0)
  have HB0 := Lib.hid hB0
  have ca := hE0.cell 65 (Pol.cell_active hp)
  have HP := Lib.hid (show ∀ W : World, (∃ X, W = over w9 X) → W.rangeAt w.heap.size 0 (Pol.cells p) from by
    rintro W ⟨X, rfl⟩
    exact rangeAt_over hE0.range)
  obtain ⟨c1, c2, c3, c4⟩ := pair_cells hL0
  have hcl := World.block_lt_of_cell? w9 _ c1
  have hcl0 := World.block_lt_of_cell? w9 _ ca
  have hl66 := Pol.cells_len hp
  have HDN := Lib.hid (fun w h => pdown_ok p hp r la hla w h)
  have hD : Pol.downOf p r la < 65536 := Gr.down_lt (Tag.of_lt _)
  have HON := Lib.hid (fun w => powned_ok p hp (Pol.downOf p r la) hD w)
  have HAND := u16_and (Pol.owned p (Pol.downOf p r la)) p.active (Pol.owned_lt _ _) hp.active
  have HW9 := Lib.hid hw9
  clear hp hla hT hE0 hL0 hB0 hw9 hD
  obtain ⟨l1, l2⟩ := la
  unfold Pol.val labV at HDN
  unfold Pol.val at HON
  unfold Pol.val labV
  simp only at HDN ⊢
  have HR : Hid (Pol.caps p r (l1, l2) = Pol.owned p (Pol.downOf p r (l1, l2)) &&& p.active) := Lib.hid rfl
  generalize Pol.downOf p r (l1, l2) = D at HDN HON HAND HR
  generalize Pol.owned p D = O at HON HAND HR
  generalize O &&& p.active = R at HAND HR
  go_enter Tryz.func110, Tryz.ntmps110
  go_wp2_with fail
  rw [← HW9.out]
  refine wp_region_over (by kernel_rfl) (by kernel_rfl) ?_
  repeat (first
    | (go_big_quiet_want; refine quiet_load_mid 30 (.tmp 3) rfl w.heap.size 0 rfl (Pol.cells p) _ HP.out Tryz.underlying30 rfl (by rw [hl66]; exact info_pol) ?_; go_big_quiet_on; simp only [Act.put, List.setIfInBounds_toArray, List.set_cons_succ, List.set_cons_zero])
    | go_big_quiet_step (first
      | (go_at_call 172; exact Calls.over_of (HDN.out _ (HT.out.below (over_below _ _))))
      | (go_at_call 109; exact Calls.over_of (HON.out _))))
  refine wpQuiet_nil ?_
  intro W7 hW7
  have hb7 := below_of_over hW7
  have HB7 := Lib.hid (below_here HB0.out hb7)
  clear hW7 hb7
  go_wp2_with fail
  go_ret
  exact ⟨by rw [HR.out]; rfl, HB7.out⟩
end Go.Proofs.YtlmacaenbililaaGreatDoor
namespace Go.Proofs.YtlmacaenbililaaGreatDoor
open Go.RowKit

section
variable {P : Program} {ops : Array Oper} {md : Region.Mode} {C : World → Prop}
def clsAt (C : World → Prop) (z j : Nat) : World → Prop := if j = z then fun _ => True else C
/-- z stands directly behind each other operation. -/
def lastB (md : Region.Mode) (ops : Array Oper) (z : Nat) : Bool := match ops[z]? with
  | some o => (List.range ops.size).all fun i => i == z || o.after.any fun e => Region.binds md e && e.on == i
  | none => false
theorem last_spec {z : Nat} (h : lastB md ops z = true) {L : Array Bool} (hz : z ∈ Region.ready md ops L) {j : Nat} (hj : j < ops.size) (hne : j ≠ z) : L.getD j false = true := by
  obtain ⟨_, o, ho, hall⟩ := mem_ready.1 hz
  unfold lastB at h
  rw [ho] at h
  have h1 := List.all_eq_true.1 h j (List.mem_range.2 hj)
  simp only [Bool.or_eq_true, beq_iff_eq, Array.any_eq_true', Bool.and_eq_true] at h1
  rcases h1 with h1 | ⟨e, he, hb, heq⟩
  · exact absurd h1 hne
  · have := hall e he hb
    rwa [heq] at this
theorem last_alone {z : Nat} (h : lastB md ops z = true) {L : Array Bool} (hz : z ∈ Region.ready md ops L) {j : Nat} (hj : j ∈ Region.ready md ops L) : j = z := by
  refine Classical.byContradiction fun hne => ?_
  obtain ⟨hjun, oj, hoj, _⟩ := mem_ready.1 hj
  have h1 := last_spec h hz (Array.getElem?_eq_some_iff.1 hoj).1 hne
  rw [getD_both hjun] at h1
  cases h1
theorem last_after {z : Nat} (h : lastB md ops z = true) {L : Array Bool} (hz : z ∈ Region.ready md ops L) : Region.ready md ops (L.setIfInBounds z true) = [] := by
  refine List.eq_nil_iff_forall_not_mem.2 fun j hj => ?_
  obtain ⟨hjun, oj, hoj, _⟩ := mem_ready.1 hj
  by_cases e : j = z
  · subst e
    obtain ⟨hzun, _⟩ := mem_ready.1 hz
    have hb : j < L.size := by
      refine Classical.byContradiction fun hc => ?_
      rw [Array.getD_eq_getD_getElem?, Array.getElem?_eq_none (by omega)] at hzun
      cases hzun
    rw [Array.getD_eq_getD_getElem?, Array.getElem?_setIfInBounds_self_of_lt hb] at hjun
    cases hjun
  · have h1 := last_spec h hz (Array.getElem?_eq_some_iff.1 hoj).1 e
    rw [getD_set_ne true (Ne.symm e)] at hjun
    rw [getD_both hjun] at h1
    cases h1
def anyL (P : Program) (md : Region.Mode) (ops : Array Oper) (C : World → Prop) (z : Nat) (Q : Exit → Act → World → Prop) : Nat → Array Bool → Act → World → Prop
  | 0, L, a, w => Region.ready md ops L = [] ∧ Q .normal a w
  | f + 1, L, a, w => Region.ready md ops L ≠ [] ∧ ∀ i ∈ Region.ready md ops L, opG P ops (clsAt C z i) i (anyL P md ops C z Q f (L.setIfInBounds i true)) a w
theorem any_of_L {z : Nat} (hl : lastB md ops z = true) {Q : Exit → Act → World → Prop} : ∀ (f : Nat) (L : Array Bool) (a : Act) (w : World), C w → anyL P md ops C z Q f L a w → wpAny P md ops Q f L a w
  | 0, _, _, _, _, h => ⟨h.1, h.2⟩
  | f + 1, L, _, w, hw, h => ⟨fun h0 => absurd h0 h.1, fun i hi => by
    have h2 := h.2 i hi
    unfold clsAt at h2
    by_cases e : i = z
    · subst e
      rw [if_pos rfl] at h2
      refine wpOp_of_opG (C := fun _ => True) trivial (fun a' w' _ h' => ?_) h2
      have h0 := last_after hl hi
      cases f with
      | zero => exact ⟨h'.1, h'.2⟩
      | succ f => exact absurd h0 h'.1
    · rw [if_neg e] at h2
      exact wpOp_of_opG hw (fun a' w' hw' h' => any_of_L hl f _ a' w' hw' h') h2⟩
theorem L_first {z : Nat} (hl : lastB md ops z = true) {Q : Exit → Act → World → Prop} {i : Nat} {oi : Oper} {v : Value} (hiz : i ≠ z) (hi : ops[i]? = some oi) (hsel : ∀ (j : Nat) (o : Oper) cs b, ops[j]? = some o → o.op ≠ .select cs b) :
    ∀ (f : Nat) (listed : Array Bool) (a : Act) (w : World), C w →
      (∀ j oj, ops[j]? = some oj → j ≠ i → listed.getD j true = false → (∀ e ∈ oj.after, Region.binds md e = true → e.on ≠ i) → oi.apart ops oj = true) →
      i ∈ Region.ready md ops listed → Still P ops C oi v a → anyL P md ops C z Q f (listed.setIfInBounds i true) (a.put oi.dst v) w → anyL P md ops C z Q (f + 1) listed a w := by
  intro f
  induction f with
  | zero =>
    intro listed a w hw _ hr hy H
    refine ⟨fun h => (by rw [h] at hr; cases hr), fun j hj => ?_⟩
    by_cases hji : j = i
    · subst hji
      unfold clsAt
      rw [if_neg hiz]
      exact hy.opG hi hw H
    · have := ready_mono hj hji
      rw [H.1] at this
      cases this
  | succ f ih =>
    intro listed a w hw hfree hr hy H
    refine ⟨fun h => (by rw [h] at hr; cases hr), fun j hj => ?_⟩
    by_cases hji : j = i
    · subst hji
      unfold clsAt
      rw [if_neg hiz]
      exact hy.opG hi hw H
    · have hjz : j ≠ z := fun e => by
        subst e
        exact hji (last_alone hl hj hr).symm
      have h1 := H.2 j (ready_mono hj hji)
      unfold clsAt at h1 ⊢
      rw [if_neg hjz] at h1 ⊢
      obtain ⟨hjun, oj, hoj, hall⟩ := mem_ready.1 hj
      have hnot : ∀ e ∈ oj.after, Region.binds md e = true → e.on ≠ i := fun e he hb heq => by
        have h1 := hall e he hb
        rw [heq, getD_both (mem_ready.1 hr).1] at h1
        cases h1
      have hap := hfree j oj hoj hji hjun hnot
      have h2 := opG_put hoj hap (fun cs b => hsel j oj cs b hoj) h1
      have hfree' : ∀ k ok, ops[k]? = some ok → k ≠ i → (listed.setIfInBounds j true).getD k true = false → (∀ e ∈ ok.after, Region.binds md e = true → e.on ≠ i) → oi.apart ops ok = true := fun k ok hk hki hun hno => by
        refine hfree k ok hk hki ?_ hno
        by_cases hjk : j = k
        · subst hjk; exact hjun
        · rw [getD_set_ne true hjk] at hun; exact hun
      have h3 := opG_and (R := fun a' => Still P ops C oi v a') hoj (fun u => hy.put hap (fun cs b => hsel i oi cs b hi)) h2
      refine opG_mono hw (fun a' w' hw' h4 => ih (listed.setIfInBounds j true) a' w' hw' hfree' (ready_mono hr (Ne.symm hji)) h4.1 ?_) h3
      rw [Array.setIfInBounds_comm _ _ hji]
      exact h4.2
def ordLB (md : Region.Mode) (ops : Array Oper) (z : Nat) (T : List Nat) : List Nat → Array Bool → Bool
  | [], L => (Region.ready md ops L).isEmpty
  | i :: r, L => (if T.contains i then Region.ready md ops L == [i] && (i != z || r.isEmpty) else (Region.ready md ops L).contains i && Region.free md ops L i && i != z) && ordLB md ops z T r (L.setIfInBounds i true)
def wpL (P : Program) (ops : Array Oper) (C : World → Prop) (z : Nat) (T : List Nat) (Q : Exit → Act → World → Prop) : List Nat → Act → World → Prop
  | [], a, w => Q .normal a w
  | i :: r, a, w => if T.contains i then opG P ops (clsAt C z i) i (wpL P ops C z T Q r) a w else ∃ o v, ops[i]? = some o ∧ Still P ops C o v a ∧ wpL P ops C z T Q r (a.put o.dst v) w
theorem L_of_wpL {z : Nat} (hl : lastB md ops z = true) {T : List Nat} {Q : Exit → Act → World → Prop} (hs : Region.noSelect ops = true) : ∀ (l : List Nat) (L : Array Bool) (a : Act) (w : World), C w → ordLB md ops z T l L = true → wpL P ops C z T Q l a w → anyL P md ops C z Q l.length L a w
  | [], L, a, w, _, hB, h => ⟨by simpa [ordLB] using hB, h⟩
  | i :: r, L, a, w, hw, hB, h => by
    simp only [ordLB, Bool.and_eq_true] at hB
    unfold wpL at h
    by_cases hT : T.contains i = true
    · rw [if_pos hT] at hB h
      simp only [Bool.and_eq_true, Bool.or_eq_true, bne_iff_ne, ne_eq, List.isEmpty_iff] at hB
      have hr : Region.ready md ops L = [i] := by simpa using hB.1.1
      refine ⟨by rw [hr]; simp, fun j hj => ?_⟩
      rw [hr] at hj
      obtain rfl : j = i := by simpa using hj
      by_cases e : j = z
      · have hnil : r = [] := hB.1.2.resolve_left (fun h => h e)
        subst hnil
        unfold clsAt at h ⊢
        rw [if_pos e] at h ⊢
        exact opG_mono (C := fun _ => True) trivial (fun a' w' _ h' => ⟨by simpa [ordLB] using hB.2, h'⟩) h
      · unfold clsAt at h ⊢
        rw [if_neg e] at h ⊢
        exact opG_mono hw (fun a' w' hw' h' => L_of_wpL hl hs r _ a' w' hw' hB.2 h') h
    · rw [if_neg hT] at hB h
      simp only [Bool.and_eq_true, bne_iff_ne, ne_eq] at hB
      obtain ⟨⟨⟨hr, hf⟩, hiz⟩, hB2⟩ := hB
      obtain ⟨o, v, ho, hy, hn⟩ := h
      exact L_first hl hiz ho (Region.noSelect_spec hs) r.length L a w hw (Region.free_spec ho hf) (by simpa using hr) hy (L_of_wpL hl hs r _ _ w hw hB2 hn)
theorem wp_region_last {id : Nat} {Q : Exit → Act → World → Prop} {a : Act} {w : World} {l : List Oper} (z : Nat) (T ord : List Nat) (C : World → Prop) (hm : P.follows .mixedOrders = true) (hs : Region.noSelect l.toArray = true) (hl : lastB .any l.toArray z = true) (hlen : ord.length = l.length)
    (hB : ordLB .any l.toArray z T ord (Array.replicate l.toArray.size false) = true) (hC : C w.drew) (h : wpL P l.toArray C z T Q ord a w.drew) : (Code.region id l.toArray true).wp P Q a w := by
  refine wp_region_any hm ?_
  have := any_of_L hl _ _ _ _ hC (L_of_wpL (md := .any) hl hs ord _ a w.drew hC hB h)
  rw [hlen] at this
  simpa using this
theorem wpIn_region_last {l₀ n₀ id : Nat} {Q : Exit → Act → World → Prop} {a : Act} {w : World} {l : List Oper} (z : Nat) (T ord : List Nat) (C : World → Prop) (hm : P.follows .mixedOrders = true) (hs : Region.noSelect l.toArray = true) (hd : noDeferB l = true) (hl : lastB .any l.toArray z = true) (hlen : ord.length = l.length)
    (hB : ordLB .any l.toArray z T ord (Array.replicate l.toArray.size false) = true) (hQ : ¬ LetsOut Q) (hC : C w.drew) (h : wpL P l.toArray C z T Q ord a w.drew) : (Code.region id l.toArray true).wpIn (Fence.wide.inRound l₀) n₀ P Q a w := by
  refine wpIn_region_any hm (any_in_round (noDefer_at hd) hQ _ _ _ _ ?_)
  have := any_of_L hl _ _ _ _ hC (L_of_wpL (md := .any) hl hs ord _ a w.drew hC hB h)
  rw [hlen] at this
  simpa using this
theorem wpL_one {z : Nat} {T : List Nat} {Q : Exit → Act → World → Prop} {w : World} {i : Nat} {r : List Nat} {a : Act} {o : Oper} (ho : ops[i]? = some o) (hT : T.contains i = false) (hp : plainOp o.op = true)
    (h : wpQuiet P ops (fun w' => ∃ s : { w : World // C w }, w' = s.1) (fun a' => wpL P ops C z T Q r a' w) [o] a) : wpL P ops C z T Q (i :: r) a w := by
  unfold wpL
  rw [if_neg (by rw [hT]; exact Bool.false_ne_true)]
  unfold wpQuiet at h
  split at h
  · rename_i hw
    obtain ⟨v, hv, hn⟩ := h
    exact ⟨o, v, ho, still_of_quiet hp hw (fun w hc => ⟨⟨w, hc⟩, rfl⟩) hv, hn⟩
  · rename_i hw
    exact ⟨o, undef, ho, .inr ⟨by simpa using hw, rfl⟩, h⟩
theorem wpL_run {z : Nat} {T : List Nat} {Q : Exit → Act → World → Prop} {w : World} {i : Nat} {r : List Nat} {a : Act} {o : Oper} (hiz : (i == z) = false) (hT : T.contains i = true) (ho : ops[i]? = some o) (hw : Region.wanted o (yielded ops a.tmps) = true)
    (h : ∀ K : Act → World → Prop, (∀ a w, wpL P ops C z T Q r a w → K a w) → runsTo P C o a K ((execOp a.eval o).run P w)) : wpL P ops C z T Q (i :: r) a w := by
  unfold wpL
  rw [if_pos hT]
  unfold clsAt
  rw [if_neg (by simpa using hiz)]
  exact ⟨o, ho, .inl ⟨hw, h _ (fun _ _ h => h)⟩⟩
theorem wpL_last {z : Nat} {T : List Nat} {Q : Exit → Act → World → Prop} {w : World} {a : Act} {o : Oper} (hT : T.contains z = true) (ho : ops[z]? = some o) (hw : Region.wanted o (yielded ops a.tmps) = true)
    (h : ∀ K : Act → World → Prop, (∀ a w, Q .normal a w → K a w) → runsTo P (fun _ => True) o a K ((execOp a.eval o).run P w)) : wpL P ops C z T Q [z] a w := by
  unfold wpL
  rw [if_pos hT]
  unfold clsAt
  rw [if_pos rfl]
  exact ⟨o, ho, .inl ⟨hw, h _ (fun _ _ h => h)⟩⟩
/-- An append among them. -/
theorem wpL_append {z₀ : Nat} {T : List Nat} {Q : Exit → Act → World → Prop} {w : World} {k : Nat} {r : List Nat} {a : Act} {o : Oper} (hiz : (k == z₀) = false) (hT : T.contains k = true) (ho : ops[k]? = some o) (hw : Region.wanted o (yielded ops a.tmps) = true)
    (s x : Operand) (t : TypeId) (hop : o.op = .call { callee := .builtin .append, args := #[s, x], argTypes := #[t, t] })
    (base : Nat) (e : TypeId) (i : TypeInfo) (z : Value) (size bytes : Nat) (ht : P.underlying t = some (.slice e)) (hi : P.info? e = some i) (hz : i.zero = some z)
    (hsize : i.size = size) (hby : i.bytes = bytes) (hzs : z.cells.size = size) (hsz : 0 < size)
    (v : Value) (n : Nat) (xs : List Value) (hs : a.eval s = v) (hown : w.ownsRow base e size v n xs)
    (ad : Addr) (m c : Nat) (news : List Value) (hx : a.eval x = .slice (some ad) m c) (hl : news.length = m * size) (hnews : ∀ j u, news[j]? = some u → w.cell? (ad.add j) = some u) (h1 : ∀ u ∈ news, u.oneCell' = true)
    (h63 : n + m ≤ maxLen) (hbytes : (n + m) * bytes ≤ 140737488355328) (hbase : base ≤ w.heap.size)
    (h : ∀ v' w', w'.ownsRow base e size v' (n + m) (xs ++ news) → w.grownBy w' v.ownBlock → C w' ∧ wpL P ops C z₀ T Q r (a.put o.dst v') w') : wpL P ops C z₀ T Q (k :: r) a w :=
  wpL_run hiz hT ho hw fun K hK => by
    obtain ⟨v', w', hr, h2, h3, h4⟩ := run_append_own (P := P) w base t o.type e i z size bytes ht hi hz hsize hby hzs hsz v n xs hown ad m c news hl hnews h1 h63 hbytes hbase
    unfold execOp
    simp only [hop, resolve, invoke, builtin, Sem.run_bind, Sem.run_pure, Result.andThen_ok, List.map_toArray, List.map_cons, List.map_nil, hs, hx, hr]
    exact ⟨(h v' w' h2 h3).1, hK _ _ (h v' w' h2 h3).2⟩
end
open Classical in
noncomputable def inC (C : World → Prop) (w0 X : World) : World := if C X then X else w0
theorem inC_prop {C : World → Prop} {w0 : World} (h : C w0) (X : World) : C (inC C w0 X) := by
  unfold inC; split
  · assumption
  · exact h
theorem inC_of {C : World → Prop} {w0 W : World} (h : C W) : ∃ X, W = inC C w0 X := ⟨W, by simp [inC, h]⟩
end Go.Proofs.YtlmacaenbililaaGreatDoor
namespace Go.Proofs.YtlmacaenbililaaGreatDoor
open Go.RowKit Go.Shelf
set_option linter.unusedSimpArgs false
set_option linter.unusedVariables false
attribute [local go_sem] cell_over frozen_over Oper.semAt_some

theorem info_mrow3 : (Tryz.prog.info? 87).map (fun i => (i.zero, i.size, i.bytes)) = some (some (.agg #[.int .i64 0, .int .u16 0, .int .u16 0, .int .u16 0, .int .u16 0, .int .u16 0, .int .u16 0]), 7, 24) := by kernel_rfl
theorem slice_mrow (r : Mt.R) (W : World) : (Instr.buildSlice 76 1 #[(0, .agg (mtC r).toArray)]).run Tryz.prog W = .ok (.slice (some ⟨W.heap.size, 0, none⟩) 1 1) (W.alloc (.cells (mtC r).toArray 87)) := by kernel_rfl
theorem mrow_build6 (n : Int) (q1 q2 u d o c : Nat) (W : World) : (Instr.build 87 #[(0, .int .i64 n), (1, .agg #[.int .u16 (q1 : Int), .int .u16 (q2 : Int)]), (2, .int .u16 (u : Int)), (3, .int .u16 (d : Int)), (4, .int .u16 (o : Int)), (5, .int .u16 (c : Int))]).run Tryz.prog W = .ok (.agg (mtC (n, (q1, q2), u, d, o, c)).toArray) W := by kernel_rfl
theorem mtC_one' (r : Mt.R) : ∀ v ∈ mtC r, v.oneCell' = true := by
  intro v hv
  unfold mtC at hv
  simp only [List.mem_cons, List.not_mem_nil, or_false] at hv
  rcases hv with rfl | rfl | rfl | rfl | rfl | rfl | rfl <;> rfl
theorem own_base {w : World} {base base' n size : Nat} {e : TypeId} {v : Value} {xs : List Value} (h : w.ownsRow base e size v n xs) (hb : base' ≤ base) : w.ownsRow base' e size v n xs := by
  refine ⟨h.1, ?_⟩
  rcases h.2 with h | ⟨g, cap, cur, h1, h2, h3⟩
  · exact .inl h
  · exact .inr ⟨g, cap, cur, h1, Nat.le_trans hb h2, h3⟩
/-- The cells of some roles' rows. -/
def rowsC (p : Pol.P) (by_ : Lab.L) (l : List Nat) : List Value := l.flatMap fun r => mtC (Pol.row p by_ r)
theorem rowsC_snoc (p : Pol.P) (by_ : Lab.L) (l : List Nat) (x : Nat) : rowsC p by_ (l ++ [x]) = rowsC p by_ l ++ mtC (Pol.row p by_ x) := by
  unfold rowsC
  rw [List.flatMap_append]
  simp
set_option maxRecDepth 100000 in
set_option maxHeartbeats 8000000 in
theorem mtof_ok (p : Pol.P) (hp : Pol.Ok p) (la : Lab.L) (hla : Lab.ok la) (w : World) (hT : TabAt w) :
    Calls Tryz.prog 44 #[Pol.val p, labV la] w fun e w' => ∃ v, e = .returned v ∧ w'.ownsRow w.heap.size 87 7 v (Pol.rows p la).length (rowsC p la (Tag.tags (Pol.seen p la))) ∧ Below w.heap.size w w' := by
  have hE0 : PolIn w.heap.size p ((w.alloc (.cells (Pol.cells p).toArray 30)).alloc (.cells #[.int .u16 (la.1 : Int), .int .u16 (la.2 : Int)] 25)) := block_below (below_fresh _ _) (heap_alloc_new w _)
  have hL0 := heap_alloc_new (w.alloc (.cells (Pol.cells p).toArray 30)) (.cells #[.int .u16 (la.1 : Int), .int .u16 (la.2 : Int)] 25)
  rw [World.size_alloc] at hL0
  have hB0 : Below w.heap.size w ((w.alloc (.cells (Pol.cells p).toArray 30)).alloc (.cells #[.int .u16 (la.1 : Int), .int .u16 (la.2 : Int)] 25)) := below_new (below_fresh _ _) _
  have hz0 : ((w.alloc (.cells (Pol.cells p).toArray 30)).alloc (.cells #[.int .u16 (la.1 : Int), .int .u16 (la.2 : Int)] 25)).heap.size = w.heap.size + 2 := by simp
  have HT0 := Lib.hid (hT.below hB0)
  have HE0 := Lib.hid hE0
  have HL0 := Lib.hid hL0
  have HB0 := Lib.hid hB0
  have HZ0 := Lib.hid hz0
  have hBt := hT.lt
  have HOK := Lib.hid hp
  have HLA := Lib.hid hla
  have HSN := Lib.hid (fun w h => pseen_ok p hp la hla w h)
  have hl66 := Pol.cells_len hp
  obtain ⟨sv, hsv⟩ : ∃ sv, sv = Pol.seen p la := ⟨_, rfl⟩
  have hsl : sv < 65536 := by rw [hsv]; exact Pol.seen_lt _ _
  have HSV := Lib.hid hsv
  rw [← hsv] at HSN
  clear hp hla hT hE0 hL0 hB0 hz0 hsv
  refine (callsIn_wide (n := 9)).1 ?_
  refine callsIn_of_wp_marks Tryz.func44 rfl trivial ?_ rfl
  refine wpIn_wide.2 ?_
  simp only [Tryz.ntmps44, List.size_toArray, List.length_cons, List.length_nil, Nat.reduceAdd, Nat.reduceSub, Array.replicate_succ, Array.replicate_zero, List.push_toArray, List.append_toArray, List.nil_append, List.cons_append]
  obtain ⟨l1, l2⟩ := la
  unfold Pol.val labV at HSN
  unfold Pol.val labV
  simp only at HSN HT0 HE0 HL0 HB0 HZ0 ⊢
  go_wp2_with (first
    | (refine wpList_load_mid rfl 30 (.tmp 2) rfl w.heap.size 0 rfl (Pol.cells p) _ HE0.out.range Tryz.underlying30 rfl (by rw [hl66]; exact info_pol) ?_)
    | (go_at_call 104; refine (HSN.out _ HT0.out).mono ?_; rintro e w1 ⟨rfl, hb1⟩; have HB1 := Lib.hid hb1; clear hb1)
    | (go_at_call 105; refine (each_ok sv _).mono ?_; rintro e w' ⟨rfl, hw'⟩; obtain rfl := hw'.symm))
  have hE5 : PolIn w.heap.size p (((w1.alloc (.cells #[.int .u16 (sv : Int)] 23)).alloc (.cells #[.slice none 0 0] 76)).alloc (.cells #[.int .u16 (sv : Int)] 23)) := block_below (below_fresh _ _) (block_below (below_fresh _ _) (block_below (below_fresh _ _) (block_below HB1.out HE0.out)))
  have hL5 : (((w1.alloc (.cells #[.int .u16 (sv : Int)] 23)).alloc (.cells #[.slice none 0 0] 76)).alloc (.cells #[.int .u16 (sv : Int)] 23)).heap[w.heap.size + 1]? = some (.cells #[.int .u16 (l1 : Int), .int .u16 (l2 : Int)] 25 (0, 0)) := block_below (below_fresh _ _) (block_below (below_fresh _ _) (block_below (below_fresh _ _) (block_below HB1.out HL0.out)))
  have hS5 : Boxed (((w1.alloc (.cells #[.int .u16 (sv : Int)] 23)).alloc (.cells #[.slice none 0 0] 76)).alloc (.cells #[.int .u16 (sv : Int)] 23)) w1.heap.size 23 (.int .u16 (sv : Int)) := ((Boxed.new w1 _ _).alloc _).alloc _
  have hO5 : Boxed (((w1.alloc (.cells #[.int .u16 (sv : Int)] 23)).alloc (.cells #[.slice none 0 0] 76)).alloc (.cells #[.int .u16 (sv : Int)] 23)) (w1.heap.size + 1) 76 (.slice none 0 0) := by
    have h1 := Boxed.new (w1.alloc (.cells #[.int .u16 (sv : Int)] 23)) 76 (.slice none 0 0)
    rw [World.size_alloc] at h1
    exact h1.alloc _
  have hX5 : Boxed (((w1.alloc (.cells #[.int .u16 (sv : Int)] 23)).alloc (.cells #[.slice none 0 0] 76)).alloc (.cells #[.int .u16 (sv : Int)] 23)) (w1.heap.size + 1 + 1) 23 (.int .u16 (sv : Int)) := by
    have h1 := Boxed.new ((w1.alloc (.cells #[.int .u16 (sv : Int)] 23)).alloc (.cells #[.slice none 0 0] 76)) 23 (.int .u16 (sv : Int))
    rw [World.size_alloc, World.size_alloc] at h1
    exact h1
  have hB5 : Below w.heap.size w (((w1.alloc (.cells #[.int .u16 (sv : Int)] 23)).alloc (.cells #[.slice none 0 0] 76)).alloc (.cells #[.int .u16 (sv : Int)] 23)) := below_new (below_new (below_new (below_here HB0.out HB1.out) _) _) _
  have hT5 := (HT0.out.below HB1.out).below (below_new (below_new (below_fresh w1 (.cells #[.int .u16 (sv : Int)] 23)) (.cells #[.slice none 0 0] 76)) (.cells #[.int .u16 (sv : Int)] 23))
  have hz5 : (((w1.alloc (.cells #[.int .u16 (sv : Int)] 23)).alloc (.cells #[.slice none 0 0] 76)).alloc (.cells #[.int .u16 (sv : Int)] 23)).heap.size = w1.heap.size + 3 := by simp
  have hw1 : w.heap.size + 1 < w1.heap.size := by have h1 := HB1.out.size; have h2 := HZ0.out; omega
  obtain ⟨W5, hW5⟩ : ∃ W5, W5 = (((w1.alloc (.cells #[.int .u16 (sv : Int)] 23)).alloc (.cells #[.slice none 0 0] 76)).alloc (.cells #[.int .u16 (sv : Int)] 23)) := ⟨_, rfl⟩
  rw [← hW5] at hE5 hL5 hS5 hO5 hX5 hB5 hT5 hz5
  rw [← hW5]
  have HE5 := Lib.hid hE5
  have HL5 := Lib.hid hL5
  have HS5 := Lib.hid hS5
  have HB5 := Lib.hid hB5
  have HT5 := Lib.hid hT5
  have HZ5 := Lib.hid hz5
  have hseq := each_seqF 8 (w1.heap.size + 1 + 1) sv (w1.heap.size + 1) hsl W5 (by omega) hX5 hT5
  obtain ⟨i0, hi, hzz0, hzz1, hzz2⟩ := info_parts info_mrow3
  have HI := Lib.hid hi
  have HI0 := Lib.hid hzz0
  have HI1 := Lib.hid hzz1
  have HI2 := Lib.hid hzz2
  have hl16 : (Pol.u16C p.acts).length = 16 := by rw [u16C_len, HOK.out.nacts]
  clear hW5 hE5 hL5 hS5 hB5 hT5 hz5 hX5 HB1 HE0 HL0 HT0 HB0 HZ0 HSN hi hzz0 hzz1 hzz2
  refine (wpIn_wide (n := 9)).1 (wpIn_rangeFunc_ownH rfl (by omega) (gf := 168) (lb := #[.pointer (some ⟨w1.heap.size + 1 + 1, 0, none⟩)]) rfl trivial (enters_of Tryz.func168 (by kernel_rfl) rfl)
    hseq keepsLow_t (keepsLow_b (by have := HZ5.out; omega)) (Below.refl _ _) (fun _ => rfl)
    (fun pre W => (∃ v, Boxed W (w1.heap.size + 1) 76 v ∧ W.ownsRow (w1.heap.size + 1 + 1) 87 7 v pre.length (rowsC p (l1, l2) (pre.map (fun z : Fin 16 => z.val))) ∧ True) ∧ Below (w1.heap.size + 1) W5 W)
    (fun _ _ _ => False)
    (OwnFrom.and (Own.from (holdsRow_own (w1.heap.size + 1 + 1) (w1.heap.size + 1) 76 87 7 (fun pre : List (Fin 16) => pre.length) (fun pre : List (Fin 16) => rowsC p (l1, l2) (pre.map (fun z : Fin 16 => z.val))) (fun _ _ => True)) _) (ownFrom_below (by have := HZ5.out; omega) (by have := HZ5.out; omega)))
    (fun _ _ _ _ _ hs _ _ => hs)
    ⟨⟨_, hO5, World.ownsRow_nil _ _ _ _, trivial⟩, Below.refl _ _⟩
    (fun x a' W => a' = { tmps := #[Value.agg (Pol.cells p).toArray, .agg #[.int .u16 (l1 : Int), .int .u16 (l2 : Int)], .pointer (some ⟨w.heap.size, 0, none⟩), .pointer (some ⟨w.heap.size + 1, 0, none⟩), .slice none 0 0, .pointer (some ⟨w1.heap.size, 0, none⟩), .pointer (some ⟨w1.heap.size + 1, 0, none⟩), .int .i64 (x.val : Int), undef, .agg (Pol.cells p).toArray, .agg #[.int .u16 (l1 : Int), .int .u16 (l2 : Int)], .int .u16 (sv : Int), .int .u16 (sv : Int), .func (.func 168) #[] #[.pointer (some ⟨w1.heap.size + 1 + 1, 0, none⟩)], .int .i64 (x.val : Int), undef, undef, undef, undef, undef, undef, undef, undef, undef, undef, undef, undef, undef, undef, undef, undef, undef, undef, undef, undef, undef, undef, undef, undef, undef, undef, undef, undef, undef, undef, undef, undef, undef], defers := [] })
    (fun x a' _ A B row hs hg hr => hs) ?assign ?body ?done ?stop)
  case assign =>
    rintro l pre x W K ⟨⟨v, hv, hrow, _⟩, hB⟩ hK
    simp only [List.zip_toArray, List.zip_cons_cons, List.zip_nil_right, List.foldl_toArray', List.foldl_cons, List.foldl_nil, List.setIfInBounds_toArray, List.set_cons_succ, List.set_cons_zero]
    gi_wp2
    exact hK _ _ ((KeepsOthers.refl _).from _) (fun _ _ => rfl) ⟨⟨v, hv, hrow, trivial⟩, hB⟩ rfl
  case body =>
    rintro l pre x a' W hl _ ⟨⟨v, hv, hrow, _⟩, hB⟩ rfl hlen
    obtain ⟨x, hx⟩ := x
    dsimp only
    have hpre : pre.length < 16 := by have := Tag.tags_le sv; omega
    have HOF := Lib.hid (fun A W' (hA : IntsAt W' A [(x : Int)]) => of_ok A 1 [(x : Int)] (by simp) W' hA)
    rw [Tag.of_one hx] at HOF
    have hrow' : Pol.row p (l1, l2) x = ((x : Int), Pol.lab p x, Gr.down (Gr.turn p.acts) sv (2 ^ x), Gr.down p.acts sv (2 ^ x), Pol.owned p (2 ^ x) &&& p.active, Pol.caps p (x : Int) (l1, l2)) := by rw [HSV.out]; rfl
    have hox := p16 hx
    obtain ⟨ox, hoxe⟩ : ∃ ox, ox = 2 ^ x := ⟨_, rfl⟩
    rw [← hoxe] at HOF hrow' hox
    clear hoxe
    have HUP := Lib.hid (fun w h => gup_ok p.acts HOK.out.nacts HOK.out.acts ox sv hox hsl w h)
    have HDN := Lib.hid (fun w h => gdown_ok p.acts HOK.out.nacts HOK.out.acts ox sv hox hsl w h)
    have HON := Lib.hid (fun w => powned_ok p HOK.out ox hox w)
    have HCP := Lib.hid (fun w h => pcaps_ok p HOK.out (x : Int) (l1, l2) HLA.out w h)
    have HAND := u16_and (Pol.owned p ox) p.active (Pol.owned_lt _ _) HOK.out.active
    unfold Pol.val at HON
    unfold Pol.val labV at HCP
    simp only at HCP
    obtain ⟨A0, c0, rfl⟩ : ∃ A c, v = .slice A pre.length c := by
      rcases hrow.2 with ⟨rfl, h⟩ | ⟨g, cap, cur, rfl, _⟩
      · exact ⟨none, 0, by rw [h]⟩
      · exact ⟨_, _, rfl⟩
    have hsz := hB.size
    have hnz := HZ5.out
    have HBW := Lib.hid hB
    have HV := Lib.hid hv
    have HRW := Lib.hid hrow
    clear hB hv hrow
    gi_wp2_with (first | (refine ⟨trivial, ?_⟩; refine (CallsIn.inRound l (callsIn_wide.2 (HOF.out _ _ (ints_new' W _ _)))).mono ?_; rintro e w3 ⟨rfl, hw3⟩; obtain rfl := hw3.symm))
    have hE : PolIn w.heap.size p W := (HBW.out.block _ (by omega)).trans HE5.out
    have hE9 : PolIn w.heap.size p (W.alloc (.cells #[.int .i64 (x : Int)] 3)) := block_below (below_fresh _ _) hE
    have hL9 := block_below (below_fresh W (.cells #[.int .i64 (x : Int)] 3)) ((HBW.out.block _ (by omega)).trans HL5.out)
    have hS9 : Boxed (W.alloc (.cells #[.int .i64 (x : Int)] 3)) w1.heap.size 23 (.int .u16 (sv : Int)) := Boxed.alloc ((HBW.out.block _ (by omega)).trans HS5.out) _
    have hV9 := HV.out.alloc (.cells #[.int .i64 (x : Int)] 3)
    have hT9 := (HT5.out.keep (N := w1.heap.size + 1) (by omega) (fun k hk => HBW.out.block k hk)).below (below_fresh W (.cells #[.int .i64 (x : Int)] 3))
    have hO9 := HRW.out.alloc (.cells #[.int .i64 (x : Int)] 3)
    have hW9 : Below (w1.heap.size + 1) W (W.alloc (.cells #[.int .i64 (x : Int)] 3)) := (Below.refl _ W).alloc (by omega) _
    have hK9 : KeepsOthers W (W.alloc (.cells #[.int .i64 (x : Int)] 3)) := KeepsOthers.alloc _ _
    obtain ⟨w9, hw9⟩ : ∃ w9, w9 = W.alloc (.cells #[.int .i64 (x : Int)] 3) := ⟨_, rfl⟩
    rw [← hw9] at hE9 hL9 hS9 hV9 hT9 hO9 hW9 hK9
    rw [← hw9]
    have n1 := hE9.lt
    have n4 := hV9.lt
    have hcls : ∀ X, Below (w1.heap.size + 1 + 1) w9 (inC (Below (w1.heap.size + 1 + 1) w9) w9 X) := fun X => inC_prop (Below.refl _ _) X
    have hHA : ∀ W : World, (∃ X, W = inC (Below (w1.heap.size + 1 + 1) w9) w9 X) → W.rangeAt w.heap.size 33 (Pol.u16C p.acts) := by
      rintro W ⟨X, rfl⟩
      exact PolIn.actsAt (((hcls X).block _ (by omega)).trans hE9) HOK.out
    have hHP : ∀ W : World, (∃ X, W = inC (Below (w1.heap.size + 1 + 1) w9) w9 X) → W.rangeAt w.heap.size 0 (Pol.cells p) := by
      rintro W ⟨X, rfl⟩
      exact PolIn.range (((hcls X).block _ (by omega)).trans hE9)
    have HA := Lib.hid hHA
    have HP := Lib.hid hHP
    have cls1 : ∀ X b o v, b < w1.heap.size + 1 + 1 → w9.cell? ⟨b, o, none⟩ = some v → (inC (Below (w1.heap.size + 1 + 1) w9) w9 X).cell? ⟨b, o, none⟩ = some v := fun X b o v hb h => ((hcls X).cell (p := ⟨b, o, none⟩) hb).trans h
    obtain ⟨c1', c2', c3', c4'⟩ := pair_cells hL9
    have c1 := fun X => cls1 X _ _ _ (by omega) c1'
    have c2 := fun X => cls1 X _ _ _ (by omega) c2'
    have hb1 := fun X => cls1 X _ _ _ (by omega) (hE9.lab1 HOK.out hx)
    have hb2 := fun X => cls1 X _ _ _ (by omega) (hE9.lab2 HOK.out hx)
    have ca := fun X => cls1 X _ _ _ (by omega) (hE9.cell 65 (Pol.cell_active HOK.out))
    have cs := fun X => cls1 X _ _ _ (by omega) hS9.cell
    have cv := fun X => cls1 X _ _ _ (by omega) hV9.cell
    clear c1' c2' c3' c4' cls1 hcls
    have HT9 := Lib.hid hT9
    have HV9 := Lib.hid hV9
    have HO9 := Lib.hid hO9
    have HW9 := Lib.hid hW9
    have HK9 := Lib.hid hK9
    have hxj : (x : Int) < 16 := by omega
    have hxi : (0 : Int) ≤ (x : Int) := by omega
    have HROW := Lib.hid hrow'
    clear hrow' hE hE9 hL9 hS9 hV9 hT9 hO9 hW9 hK9 hw9 hHA hHP
    generalize Pol.lab p x = q at hb1 hb2 HROW
    obtain ⟨q1, q2⟩ := q
    generalize Gr.down (Gr.turn p.acts) sv ox = UP at HUP HROW
    generalize Gr.down p.acts sv ox = DN at HDN HROW
    generalize Pol.owned p ox = ON at HON HAND HROW
    generalize Pol.caps p (x : Int) (l1, l2) = CP at HCP HROW
    generalize ON &&& p.active = OA at HAND HROW
    generalize p.active = AC at ca HAND
    have hbd := mrow_build6 (x : Int) q1 q2 UP DN OA CP
    -- REGION
    refine wpIn_region_last 29 [10, 15, 18, 25, 27, 28, 29] [0, 1, 2, 3, 4, 5, 6, 7, 8, 9, 11, 12, 13, 14, 16, 17, 19, 20, 22, 23, 24, 10, 15, 18, 21, 25, 26, 27, 28, 29] (fun W => ∃ X, W = inC (Below (w1.heap.size + 1 + 1) w9) w9 X) (by kernel_rfl) (by kernel_rfl) (by kernel_rfl) (by kernel_rfl) rfl (by kernel_rfl) (by rintro ⟨_, _, h⟩; exact h.elim) (inC_of ((Below.refl _ _).drew)) ?_
    have HW0 := Lib.hid ((Below.refl w9.heap.size w9).drew)
    iterate 21
      refine wpL_one (by simp only [List.getElem?_toArray, List.getElem?_cons_zero, List.getElem?_cons_succ]; exact rfl) (by kernel_rfl) (by kernel_rfl) ?_
      (first
        | (go_big_quiet_want; refine quiet_load_mid 27 (.tmp 24) rfl w.heap.size 33 rfl (Pol.u16C p.acts) _ (fun W' h => HA.out W' (by obtain ⟨s, rfl⟩ := h; exact s.property)) Tryz.underlying27 rfl (by rw [hl16]; exact info_u16s) ?_; go_big_quiet_on; simp only [Act.put, List.setIfInBounds_toArray, List.set_cons_succ, List.set_cons_zero])
        | (go_big_quiet_want; refine quiet_load_mid 27 (.tmp 29) rfl w.heap.size 33 rfl (Pol.u16C p.acts) _ (fun W' h => HA.out W' (by obtain ⟨s, rfl⟩ := h; exact s.property)) Tryz.underlying27 rfl (by rw [hl16]; exact info_u16s) ?_; go_big_quiet_on; simp only [Act.put, List.setIfInBounds_toArray, List.set_cons_succ, List.set_cons_zero])
        | (go_big_quiet_want; refine quiet_load_mid 30 (.tmp 2) rfl w.heap.size 0 rfl (Pol.cells p) _ (fun W' h => HP.out W' (by obtain ⟨s, rfl⟩ := h; exact s.property)) Tryz.underlying30 rfl (by rw [hl66]; exact info_pol) ?_; go_big_quiet_on; simp only [Act.put, List.setIfInBounds_toArray, List.set_cons_succ, List.set_cons_zero])
        | go_big_quiet_step (fail)
        | (go_big_quiet_want; go_big_quiet_op; refine ⟨_, fun _ _ _ => rfl, ?_⟩; go_big_quiet_on))
      refine wpQuiet_nil ?_
    refine wpL_run rfl rfl rfl rfl (fun K hK => ?_)
    go_simp
    refine (HUP.out _ (HT9.out.below HW0.out)).mono ?_
    rintro e W1 ⟨rfl, hb⟩
    have HW1 := Lib.hid (below_here HW0.out hb)
    clear hb
    refine ⟨_, rfl, inC_of (HW1.out.mono (by omega)), hK _ _ ?_⟩
    clear hK K
    simp only [Act.put, List.setIfInBounds_toArray, List.set_cons_succ, List.set_cons_zero]
    refine wpL_run rfl rfl rfl rfl (fun K hK => ?_)
    go_simp
    refine (HDN.out _ (HT9.out.below HW1.out)).mono ?_
    rintro e W2 ⟨rfl, hb⟩
    have HW2 := Lib.hid (below_here HW1.out hb)
    clear hb
    refine ⟨_, rfl, inC_of (HW2.out.mono (by omega)), hK _ _ ?_⟩
    clear hK K
    simp only [Act.put, List.setIfInBounds_toArray, List.set_cons_succ, List.set_cons_zero]
    refine wpL_run rfl rfl rfl rfl (fun K hK => ?_)
    go_simp
    refine (HON.out _).mono ?_
    rintro e W3 ⟨rfl, hb⟩
    have HW3 := Lib.hid (below_here HW2.out hb)
    clear hb
    refine ⟨_, rfl, inC_of (HW3.out.mono (by omega)), hK _ _ ?_⟩
    clear hK K
    simp only [Act.put, List.setIfInBounds_toArray, List.set_cons_succ, List.set_cons_zero]
    iterate 1
      refine wpL_one (by simp only [List.getElem?_toArray, List.getElem?_cons_zero, List.getElem?_cons_succ]; exact rfl) (by kernel_rfl) (by kernel_rfl) ?_
      (first
        | (go_big_quiet_want; refine quiet_load_mid 27 (.tmp 24) rfl w.heap.size 33 rfl (Pol.u16C p.acts) _ (fun W' h => HA.out W' (by obtain ⟨s, rfl⟩ := h; exact s.property)) Tryz.underlying27 rfl (by rw [hl16]; exact info_u16s) ?_; go_big_quiet_on; simp only [Act.put, List.setIfInBounds_toArray, List.set_cons_succ, List.set_cons_zero])
        | (go_big_quiet_want; refine quiet_load_mid 27 (.tmp 29) rfl w.heap.size 33 rfl (Pol.u16C p.acts) _ (fun W' h => HA.out W' (by obtain ⟨s, rfl⟩ := h; exact s.property)) Tryz.underlying27 rfl (by rw [hl16]; exact info_u16s) ?_; go_big_quiet_on; simp only [Act.put, List.setIfInBounds_toArray, List.set_cons_succ, List.set_cons_zero])
        | (go_big_quiet_want; refine quiet_load_mid 30 (.tmp 2) rfl w.heap.size 0 rfl (Pol.cells p) _ (fun W' h => HP.out W' (by obtain ⟨s, rfl⟩ := h; exact s.property)) Tryz.underlying30 rfl (by rw [hl66]; exact info_pol) ?_; go_big_quiet_on; simp only [Act.put, List.setIfInBounds_toArray, List.set_cons_succ, List.set_cons_zero])
        | go_big_quiet_step (fail)
        | (go_big_quiet_want; go_big_quiet_op; refine ⟨_, fun _ _ _ => rfl, ?_⟩; go_big_quiet_on))
      refine wpQuiet_nil ?_
    refine wpL_run rfl rfl rfl rfl (fun K hK => ?_)
    go_simp
    refine (HCP.out _ (HT9.out.below HW3.out)).mono ?_
    rintro e W4 ⟨rfl, hb⟩
    have HW4 := Lib.hid (below_here HW3.out hb)
    clear hb
    refine ⟨_, rfl, inC_of (HW4.out.mono (by omega)), hK _ _ ?_⟩
    clear hK K
    simp only [Act.put, List.setIfInBounds_toArray, List.set_cons_succ, List.set_cons_zero]
    iterate 1
      refine wpL_one (by simp only [List.getElem?_toArray, List.getElem?_cons_zero, List.getElem?_cons_succ]; exact rfl) (by kernel_rfl) (by kernel_rfl) ?_
      (first
        | (go_big_quiet_want; refine quiet_load_mid 27 (.tmp 24) rfl w.heap.size 33 rfl (Pol.u16C p.acts) _ (fun W' h => HA.out W' (by obtain ⟨s, rfl⟩ := h; exact s.property)) Tryz.underlying27 rfl (by rw [hl16]; exact info_u16s) ?_; go_big_quiet_on; simp only [Act.put, List.setIfInBounds_toArray, List.set_cons_succ, List.set_cons_zero])
        | (go_big_quiet_want; refine quiet_load_mid 27 (.tmp 29) rfl w.heap.size 33 rfl (Pol.u16C p.acts) _ (fun W' h => HA.out W' (by obtain ⟨s, rfl⟩ := h; exact s.property)) Tryz.underlying27 rfl (by rw [hl16]; exact info_u16s) ?_; go_big_quiet_on; simp only [Act.put, List.setIfInBounds_toArray, List.set_cons_succ, List.set_cons_zero])
        | (go_big_quiet_want; refine quiet_load_mid 30 (.tmp 2) rfl w.heap.size 0 rfl (Pol.cells p) _ (fun W' h => HP.out W' (by obtain ⟨s, rfl⟩ := h; exact s.property)) Tryz.underlying30 rfl (by rw [hl66]; exact info_pol) ?_; go_big_quiet_on; simp only [Act.put, List.setIfInBounds_toArray, List.set_cons_succ, List.set_cons_zero])
        | go_big_quiet_step (fail)
        | (go_big_quiet_want; go_big_quiet_op; refine ⟨_, fun _ _ _ => rfl, ?_⟩; go_big_quiet_on))
      refine wpQuiet_nil ?_
    refine wpL_run rfl rfl rfl rfl (fun K hK => ?_)
    have hsl := slice_mrow ((x : Int), (q1, q2), UP, DN, OA, CP)
    go_simp
    clear hsl
    have HWB := Lib.hid (below_new HW4.out (.cells #[.int .i64 (x : Int), .int .u16 (q1 : Int), .int .u16 (q2 : Int), .int .u16 (UP : Int), .int .u16 (DN : Int), .int .u16 (OA : Int), .int .u16 (CP : Int)] 87))
    have HNB := Lib.hid (news_block (C := mtC ((x : Int), (q1, q2), UP, DN, OA, CP)) (heap_alloc_new W4 (.cells #[.int .i64 (x : Int), .int .u16 (q1 : Int), .int .u16 (q2 : Int), .int .u16 (UP : Int), .int .u16 (DN : Int), .int .u16 (OA : Int), .int .u16 (CP : Int)] 87)))
    have hzb : (W4.alloc (.cells #[.int .i64 (x : Int), .int .u16 (q1 : Int), .int .u16 (q2 : Int), .int .u16 (UP : Int), .int .u16 (DN : Int), .int .u16 (OA : Int), .int .u16 (CP : Int)] 87)).heap.size = W4.heap.size + 1 := World.size_alloc _ _
    refine ⟨inC_of (HWB.out.mono (by omega)), hK _ _ ?_⟩
    clear hK K
    simp only [Act.put, List.setIfInBounds_toArray, List.set_cons_succ, List.set_cons_zero]
    have HOB := Lib.hid (own_below HO9.out HWB.out)
    have hw4 := HW4.out.size
    generalize hWB : W4.alloc (.cells #[.int .i64 (x : Int), .int .u16 (q1 : Int), .int .u16 (q2 : Int), .int .u16 (UP : Int), .int .u16 (DN : Int), .int .u16 (OA : Int), .int .u16 (CP : Int)] 87) = WB at HWB HNB HOB hzb ⊢
    clear hWB
    refine wpL_append rfl rfl rfl rfl (.tmp 18) (.tmp 45) 76 rfl (w1.heap.size + 1 + 1) 87 i0 _ 7 24 Tryz.underlying76 HI.out HI0.out HI1.out HI2.out rfl (by decide) (.slice A0 pre.length c0) pre.length (rowsC p (l1, l2) (pre.map (fun z : Fin 16 => z.val))) (by simp [Act.eval, Act.put]) HOB.out ⟨W4.heap.size, 0, none⟩ 1 1 (mtC ((x : Int), (q1, q2), UP, DN, OA, CP)) (by simp [Act.eval, Act.put]) rfl HNB.out (mtC_one' _) (by unfold maxLen; omega) (by omega) (by omega) ?_
    intro v' w7 hown' hgrow
    have hgb : ∀ j, (Value.slice A0 pre.length c0).ownBlock = some j → w1.heap.size + 1 + 1 ≤ j := fun j h => own_at HOB.out j h
    have hC7 : Below (w1.heap.size + 1 + 1) w9 w7 := (HWB.out.mono (by omega)).grown hgrow (by have := HWB.out.size; omega) (fun j h => hgb j h)
    refine ⟨inC_of hC7, ?_⟩
    simp only [Act.put, List.setIfInBounds_toArray, List.set_cons_succ, List.set_cons_zero]
    have HOW := Lib.hid hown'
    have HGR := Lib.hid hgrow
    have HC7 := Lib.hid hC7
    have HGB := Lib.hid hgb
    have hv7 : Boxed w7 (w1.heap.size + 1) 76 (.slice A0 pre.length c0) := (hC7.block _ (by omega)).trans HV9.out
    have hc7 := hv7.cell
    have hf7 := hv7.frozen
    have hl7 := hv7.lt
    have HV7 := Lib.hid hv7
    clear hown' hgrow hgb hC7 hv7
    refine wpL_last rfl rfl rfl (fun K hK => ?_)
    obtain ⟨g', cap', rfl⟩ := ownsRow_succ HOW.out
    go_simp
    refine ⟨trivial, hK _ _ ?_⟩
    clear hK K
    simp only [Act.put, List.setIfInBounds_toArray, List.set_cons_succ, List.set_cons_zero]
    have hkf : KeepsOthers W (w7.setCell ⟨w1.heap.size + 1, 0, none⟩ (.slice (some ⟨g', 0, none⟩) (pre.length + 1) cap')) := by
      refine ((HK9.out.trans (KeepsOthers.of_grownBy (grown_below HWB.out none) (fun j o ej _ => by cases ej))).trans (KeepsOthers.of_grownBy HGR.out fun j o ej hj => ?_)).trans (KeepsOthers.setCell _ _ _)
      rcases HOB.out.2 with ⟨h0, _⟩ | ⟨g, cap, cur, h0, _, hgb, _⟩
      · rw [h0] at ej; simp [Value.ownBlock] at ej
      · rw [h0] at ej
        obtain rfl : g = j := by simpa [Value.ownBlock] using ej
        rw [hgb] at hj; cases hj; rfl
    have hlow : Below (w1.heap.size + 1) W (w7.setCell ⟨w1.heap.size + 1, 0, none⟩ (.slice (some ⟨g', 0, none⟩) (pre.length + 1) cap')) := (HW9.out.trans (HC7.out.mono (by omega))).setCell (p := ⟨w1.heap.size + 1, 0, none⟩) (Nat.le_refl _) _
    have hne : (Value.slice (some ⟨g', 0, none⟩) (pre.length + 1) cap').ownBlock ≠ some (w1.heap.size + 1) := fun h => by have := own_at HOW.out _ h; omega
    have hown9 := HOW.out.kept (grownBy_setCell' w7 (w1.heap.size + 1) (.slice (some ⟨g', 0, none⟩) (pre.length + 1) cap')) (.inr hne)
    refine ⟨hkf.from _, fun k hk => hlow.block k hk, ⟨⟨_, HV7.out.set _, ?_, trivial⟩, HBW.out.trans hlow⟩⟩
    rw [List.length_append, List.length_singleton, List.map_append, List.map_singleton]
    show World.ownsRow _ _ _ _ _ _ (rowsC p (l1, l2) (pre.map (fun z : Fin 16 => z.val) ++ [x]))
    rw [rowsC_snoc, HROW.out]
    exact hown9
    -- END
  case done =>
    rintro D ys W hD hys ⟨⟨v, hv, hrow, _⟩, hB⟩ hK
    have HKD := Lib.hid hK
    have hcp := hv.cell
    have hlp := hv.lt
    have hlen : ys.length = (Pol.rows p (l1, l2)).length := by
      have := congrArg List.length hys
      rw [List.length_map] at this
      rw [this, HSV.out]
      simp [Pol.rows]
    have hfin := own_base (ownsRow_putObj hrow (.deferred none) hK rfl) (show w.heap.size ≤ w1.heap.size + 1 + 1 by omega)
    rw [hys, HSV.out, hlen] at hfin
    have HFIN := Lib.hid hfin
    have HB9 := Lib.hid (HB5.out.trans (hB.mono (by omega)))
    have hDw : w.heap.size ≤ D := by have := HZ5.out; omega
    clear hK hB hys hv hrow hfin hlen
    simp only
    go_wp2_with fail
    exact ⟨by simp, .inl ⟨_, _, rfl, run_takeDeferred HKD.out, _, results_tmp rfl _ _ _, ⟨v, rfl, HFIN.out, HB9.out.trans (belowK_b (w := w) (Nat.le_refl _) W D _ _ hDw HKD.out rfl rfl)⟩⟩⟩
  case stop =>
    rintro D c pre W _ _ h _
    exact h.elim
end Go.Proofs.YtlmacaenbililaaGreatDoor
