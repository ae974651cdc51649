/- Package graph: Down (a search by a function that calls itself). Package graph: Turn and Up (a range over a function in each round of a loop). Package policy: which roles a label sees. No conditions. -/
import Derived.Test.YtlmacaenbililaaGreatDoorKg
import Derived.Test.YtlmacaenbililaaGreatDoorTtags
import Derived.Test.YtlmacaenbililaaGreatDoorIparse
namespace Go.Proofs.YtlmacaenbililaaGreatDoor
open Go.RowKit Go.Shelf
set_option linter.unusedSimpArgs false
set_option linter.unusedVariables false
attribute [local go_sem] cell_over frozen_over Oper.semAt_some

theorem st_func {P : Program} {w : World} (a : Addr) (m : Mode) (fn : Fn) (first captured : Array Value) : (store a (.func fn first captured) m).run P w = stored P w a (.func fn first captured) m := run_store P w a _ m rfl
attribute [local go_sem] st_func
def GraphIn (b : Nat) (g : List Nat) (W : World) : Prop := W.heap[b]? = some (.cells (Pol.u16C g).toArray 27 (0, 0))
def visitV (B : Nat) : Value := .func (.func 171) #[] #[.pointer (some ⟨B + 1, 0, none⟩), .pointer (some ⟨B + 1 + 1, 0, none⟩), .pointer (some ⟨B, 0, none⟩), .pointer (some ⟨B + 1 + 1 + 1, 0, none⟩)]
/-- What the search reads. -/
structure DEnv (B wi : Nat) (g : List Nat) (W : World) : Prop where
  gr : GraphIn B g W
  wi : Boxed W (B + 1) 23 (.int .u16 (wi : Int))
  vi : Boxed W (B + 1 + 1 + 1) 220 (visitV B)
theorem DEnv.kept {B wi : Nat} {g : List Nat} {W W' : World} (h : DEnv B wi g W) (hg : W.grownBy W' (some (B + 1 + 1))) : DEnv B wi g W' :=
  ⟨(hg.block B (Array.getElem?_eq_some_iff.1 h.gr).1 (by simp; omega)).trans h.gr, h.wi.kept hg (by simp), h.vi.kept hg (by simp)⟩
theorem u16C_get {g : List Nat} {r : Nat} (hr : r < g.length) : (Pol.u16C g)[r]? = some (.int .u16 (g.getD r 0 : Int)) := by
  unfold Pol.u16C
  rw [List.getElem?_map, List.getElem?_eq_getElem hr, List.getD_eq_getElem?_getD, List.getElem?_eq_getElem hr]
  rfl
theorem GraphIn.cell {b : Nat} {g : List Nat} {W : World} (h : GraphIn b g W) {r : Nat} (hr : r < g.length) : W.cell? ⟨b, r, none⟩ = some (.int .u16 (g.getD r 0 : Int)) := by
  rw [cell_of_row W b r _ _ _ h, List.getElem?_toArray, u16C_get hr]
theorem getD_lt {g : List Nat} (h : ∀ a ∈ g, a < 65536) (r : Nat) : g.getD r 0 < 65536 := by
  rw [List.getD_eq_getElem?_getD]
  cases e : g[r]? with
  | none => simp
  | some a => exact h a (List.mem_of_getElem? e)
theorem grown_low {N c : Nat} {A B : World} (h : A.grownBy B (some c)) (hN : N ≤ A.heap.size) (hc : N ≤ c) : KeepsLow N A B := fun k hk => h.block k (by omega) (by simp; omega)
theorem TabAt.grown {A B : World} {c : Nat} (hT : TabAt A) (h : A.grownBy B (some c)) (hc : 0 < c) : TabAt B := hT.keep (N := 0 + 1) (Nat.lt_succ_self _) (grown_low h (by have := hT.lt; omega) (by omega))
theorem grown_drew (w : World) (row : Option Nat) : w.grownBy w.drew row := ⟨rfl, rfl, rfl, Nat.le_refl _, fun _ _ _ => rfl⟩
theorem or_pow {o j : Nat} (ho : o < 65536) (hj : j < 16) : bits .or .u16 (o : Int) ((2 : Int) ^ j) = ((o ||| 2 ^ j : Nat) : Int) := by
  rw [show ((2 : Int) ^ j) = ((2 ^ j : Nat) : Int) by simp, u16_or o (2 ^ j) ho (p16 hj)]
theorem or_shift {o j : Nat} (ho : o < 65536) (hj : j < 16) : bits .or .u16 (o : Int) (IntKind.u16.wrap ((2 : Int) ^ j)) = ((o ||| 2 ^ j : Nat) : Int) := by
  have hpj : 2 ^ j < 65536 := Nat.pow_lt_pow_right (n := 16) (a := 2) (by omega) hj
  have e : ((2 : Int) ^ j) = ((2 ^ j : Nat) : Int) := by simp
  have hw := wraps_u16 ((2 ^ j : Nat) : Int) (Int.natCast_nonneg _) (by have h : ((2 ^ j : Nat) : Int) < ((65536 : Nat) : Int) := Int.ofNat_lt.2 hpj; exact h)
  rw [e, hw, u16_or o (2 ^ j) ho hpj]
/-- What a search leaves. -/
def VPost (B wi : Nat) (g : List Nat) (o r : Nat) (w : World) (e : Ending) (w' : World) : Prop := (∃ v, e = .returned v) ∧ ∃ p, Gr.Found g wi (fun q => q = r) o p ∧ Boxed w' (B + 1 + 1) 23 (.int .u16 (p : Int)) ∧ w.grownBy w' (some (B + 1 + 1))
set_option maxRecDepth 100000 in
set_option maxHeartbeats 4000000 in
theorem visit_skip (B wi o r : Nat) (g : List Nat) (hwi : wi < 65536) (ho : o < 65536) (hr : r < 16) (hs : Tag.has wi (r : Int) = false ∨ Tag.has wi (r : Int) = true ∧ Tag.has o (r : Int) = true) (w : World) (hE : DEnv B wi g w) (hO : Boxed w (B + 1 + 1) 23 (.int .u16 (o : Int))) :
    Calls Tryz.prog 171 #[.int .i64 (r : Int), .pointer (some ⟨B + 1, 0, none⟩), .pointer (some ⟨B + 1 + 1, 0, none⟩), .pointer (some ⟨B, 0, none⟩), .pointer (some ⟨B + 1 + 1 + 1, 0, none⟩)] w (VPost B wi g o r w) := by
  have hEND : VPost B wi g o r w (.returned (.tuple #[])) w := ⟨⟨_, rfl⟩, o, Gr.Found.skip ho (by
    rw [Pol.has_nat hwi, Pol.has_nat ho] at hs
    rcases hs with h | h
    · exact .inl h
    · exact .inr h.2), hO, World.grownBy.refl _ _⟩
  have HEND := Lib.hid hEND
  have hcw := hE.wi.cell
  have hco := hO.cell
  have hlw := hE.wi.lt
  have hlo := hO.lt
  have HW := Lib.hid (fun w => has_ok wi hwi (r : Int) w)
  have HO := Lib.hid (fun w => has_ok o ho (r : Int) w)
  clear hEND hE hO
  rcases hs with h1 | ⟨h1, h2⟩
  · rw [h1] at HW
    clear h1 HO
    go_enter Tryz.func171, Tryz.ntmps171
    go_wp2_with (go_at_call 118; refine (HW.out _).mono ?_; rintro e w' ⟨rfl, rfl⟩)
    refine bodyPost_ret (results_none rfl _ _ _) rfl ?_
    exact HEND.out
  · rw [h1] at HW
    rw [h2] at HO
    clear h1 h2
    go_enter Tryz.func171, Tryz.ntmps171
    go_wp2_with (first
      | (go_at_call 118; (with_reducible refine (HW.out _).mono ?_); rintro e w' ⟨rfl, rfl⟩)
      | (go_at_call 118; (with_reducible refine (HO.out _).mono ?_); rintro e w' ⟨rfl, rfl⟩))
    refine bodyPost_ret (results_none rfl _ _ _) rfl ?_
    exact HEND.out
theorem found_own (g : List Nat) (wi o1 B : Nat) (W2 : World) (hlo : B + 1 + 1 < W2.heap.size) : OwnFrom W2.heap.size (fun (pre : List (Fin 16)) W => ∃ p, Gr.Found g wi (fun q => q ∈ pre.map (·.val)) o1 p ∧ Boxed W (B + 1 + 1) 23 (.int .u16 (p : Int)) ∧ W2.grownBy W (some (B + 1 + 1))) := by
  rintro pre X Y row ⟨p, hf, hv, hgr⟩ hg hr
  exact ⟨p, hf, hv.kept hg (fun e => by have := (hr _ e.symm).1; omega), hgr.andThen hg (fun j e => .inl (hr j e).1)⟩
set_option maxRecDepth 100000 in
set_option maxHeartbeats 4000000 in
theorem visit_ok (B wi : Nat) (g : List Nat) (hg : g.length = 16) (hgl : ∀ a ∈ g, a < 65536) (hwi : wi < 65536) (hB : 0 < B) : ∀ (n o r : Nat), o < 65536 → 16 ≤ (Tag.tags o).length + n → r < 16 → ∀ w, DEnv B wi g w → Boxed w (B + 1 + 1) 23 (.int .u16 (o : Int)) → TabAt w →
    Calls Tryz.prog 171 #[.int .i64 (r : Int), .pointer (some ⟨B + 1, 0, none⟩), .pointer (some ⟨B + 1 + 1, 0, none⟩), .pointer (some ⟨B, 0, none⟩), .pointer (some ⟨B + 1 + 1 + 1, 0, none⟩)] w (VPost B wi g o r w) := by
  intro n
  induction n with
  | zero =>
    intro o r ho hn hr w hE hO hT
    have hf : Tag.has o (r : Int) = true := by rw [Pol.has_nat ho]; exact Gr.full_of_card (by omega) r hr
    refine visit_skip B wi o r g hwi ho hr ?_ w hE hO
    by_cases h : Tag.has wi (r : Int) = true
    · exact .inr ⟨h, hf⟩
    · exact .inl (by simpa using h)
  | succ n ih =>
    intro o r ho hn hr w hE hO hT
    by_cases h1 : Tag.has wi (r : Int) = true
    · by_cases h2 : Tag.has o (r : Int) = true
      · exact visit_skip B wi o r g hwi ho hr (.inr ⟨h1, h2⟩) w hE hO
      · have h2 : Tag.has o (r : Int) = false := by simpa using h2
        have hbw : wi.testBit r = true := by rw [← Pol.has_nat hwi]; exact h1
        have hbo : o.testBit r = false := by rw [← Pol.has_nat ho]; exact h2
        have ho1 : o ||| 2 ^ r < 65536 := Nat.or_lt_two_pow (n := 16) ho (p16 hr)
        have hn1 : 16 ≤ (Tag.tags (o ||| 2 ^ r)).length + n := by
          have := Gr.card_lt ho ho1 (fun i hi => by rw [Nat.testBit_or, hi, Bool.true_or]) (fun e => by
            have h := Gr.bit_add (s := o) hr r
            rw [← e, hbo] at h
            simp at h)
          omega
        have hcw := hE.wi.cell
        have hco := hO.cell
        have hfo := hO.frozen
        have hlo := hO.lt
        have hlv := hE.vi.lt
        have hcv := hE.vi.cell
        have hlg : B < w.heap.size := (Array.getElem?_eq_some_iff.1 hE.gr).1
        have hcg := hE.gr.cell (r := r) (by omega)
        have hs := getD_lt hgl r
        have HOR := or_shift ho hr
        obtain ⟨s, hse⟩ : ∃ s, s = g.getD r 0 := ⟨_, rfl⟩
        rw [← hse] at hcg hs
        obtain ⟨o1, ho1e⟩ : ∃ o1, o1 = o ||| 2 ^ r := ⟨_, rfl⟩
        rw [← ho1e] at HOR ho1 hn1
        have HSE := Lib.hid hse
        have HO1 := Lib.hid ho1e
        have hri : (r : Int) < 16 := by omega
        have hgw : w.grownBy ((w.setCell ⟨B + 1 + 1, 0, none⟩ (.int .u16 (o1 : Int))).alloc (.cells #[.int .u16 (s : Int)] 23)).drew (some (B + 1 + 1)) := ((grownBy_setCell' w (B + 1 + 1) _).trans (World.grownBy_alloc _ _ _)).trans (grown_drew _ _)
        have hE2 := hE.kept hgw
        have hO2 : Boxed ((w.setCell ⟨B + 1 + 1, 0, none⟩ (.int .u16 (o1 : Int))).alloc (.cells #[.int .u16 (s : Int)] 23)).drew (B + 1 + 1) 23 (.int .u16 (o1 : Int)) := ((hO.set _).alloc _).kept (grown_drew _ none) (by simp)
        have hT2 := hT.grown hgw (by omega)
        have hB2 : Boxed ((w.setCell ⟨B + 1 + 1, 0, none⟩ (.int .u16 (o1 : Int))).alloc (.cells #[.int .u16 (s : Int)] 23)).drew w.heap.size 23 (.int .u16 (s : Int)) := by
          have := Boxed.new (w.setCell ⟨B + 1 + 1, 0, none⟩ (.int .u16 (o1 : Int))) 23 (.int .u16 (s : Int))
          have h2 := this.kept (grown_drew _ none) (by simp)
          simpa [World.setCell] using h2
        have hz2 : ((w.setCell ⟨B + 1 + 1, 0, none⟩ (.int .u16 (o1 : Int))).alloc (.cells #[.int .u16 (s : Int)] 23)).drew.heap.size = w.heap.size + 1 := by simp [World.setCell, World.drew]
        obtain ⟨W2, hW2⟩ : ∃ W2, W2 = ((w.setCell ⟨B + 1 + 1, 0, none⟩ (.int .u16 (o1 : Int))).alloc (.cells #[.int .u16 (s : Int)] 23)).drew := ⟨_, rfl⟩
        rw [← hW2] at hgw hE2 hO2 hT2 hB2 hz2
        have HE2 := Lib.hid hE2
        have HO2 := Lib.hid hO2
        have HT2 := Lib.hid hT2
        have HB2 := Lib.hid hB2
        have HZ2 := Lib.hid hz2
        have HW2 := Lib.hid hW2
        have HGW := Lib.hid hgw
        have HW := Lib.hid (fun w => has_ok wi hwi (r : Int) w)
        have HO := Lib.hid (fun w => has_ok o ho (r : Int) w)
        rw [h1] at HW
        rw [h2] at HO
        have HIH := Lib.hid ih
        have HBW := Lib.hid hbw
        have HBO := Lib.hid hbo
        clear h1 h2 hbw hbo hE hO hT hgw ho1e hse ih hE2 hO2 hT2 hB2 hz2 hW2
        refine (callsIn_wide (n := 9)).1 ?_
        refine callsIn_of_wp_marks Tryz.func171 rfl trivial ?_ rfl
        refine wpIn_wide.2 ?_
        simp only [Tryz.ntmps171, List.size_toArray, List.length_cons, List.length_nil, Nat.reduceAdd, Nat.reduceSub, Array.replicate_succ, Array.replicate_zero, List.push_toArray, List.append_toArray, List.nil_append, List.cons_append]
        go_wp2_with (first
          | (go_at_call 118; (with_reducible refine (HW.out _).mono ?_); rintro e w' ⟨rfl, hw'⟩; obtain rfl := hw'.symm)
          | (go_at_call 118; (with_reducible refine (HO.out _).mono ?_); rintro e w' ⟨rfl, hw'⟩; obtain rfl := hw'.symm))
        go_region
        go_wp2_with (go_at_call 105; refine (each_ok s _).mono ?_; rintro e w' ⟨rfl, hw'⟩; obtain rfl := hw'.symm)
        rw [← HW2.out]
        have hO2 := HO2.out
        have hlo2 : B + 1 + 1 < W2.heap.size := hO2.lt
        have hseq := each_seqF 8 w.heap.size s (B + 1 + 1) hs W2 (by omega) HB2.out HT2.out
        refine (wpIn_wide (n := 9)).1 (wpIn_rangeFunc_ownH rfl (by omega) (gf := 168) (lb := #[.pointer (some ⟨w.heap.size, 0, none⟩)]) rfl trivial (enters_of Tryz.func168 (by kernel_rfl) rfl)
          hseq keepsLow_t (keepsLow_b (by omega)) (Below.refl _ _) (fun _ => rfl)
          (fun pre W => ∃ p, Gr.Found g wi (fun q => q ∈ pre.map (·.val)) o1 p ∧ Boxed W (B + 1 + 1) 23 (.int .u16 (p : Int)) ∧ W2.grownBy W (some (B + 1 + 1)))
          (fun _ _ _ => False)
          (found_own g wi o1 B W2 hlo2)
          (fun _ _ _ _ _ hs _ _ => hs)
          ⟨o1, (Gr.Found.none ho1).st (by simp), hO2, World.grownBy.refl _ _⟩
          (fun x a' W => a' = { tmps := #[.int .i64 (r : Int), .pointer (some ⟨B + 1, 0, none⟩), .pointer (some ⟨B + 1 + 1, 0, none⟩), .pointer (some ⟨B, 0, none⟩), .pointer (some ⟨B + 1 + 1 + 1, 0, none⟩), undef, .int .i64 (x.val : Int), .int .u16 (wi : Int), .int .i64 (r : Int), .bool true, .bool false, .bool false, .int .u16 (o : Int), .int .i64 (r : Int), .bool false, .bool false, .int .u16 (o : Int), .int .i64 (r : Int), .int .u16 (IntKind.u16.wrap ((2 : Int) ^ r)), .int .u16 (o1 : Int), .int .i64 (r : Int), .pointer (some ⟨B, r, none⟩), .int .u16 (s : Int), .func (.func 168) #[] #[.pointer (some ⟨w.heap.size, 0, none⟩)], .int .i64 (x.val : Int), undef, undef, undef], defers := [] })
          (fun x a' _ A B row hs hg hr => hs) ?assign ?body ?done ?stop)
        case assign =>
          rintro l pre x W K ⟨p, hf, hv, hgr⟩ hK
          simp only [List.zip_toArray, List.zip_cons_cons, List.zip_nil_right, List.foldl_toArray', List.foldl_cons, List.foldl_nil, List.setIfInBounds_toArray, List.set_cons_succ, List.set_cons_zero]
          gi_wp2
          exact hK _ _ ((KeepsOthers.refl _).from _) (fun _ _ => rfl) ⟨p, hf, hv, hgr⟩ rfl
        case body =>
          rintro l pre x a' W hl _ ⟨p, hf, hv, hgr⟩ rfl hlen
          obtain ⟨x, hx⟩ := x
          dsimp only
          have hE3 := HE2.out.kept hgr
          have hcv := hE3.vi.cell
          have hlv := hE3.vi.lt
          have hlo3 := hv.lt
          unfold visitV at hcv
          have HF := Lib.hid hf
          have hcard : (Tag.tags o1).length ≤ (Tag.tags p).length := by
            by_cases e : o1 = p
            · rw [e]; exact Nat.le_refl _
            · exact Nat.le_of_lt (Gr.card_lt ho1 hf.1 hf.2.1 e)
          have HV := Lib.hid (HIH.out p x hf.1 (by omega) hx W hE3 hv (HT2.out.grown hgr (by omega)))
          have HGR := Lib.hid hgr
          clear hf hv hgr hE3 hcard
          gi_wp2_with (first | (refine ⟨trivial, ?_⟩; refine (CallsIn.inRound l (callsIn_wide.2 HV.out)).mono ?_; rintro e w3 ⟨⟨v, rfl⟩, p', hf', hv', hg'⟩; have HF' := Lib.hid hf'; have HV' := Lib.hid hv'; have HG' := Lib.hid hg'; clear hf' hv' hg'))
          exact ⟨KeepsFrom.of_grownBy HG'.out (fun j e => by cases e; omega), grown_low HG'.out (by omega) (Nat.le_refl _), p', (HF.out.more HF'.out).st (fun q => by simp), HV'.out, HGR.out.trans HG'.out⟩
        case done =>
          rintro D ys W hD hys ⟨p, hf, hv, hgr⟩ hK
          have HKD := Lib.hid hK
          have hkp : W.grownBy (W.putObj D (.deferred none)) (some D) := grownBy_putObj' W D _
          have hfin : VPost B wi g o r w (.returned (.tuple #[])) (W.putObj D (.deferred none)) := by
            refine ⟨⟨_, rfl⟩, p, ?_, hv.kept hkp (by simp; omega), (HGW.out.trans hgr).andThen hkp (fun j e => by cases e; left; have := HZ2.out; omega)⟩
            refine Gr.Found.enter hr HBW.out HBO.out ?_
            rw [← HO1.out]
            refine hf.st (fun q => ?_)
            rw [hys, Tag.mem_tags, ← HSE.out]
            exact ⟨fun h => h.2, fun h => ⟨Pol.bit_ge hs h, h⟩⟩
          have HFIN := Lib.hid hfin
          clear hK hfin hkp hf hv hgr hys
          simp only
          go_wp2_with fail
          exact ⟨by simp, .inl ⟨_, _, rfl, run_takeDeferred HKD.out, _, results_none rfl _ _ _, HFIN.out⟩⟩
        case stop =>
          rintro D c pre W _ _ h _
          exact h.elim
    · exact visit_skip B wi o r g hwi ho hr (.inl (by simpa using h1)) w hE hO
set_option maxRecDepth 100000 in
set_option maxHeartbeats 4000000 in
theorem gdown_ok (g : List Nat) (hg : g.length = 16) (hgl : ∀ a ∈ g, a < 65536) (fr wi : Nat) (hfr : fr < 65536) (hwi : wi < 65536) (w : World) (hT : TabAt w) :
    Calls Tryz.prog 108 #[.agg (Pol.u16C g).toArray, .int .u16 (fr : Int), .int .u16 (wi : Int)] w fun e w' => e = .returned (.int .u16 (Gr.down g wi fr : Int)) ∧ Below w.heap.size w w' := by
  have HT := Lib.hid hT
  have hb4 : Boxed ((((w.alloc (.cells (Pol.u16C g).toArray 27)).alloc (.cells #[.int .u16 (wi : Int)] 23)).alloc (.cells #[.int .u16 0] 23)).alloc (.cells #[.nilFunc] 220)) (w.heap.size + 1 + 1 + 1) 220 .nilFunc := by
    have := Boxed.new (((w.alloc (.cells (Pol.u16C g).toArray 27)).alloc (.cells #[.int .u16 (wi : Int)] 23)).alloc (.cells #[.int .u16 0] 23)) 220 .nilFunc
    simpa using this
  have hcz := hb4.cell
  have hfz := hb4.frozen
  have hlz := hb4.lt
  have hE5 : DEnv w.heap.size wi g (((((w.alloc (.cells (Pol.u16C g).toArray 27)).alloc (.cells #[.int .u16 (wi : Int)] 23)).alloc (.cells #[.int .u16 0] 23)).alloc (.cells #[visitV w.heap.size] 220)).alloc (.cells #[.int .u16 (fr : Int)] 23)) := by
    refine ⟨?_, ?_, ?_⟩
    · have h1 := block_below (below_fresh (w.alloc (.cells (Pol.u16C g).toArray 27)) (.cells #[.int .u16 (wi : Int)] 23)) (heap_alloc_new w (.cells (Pol.u16C g).toArray 27))
      have h2 := block_below (below_fresh _ (.cells #[.int .u16 0] 23)) h1
      have h3 := block_below (below_fresh _ (.cells #[visitV w.heap.size] 220)) h2
      exact block_below (below_fresh _ _) h3
    · have h1 := Boxed.new (w.alloc (.cells (Pol.u16C g).toArray 27)) 23 (.int .u16 (wi : Int))
      rw [World.size_alloc] at h1
      exact ((h1.alloc _).alloc _).alloc _
    · have h1 := Boxed.new (((w.alloc (.cells (Pol.u16C g).toArray 27)).alloc (.cells #[.int .u16 (wi : Int)] 23)).alloc (.cells #[.int .u16 0] 23)) 220 (visitV w.heap.size)
      rw [World.size_alloc, World.size_alloc, World.size_alloc] at h1
      exact h1.alloc _
  have hO5 : Boxed (((((w.alloc (.cells (Pol.u16C g).toArray 27)).alloc (.cells #[.int .u16 (wi : Int)] 23)).alloc (.cells #[.int .u16 0] 23)).alloc (.cells #[visitV w.heap.size] 220)).alloc (.cells #[.int .u16 (fr : Int)] 23)) (w.heap.size + 1 + 1) 23 (.int .u16 ((0 : Nat) : Int)) := by
    have h1 := Boxed.new ((w.alloc (.cells (Pol.u16C g).toArray 27)).alloc (.cells #[.int .u16 (wi : Int)] 23)) 23 (.int .u16 0)
    rw [World.size_alloc, World.size_alloc] at h1
    exact (h1.alloc _).alloc _
  have hF5 : Boxed (((((w.alloc (.cells (Pol.u16C g).toArray 27)).alloc (.cells #[.int .u16 (wi : Int)] 23)).alloc (.cells #[.int .u16 0] 23)).alloc (.cells #[visitV w.heap.size] 220)).alloc (.cells #[.int .u16 (fr : Int)] 23)) (w.heap.size + 1 + 1 + 1 + 1) 23 (.int .u16 (fr : Int)) := by
    have h1 := Boxed.new ((((w.alloc (.cells (Pol.u16C g).toArray 27)).alloc (.cells #[.int .u16 (wi : Int)] 23)).alloc (.cells #[.int .u16 0] 23)).alloc (.cells #[visitV w.heap.size] 220)) 23 (.int .u16 (fr : Int))
    rw [World.size_alloc, World.size_alloc, World.size_alloc, World.size_alloc] at h1
    exact h1
  have hB5 : Below w.heap.size w (((((w.alloc (.cells (Pol.u16C g).toArray 27)).alloc (.cells #[.int .u16 (wi : Int)] 23)).alloc (.cells #[.int .u16 0] 23)).alloc (.cells #[visitV w.heap.size] 220)).alloc (.cells #[.int .u16 (fr : Int)] 23)) := below_new (below_new (below_new (below_new (below_fresh w _) _) _) _) _
  have hT5 := hT.below hB5
  have hz5 : (((((w.alloc (.cells (Pol.u16C g).toArray 27)).alloc (.cells #[.int .u16 (wi : Int)] 23)).alloc (.cells #[.int .u16 0] 23)).alloc (.cells #[visitV w.heap.size] 220)).alloc (.cells #[.int .u16 (fr : Int)] 23)).heap.size = w.heap.size + 5 := by simp
  obtain ⟨W5, hW5⟩ : ∃ W5, W5 = (((((w.alloc (.cells (Pol.u16C g).toArray 27)).alloc (.cells #[.int .u16 (wi : Int)] 23)).alloc (.cells #[.int .u16 0] 23)).alloc (.cells #[visitV w.heap.size] 220)).alloc (.cells #[.int .u16 (fr : Int)] 23)) := ⟨_, rfl⟩
  rw [← hW5] at hE5 hO5 hF5 hB5 hT5 hz5
  have HE5 := Lib.hid hE5
  have HO5 := Lib.hid hO5
  have HF5 := Lib.hid hF5
  have HB5 := Lib.hid hB5
  have HT5 := Lib.hid hT5
  have HZ5 := Lib.hid hz5
  have HW5 := Lib.hid hW5
  have hBt := hT.lt
  unfold visitV at HW5
  clear hT hb4 hE5 hO5 hF5 hB5 hT5 hz5 hW5
  refine (callsIn_wide (n := 9)).1 ?_
  refine callsIn_of_wp_marks Tryz.func108 rfl trivial ?_ rfl
  refine wpIn_wide.2 ?_
  simp only [Tryz.ntmps108, List.size_toArray, List.length_cons, List.length_nil, Nat.reduceAdd, Nat.reduceSub, Array.replicate_succ, Array.replicate_zero, List.push_toArray, List.append_toArray, List.nil_append, List.cons_append]
  go_wp2_with (go_at_call 105; refine (each_ok fr _).mono ?_; rintro e w' ⟨rfl, hw'⟩; obtain rfl := hw'.symm)
  rw [← HW5.out]
  have hO2 := HO5.out
  have hlo2 : w.heap.size + 1 + 1 < W5.heap.size := hO2.lt
  have hseq := each_seqF 8 (w.heap.size + 1 + 1 + 1 + 1) fr (w.heap.size + 1 + 1) hfr W5 (by omega) HF5.out HT5.out
  clear hcz hfz hlz
  refine (wpIn_wide (n := 9)).1 (wpIn_rangeFunc_ownH rfl (by omega) (gf := 168) (lb := #[.pointer (some ⟨w.heap.size + 1 + 1 + 1 + 1, 0, none⟩)]) rfl trivial (enters_of Tryz.func168 (by kernel_rfl) rfl)
    hseq keepsLow_t (keepsLow_b (by omega)) (Below.refl _ _) (fun _ => rfl)
    (fun pre W => ∃ p, Gr.Found g wi (fun q => q ∈ pre.map (·.val)) 0 p ∧ Boxed W (w.heap.size + 1 + 1) 23 (.int .u16 (p : Int)) ∧ W5.grownBy W (some (w.heap.size + 1 + 1)))
    (fun _ _ _ => False)
    (found_own g wi 0 w.heap.size W5 hlo2)
    (fun _ _ _ _ _ hs _ _ => hs)
    ⟨0, (Gr.Found.none (by omega)).st (by simp), hO2, World.grownBy.refl _ _⟩
    (fun x a' W => a' = { tmps := #[.agg (Pol.u16C g).toArray, .int .u16 (fr : Int), .int .u16 (wi : Int), .pointer (some ⟨w.heap.size, 0, none⟩), undef, .pointer (some ⟨w.heap.size + 1, 0, none⟩), .int .u16 0, .pointer (some ⟨w.heap.size + 1 + 1, 0, none⟩), .pointer (some ⟨w.heap.size + 1 + 1 + 1, 0, none⟩), .int .i64 (x.val : Int), visitV w.heap.size, .int .u16 (fr : Int), .func (.func 168) #[] #[.pointer (some ⟨w.heap.size + 1 + 1 + 1 + 1, 0, none⟩)], .int .i64 (x.val : Int), undef, undef, undef, undef], defers := [] })
    (fun x a' _ A B row hs hg hr => hs) ?assign ?body ?done ?stop)
  case assign =>
    rintro l pre x W K ⟨p, hf, hv, hgr⟩ hK
    simp only [List.zip_toArray, List.zip_cons_cons, List.zip_nil_right, List.foldl_toArray', List.foldl_cons, List.foldl_nil, List.setIfInBounds_toArray, List.set_cons_succ, List.set_cons_zero]
    gi_wp2
    exact hK _ _ ((KeepsOthers.refl _).from _) (fun _ _ => rfl) ⟨p, hf, hv, hgr⟩ rfl
  case body =>
    rintro l pre x a' W hl _ ⟨p, hf, hv, hgr⟩ rfl hlen
    obtain ⟨x, hx⟩ := x
    dsimp only
    have hE3 := HE5.out.kept hgr
    have hcv := hE3.vi.cell
    have hlv := hE3.vi.lt
    have hlo3 := hv.lt
    unfold visitV at hcv
    have HF := Lib.hid hf
    have HV := Lib.hid (visit_ok w.heap.size wi g hg hgl hwi hBt 16 p x hf.1 (by omega) hx W hE3 hv (HT5.out.grown hgr (by omega)))
    have HGR := Lib.hid hgr
    clear hf hv hgr hE3
    gi_wp2_with (first | (refine ⟨trivial, ?_⟩; refine (CallsIn.inRound l (callsIn_wide.2 HV.out)).mono ?_; rintro e w3 ⟨⟨v, rfl⟩, p', hf', hv', hg'⟩; have HF' := Lib.hid hf'; have HV' := Lib.hid hv'; have HG' := Lib.hid hg'; clear hf' hv' hg'))
    exact ⟨KeepsFrom.of_grownBy HG'.out (fun j e => by cases e; omega), grown_low HG'.out (by omega) (Nat.le_refl _), p', (HF.out.more HF'.out).st (fun q => by simp), HV'.out, HGR.out.trans HG'.out⟩
  case done =>
    rintro D ys W hD hys ⟨p, hf, hv, hgr⟩ hK
    have HKD := Lib.hid hK
    have hcp := hv.cell
    have hlp := hv.lt
    have hr : p = Gr.down g wi fr := Gr.Found.down hfr (hf.st (fun q => by
      rw [hys, Tag.mem_tags]
      exact ⟨fun h => h.2, fun h => ⟨Pol.bit_ge hfr h, h⟩⟩))
    have HR := Lib.hid hr
    have HB9 := Lib.hid ((HB5.out.grown hgr (by have := HZ5.out; omega) (fun k e => by cases e; omega)))
    have hDw : w.heap.size ≤ D := by have := HZ5.out; omega
    clear hK hf hgr hys hr hv
    simp only
    go_wp2_with fail
    exact ⟨by simp, .inl ⟨_, _, rfl, run_takeDeferred HKD.out, _, results_tmp rfl _ _ _, by rw [← HR.out]; rfl, HB9.out.trans (belowK_b (w := w) (Nat.le_refl _) W D _ _ hDw HKD.out rfl rfl)⟩⟩
  case stop =>
    rintro D c pre W _ _ h _
    exact h.elim
end Go.Proofs.YtlmacaenbililaaGreatDoor
namespace Go.Proofs.YtlmacaenbililaaGreatDoor
open Go.RowKit Go.Shelf
set_option linter.unusedSimpArgs false
set_option linter.unusedVariables false
attribute [local go_sem] cell_over frozen_over Oper.semAt_some

/-- The marks that ranges over functions leave. -/
def marks (ds : List Nat) : List Deferred := ds.map fun D => { target := .collected D, args := #[] }
def unmark (W : World) (ds : List Nat) : World := ds.foldl (fun W D => W.putObj D (.deferred none)) W
def MarksAt (B : Nat) (ds : List Nat) (W : World) : Prop := ds.Nodup ∧ ∀ D ∈ ds, B ≤ D ∧ W.heap[D]? = some (.deferred (some []))
theorem MarksAt.nil (B : Nat) (W : World) : MarksAt B [] W := ⟨List.nodup_nil, fun _ h => by cases h⟩
theorem MarksAt.lt {B : Nat} {ds : List Nat} {W : World} (h : MarksAt B ds W) {D : Nat} (hD : D ∈ ds) : D < W.heap.size := (Array.getElem?_eq_some_iff.1 (h.2 D hD).2).1
theorem MarksAt.grown {B c : Nat} {ds : List Nat} {A W : World} (h : MarksAt B ds A) (hg : A.grownBy W (some c)) (hc : c < B) : MarksAt B ds W :=
  ⟨h.1, fun D hD => ⟨(h.2 D hD).1, (hg.block D (h.lt hD) (by have := (h.2 D hD).1; simp; omega)).trans (h.2 D hD).2⟩⟩
theorem MarksAt.cons {B : Nat} {ds : List Nat} {W : World} (h : MarksAt B ds W) {D N : Nat} (hN : ∀ x ∈ ds, x < N) (hD : N ≤ D) (hB : B ≤ D) (hk : W.heap[D]? = some (.deferred (some []))) : MarksAt B (D :: ds) W :=
  ⟨List.nodup_cons.2 ⟨fun hm => by have := hN D hm; omega, h.1⟩, fun x hx => by
    rcases List.mem_cons.1 hx with rfl | hx
    · exact ⟨hB, hk⟩
    · exact h.2 x hx⟩
theorem MarksAt.low {B N : Nat} {ds : List Nat} {W : World} (h : MarksAt B ds W) (hN : N ≤ B) : MarksAt N ds W := ⟨h.1, fun D hD => ⟨Nat.le_trans hN (h.2 D hD).1, (h.2 D hD).2⟩⟩
theorem unmark_block : ∀ (ds : List Nat) (W : World) (k : Nat), k ∉ ds → (unmark W ds).heap[k]? = W.heap[k]?
  | [], W, k, _ => rfl
  | D :: ds, W, k, h => by
    have h1 : k ≠ D := fun e => h (e ▸ List.mem_cons_self)
    exact (unmark_block ds (W.putObj D (.deferred none)) k (fun hm => h (List.mem_cons_of_mem _ hm))).trans (World.putObj_heap_other h1)
theorem unmark_below {N : Nat} {w : World} : ∀ (ds : List Nat) (W : World), MarksAt N ds W → Below N w W → Below N w (unmark W ds)
  | [], W, _, h => h
  | D :: ds, W, hm, h => by
    have hD := hm.2 D List.mem_cons_self
    have hnd := List.nodup_cons.1 hm.1
    refine unmark_below ds (W.putObj D (.deferred none)) ⟨hnd.2, fun x hx => ⟨(hm.2 x (List.mem_cons_of_mem _ hx)).1, ?_⟩⟩ ?_
    · exact (World.putObj_heap_other (fun e : x = D => hnd.1 (e ▸ hx))).trans (hm.2 x (List.mem_cons_of_mem _ hx)).2
    · exact h.trans ⟨rfl, rfl, rfl, by simp [World.putObj], fun k hk => World.putObj_heap_other (by omega)⟩
theorem leaves_marks {F : Fence} {n : Nat} {P : Program} {fn : Func} {tmps : Array Value} {R : Ending → World → Prop} {B : Nat} : ∀ (ds : List Nat) (W : World), MarksAt B ds W →
    LeavesInM F n P fn tmps R [] .returning (unmark W ds) → LeavesInM F n P fn tmps R (marks ds) .returning W
  | [], W, _, h => h
  | D :: ds, W, hm, h => by
    have hD := hm.2 D List.mem_cons_self
    have hnd := List.nodup_cons.1 hm.1
    refine ⟨by simp, .inl ⟨D, W.putObj D (.deferred none), rfl, run_takeDeferred hD.2, ?_⟩⟩
    exact leaves_marks ds (W.putObj D (.deferred none)) ⟨hnd.2, fun x hx => ⟨(hm.2 x (List.mem_cons_of_mem _ hx)).1, (World.putObj_heap_other (fun e : x = D => hnd.1 (e ▸ hx))).trans (hm.2 x (List.mem_cons_of_mem _ hx)).2⟩⟩ h
theorem results_cell {fn : Func} {P : Program} {W : World} {tmps : Array Value} {p : Tmp} {ty : TypeId} (h : fn.results = #[.cell p ty]) (b off : Nat) (hp : tmps.getD p undef = .pointer (some ⟨b, off, none⟩)) (cs : List Value) (d : TypeDesc)
    (hc : W.rangeAt b off cs) (hu : P.underlying ty = some d) (hd : d.isRow = true) (hi : (P.info? ty).map (·.size) = some cs.length) : (results fn tmps).run P W = .ok (.agg cs.toArray) W := by
  have hp' : tmps[p]?.getD undef = .pointer (some ⟨b, off, none⟩) := by simpa using hp
  simp [results, h, hp', asAddr, run_loadVar_mid W b off ty cs d hc hu hd hi]
namespace Gr
/-- A graph turned, of the first k roles alone. -/
def turnedTo (g : List Nat) (q : Nat) : Nat → Nat
  | 0 => 0
  | k + 1 => if (g.getD k 0).testBit q = true then turnedTo g q k ||| 2 ^ k else turnedTo g q k
theorem turnedTo_all (g : List Nat) (q : Nat) : turnedTo g q 16 = turned g q := rfl
theorem turnedTo_lt (g : List Nat) (q : Nat) : ∀ k, k ≤ 16 → turnedTo g q k < 65536
  | 0, _ => by unfold turnedTo; omega
  | k + 1, hk => by
    unfold turnedTo
    split
    · exact Nat.or_lt_two_pow (n := 16) (turnedTo_lt g q k (by omega)) (p16 (by omega))
    · exact turnedTo_lt g q k (by omega)
/-- .. and of some of the next one's. -/
def turnRow (g : List Nat) (k : Nat) (pre : List Nat) : List Nat := (List.range 16).map fun q => if q ∈ pre then turnedTo g q k ||| 2 ^ k else turnedTo g q k
theorem turnRow_len (g : List Nat) (k : Nat) (pre : List Nat) : (turnRow g k pre).length = 16 := by simp [turnRow]
theorem turnRow_get (g : List Nat) (k : Nat) (pre : List Nat) {q : Nat} (hq : q < 16) : (turnRow g k pre)[q]? = some (if q ∈ pre then turnedTo g q k ||| 2 ^ k else turnedTo g q k) := by
  unfold turnRow
  rw [List.getElem?_map, List.getElem?_range hq]; rfl
def turnAt (g : List Nat) (k : Nat) (pre : List Nat) (q : Nat) : Nat := if q ∈ pre then turnedTo g q k ||| 2 ^ k else turnedTo g q k
theorem turnAt_get (g : List Nat) (k : Nat) (pre : List Nat) {q : Nat} (hq : q < 16) : (turnRow g k pre)[q]? = some (turnAt g k pre q) := turnRow_get g k pre hq
theorem turnAt_lt (g : List Nat) {k : Nat} (hk : k < 16) (pre : List Nat) (q : Nat) : turnAt g k pre q < 65536 := by
  unfold turnAt
  split
  · exact Nat.or_lt_two_pow (n := 16) (turnedTo_lt g q k (by omega)) (p16 hk)
  · exact turnedTo_lt g q k (by omega)
theorem turnRow_snoc (g : List Nat) (k : Nat) (pre : List Nat) (x : Nat) (hx : x < 16) : (turnRow g k pre).set x (turnAt g k pre x ||| 2 ^ k) = turnRow g k (pre ++ [x]) := by
  refine List.ext_getElem? fun i => ?_
  rw [List.getElem?_set]
  by_cases e : x = i
  · subst e
    rw [if_pos rfl, if_pos (by rw [turnRow_len]; exact hx), turnRow_get g k _ hx, if_pos (by simp)]
    unfold turnAt
    split
    · rw [Nat.or_assoc, Nat.or_self]
    · rfl
  · rw [if_neg e]
    rcases Nat.lt_or_ge i 16 with h | h
    · rw [turnRow_get g k _ h, turnRow_get g k _ h]
      congr 1
      have : (i ∈ pre ++ [x]) ↔ i ∈ pre := by simp [Ne.symm e]
      by_cases hm : i ∈ pre
      · rw [if_pos hm, if_pos (this.2 hm)]
      · rw [if_neg hm, if_neg (fun h => hm (this.1 h))]
    · rw [List.getElem?_eq_none (by rw [turnRow_len]; exact h), List.getElem?_eq_none (by rw [turnRow_len]; exact h)]
theorem turnedTo_succ (g : List Nat) (q k : Nat) : turnedTo g q (k + 1) = if (g.getD k 0).testBit q = true then turnedTo g q k ||| 2 ^ k else turnedTo g q k := rfl
theorem turnRow_next (g : List Nat) (k : Nat) (pre : List Nat) (h : pre = Tag.tags (g.getD k 0)) : turnRow g k pre = turnRow g (k + 1) [] := by
  unfold turnRow
  refine List.map_congr_left fun q hq => ?_
  rw [if_neg (show ¬ q ∈ ([] : List Nat) by simp), turnedTo_succ]
  have hq := List.mem_range.1 hq
  by_cases hb : (g.getD k 0).testBit q = true
  · rw [if_pos hb, if_pos (show q ∈ pre by rw [h]; exact Tag.mem_tags.2 ⟨hq, hb⟩)]
  · rw [if_neg hb, if_neg (show ¬ q ∈ pre by rw [h]; exact fun hm => hb (Tag.mem_tags.1 hm).2)]
theorem turnRow_zero (g : List Nat) : turnRow g 0 [] = List.replicate 16 0 := rfl
theorem turnRow_all (g : List Nat) : turnRow g 16 [] = turn g := by
  unfold turnRow turn
  refine List.map_congr_left fun q _ => ?_
  rw [if_neg (show ¬ q ∈ ([] : List Nat) by simp), turnedTo_all]
end Gr
theorem u16C_len (l : List Nat) : (Pol.u16C l).length = l.length := by simp [Pol.u16C]
theorem info_u16s : (Tryz.prog.info? 27).map (·.size) = some 16 := by kernel_rfl
theorem u16C_one (l : List Nat) : ∀ v ∈ Pol.u16C l, v.oneCell' = true := by
  intro v hv
  obtain ⟨a, _, rfl⟩ := List.mem_map.1 hv
  rfl
theorem u16C_set (l : List Nat) (x v : Nat) : (Pol.u16C l).set x (.int .u16 (v : Int)) = Pol.u16C (l.set x v) := by
  unfold Pol.u16C
  rw [List.map_set]
theorem index_u16 (l : List Nat) (hl : l.length = 16) (k : Nat) (hk : k < 16) (W : World) : (Instr.index 27 (.agg (Pol.u16C l).toArray) (.int .i64 (k : Int))).run Tryz.prog W = .ok (.int .u16 (l.getD k 0 : Int)) W := by
  have h := u16C_get (g := l) (r := k) (by omega)
  have hs : (Pol.u16C l).length = 16 := by rw [u16C_len, hl]
  simp [Instr.index, run_underlying Tryz.underlying27, go_sem, h, hs]
  intro h; omega
theorem GraphIn.range {b : Nat} {g : List Nat} {w : World} (h : GraphIn b g w) : w.rangeAt b 0 (Pol.u16C g) := range_of_block h 0 _ (fun j _ => by rw [Nat.zero_add])
theorem GraphIn.set {b : Nat} {g : List Nat} {w : World} (h : GraphIn b g w) (x v : Nat) : GraphIn b (g.set x v) (w.setCell ⟨b, x, none⟩ (.int .u16 (v : Int))) := by
  unfold GraphIn at h ⊢
  rw [← u16C_set]
  simp [World.setCell, Array.getElem?_modify, h]
theorem grown_set (W : World) (b x : Nat) (v : Value) : W.grownBy ((W.setCell ⟨b, x, none⟩ v).drew) (some b) :=
  ⟨rfl, rfl, rfl, by simp [World.setCell, World.drew], fun k hk hne => Below.heap_setCell W ⟨b, x, none⟩ v k (by simp at hne; simpa using hne)⟩
theorem turn_own (g : List Nat) (k b r : Nat) (W0 : World) (hb : b + 1 + 1 < W0.heap.size) (hr : r < W0.heap.size) : OwnFrom W0.heap.size (fun (pre : List (Fin 16)) W => GraphIn (b + 1 + 1) (Gr.turnRow g k (pre.map (·.val))) W ∧ Boxed W r 3 (.int .i64 (k : Int)) ∧ W0.grownBy W (some (b + 1 + 1))) := by
  rintro pre X Y row ⟨hv, hk, hgr⟩ hg hrow
  exact ⟨(hg.block _ (Array.getElem?_eq_some_iff.1 hv).1 (fun e => by have := (hrow _ e.symm).1; omega)).trans hv, hk.kept hg (fun e => by have := (hrow _ e.symm).1; omega), hgr.andThen hg (fun j e => .inl (hrow j e).1)⟩
theorem splice_full {a b : List Value} (h : a.length = b.length) : splice a 0 b = b := by
  unfold splice
  rw [List.take_zero, List.nil_append, List.drop_of_length_le (by omega), List.append_nil]
def zero16 : List Nat := List.replicate 16 0
theorem zero16_cells : (Pol.u16C zero16).toArray = #[.int .u16 0, .int .u16 0, .int .u16 0, .int .u16 0, .int .u16 0, .int .u16 0, .int .u16 0, .int .u16 0, .int .u16 0, .int .u16 0, .int .u16 0, .int .u16 0, .int .u16 0, .int .u16 0, .int .u16 0, .int .u16 0] := rfl
def TurnInv (g : List Nat) (w : World) (a' : Act) (W : World) : Prop := ∃ (k : Nat) (ds : List Nat) (u4 u5 u6 u9 u10 u11 u12 u13 u14 u15 u16 u17 u18 u19 u20 u21 u22 : Value), a' = { tmps := #[.agg (Pol.u16C g).toArray, .pointer (some ⟨w.heap.size, 0, none⟩), .pointer (some ⟨w.heap.size + 1, 0, none⟩), .pointer (some ⟨w.heap.size + 1 + 1, 0, none⟩), u4, u5, u6, .agg (Pol.u16C g).toArray, .int .i64 (k : Int), u9, u10, u11, u12, u13, u14, u15, u16, u17, u18, u19, u20, u21, u22, undef], defers := marks ds } ∧ k ≤ 16 ∧ GraphIn (w.heap.size + 1) zero16 W ∧ GraphIn (w.heap.size + 1 + 1) (Gr.turnRow g k []) W ∧ MarksAt (w.heap.size + 1 + 1 + 1) ds W ∧ Below w.heap.size w W
set_option maxRecDepth 100000 in
set_option maxHeartbeats 4000000 in
theorem gturn_ok (g : List Nat) (hg : g.length = 16) (hgl : ∀ a ∈ g, a < 65536) (w : World) (hT : TabAt w) :
    Calls Tryz.prog 170 #[.agg (Pol.u16C g).toArray] w fun e w' => e = .returned (.agg (Pol.u16C (Gr.turn g)).toArray) ∧ Below w.heap.size w w' := by
  have hl16 : (Pol.u16C g).length = 16 := by rw [u16C_len, hg]
  have HG0 := Lib.hid (show GraphIn w.heap.size g (w.alloc (.cells (Pol.u16C g).toArray 27)) from heap_alloc_new w _)
  have hBt := hT.lt
  have HT := Lib.hid hT
  have HL := Lib.hid hgl
  clear hT hgl
  refine (callsIn_wide (n := 9)).1 ?_
  refine callsIn_of_wp_marks Tryz.func170 rfl trivial ?_ rfl
  refine wpIn_wide.2 ?_
  simp only [Tryz.ntmps170, List.size_toArray, List.length_cons, List.length_nil, Nat.reduceAdd, Nat.reduceSub, Array.replicate_succ, Array.replicate_zero, List.push_toArray, List.append_toArray, List.nil_append, List.cons_append]
  go_wp2_with (refine wpList_load_mid rfl 27 (.tmp 1) rfl w.heap.size 0 rfl (Pol.u16C g) _ (GraphIn.range (by exact block_below (below_fresh _ _) (block_below (below_fresh _ _) HG0.out))) Tryz.underlying27 rfl (by rw [hl16]; exact info_u16s) ?_)
  have hZ2 : GraphIn (w.heap.size + 1) zero16 (((w.alloc (.cells (Pol.u16C g).toArray 27)).alloc (.cells (Pol.u16C zero16).toArray 27)).alloc (.cells (Pol.u16C zero16).toArray 27)) := by
    have h := block_below (below_fresh _ (.cells (Pol.u16C zero16).toArray 27)) (heap_alloc_new (w.alloc (.cells (Pol.u16C g).toArray 27)) (.cells (Pol.u16C zero16).toArray 27))
    rw [World.size_alloc] at h
    exact h
  have hZ3 : GraphIn (w.heap.size + 1 + 1) (Gr.turnRow g 0 []) (((w.alloc (.cells (Pol.u16C g).toArray 27)).alloc (.cells (Pol.u16C zero16).toArray 27)).alloc (.cells (Pol.u16C zero16).toArray 27)) := by
    have h := heap_alloc_new ((w.alloc (.cells (Pol.u16C g).toArray 27)).alloc (.cells (Pol.u16C zero16).toArray 27)) (.cells (Pol.u16C zero16).toArray 27)
    rw [World.size_alloc, World.size_alloc] at h
    exact h
  have hB3 : Below w.heap.size w (((w.alloc (.cells (Pol.u16C g).toArray 27)).alloc (.cells (Pol.u16C zero16).toArray 27)).alloc (.cells (Pol.u16C zero16).toArray 27)) := below_new (below_new (below_fresh _ _) _) _
  refine wp_loop (TurnInv g w)
    (fun a' _ => 16 - (intOf (a'.tmps.getD 8 undef)).toNat) ⟨0, [], _, _, _, _, _, _, _, _, _, _, _, _, _, _, _, _, _, rfl, by omega, hZ2, hZ3, MarksAt.nil _ _, hB3⟩ ?_
  clear hZ2 hZ3 hB3 HG0
  rintro a' wr ⟨k, ds, u4, u5, u6, u9, u10, u11, u12, u13, u14, u15, u16, u17, u18, u19, u20, u21, u22, rfl, hk, hZ, hO, hM, hB⟩
  have HZ := Lib.hid hZ
  have HO := Lib.hid hO
  have HM := Lib.hid hM
  have HB := Lib.hid hB
  clear hZ hO hM hB
  by_cases hk16 : k = 16
  · subst hk16
    rw [Gr.turnRow_all] at HO
    have hl : (Pol.u16C (Gr.turn g)).length = 16 := by rw [u16C_len]; simp [Gr.turn]
    have hl' : (Pol.u16C (Gr.turn g)).toArray.size = 16 := hl
    go_wp2_with (first
      | (refine wpList_load_mid rfl 27 (.tmp 3) rfl (w.heap.size + 1 + 1) 0 rfl (Pol.u16C (Gr.turn g)) _ HO.out.range Tryz.underlying27 rfl (by rw [hl]; exact info_u16s) ?_)
      | (refine wpList_store_mid rfl 27 _ _ rfl (w.heap.size + 1) 0 (Pol.u16C (Gr.turn g)).toArray rfl rfl (by rw [hl']; exact there_of_block HZ.out 0 16 (by simp [zero16, Pol.u16C])) (by rw [hl']; exact info_u16s) (all_oneCell_toArray (u16C_one _)) ?_))
    have HE := Lib.hid (show GraphIn (w.heap.size + 1) (Gr.turn g) (wr.setCells (w.heap.size + 1) 0 (Pol.u16C (Gr.turn g))) from by
      have h := heap_setCells_same (w.heap.size + 1) 27 (Pol.u16C (Gr.turn g)) 0 wr (Pol.u16C zero16) HZ.out (by rw [hl]; simp [zero16, Pol.u16C])
      rw [splice_full (by rw [hl]; simp [zero16, Pol.u16C])] at h
      exact h)
    have HM9 := Lib.hid (show MarksAt (w.heap.size + 1 + 1 + 1) ds (wr.setCells (w.heap.size + 1) 0 (Pol.u16C (Gr.turn g))) from ⟨HM.out.1, fun D hD => ⟨(HM.out.2 D hD).1, (heap_setCells_other (w.heap.size + 1) (Pol.u16C (Gr.turn g)) 0 wr D (by have := (HM.out.2 D hD).1; omega)).trans (HM.out.2 D hD).2⟩⟩)
    have HB9 := Lib.hid (below_setCells HB.out (show w.heap.size ≤ w.heap.size + 1 by omega) 0 (Pol.u16C (Gr.turn g)))
    refine leaves_marks (B := w.heap.size + 1 + 1 + 1) ds _ HM9.out ⟨_, results_cell rfl (w.heap.size + 1) 0 rfl (Pol.u16C (Gr.turn g)) _ (GraphIn.range ?_) Tryz.underlying27 rfl (by rw [hl]; exact info_u16s), rfl, ?_⟩
    · unfold GraphIn
      rw [unmark_block ds _ _ (fun hm => by have := (HM9.out.2 _ hm).1; omega)]
      exact HE.out
    · exact unmark_below ds _ (MarksAt.low HM9.out (by omega)) HB9.out
  · have hkl : k < 16 := by omega
    have hki : (k : Int) < 16 := by omega
    have hix := fun W => index_u16 g hg k hkl W
    have hs := getD_lt HL.out k
    obtain ⟨s, hse⟩ : ∃ s, s = g.getD k 0 := ⟨_, rfl⟩
    simp only [← hse] at hix hs
    have HSE := Lib.hid hse
    clear hse hk16
    go_wp2_with (go_at_call 105; refine (each_ok s _).mono ?_; rintro e w' ⟨rfl, hw'⟩; obtain rfl := hw'.symm)
    have hW0 : wr.grownBy ((wr.alloc (.cells #[.int .i64 (k : Int)] 3)).alloc (.cells #[.int .u16 (s : Int)] 23)) (some (w.heap.size + 1 + 1)) := (World.grownBy_alloc wr _ _).trans (World.grownBy_alloc _ _ _)
    have hbk : Boxed ((wr.alloc (.cells #[.int .i64 (k : Int)] 3)).alloc (.cells #[.int .u16 (s : Int)] 23)) wr.heap.size 3 (.int .i64 (k : Int)) := (Boxed.new wr _ _).alloc _
    have hbs : Boxed ((wr.alloc (.cells #[.int .i64 (k : Int)] 3)).alloc (.cells #[.int .u16 (s : Int)] 23)) (wr.heap.size + 1) 23 (.int .u16 (s : Int)) := by
      have := Boxed.new (wr.alloc (.cells #[.int .i64 (k : Int)] 3)) 23 (.int .u16 (s : Int))
      rw [World.size_alloc] at this
      exact this
    have hO0 : GraphIn (w.heap.size + 1 + 1) (Gr.turnRow g k []) ((wr.alloc (.cells #[.int .i64 (k : Int)] 3)).alloc (.cells #[.int .u16 (s : Int)] 23)) := block_below (below_fresh _ _) (block_below (below_fresh _ _) HO.out)
    have hz0 : ((wr.alloc (.cells #[.int .i64 (k : Int)] 3)).alloc (.cells #[.int .u16 (s : Int)] 23)).heap.size = wr.heap.size + 2 := by simp
    have hOl : w.heap.size + 1 + 1 < wr.heap.size := (Array.getElem?_eq_some_iff.1 HO.out).1
    have hT0 : TabAt ((wr.alloc (.cells #[.int .i64 (k : Int)] 3)).alloc (.cells #[.int .u16 (s : Int)] 23)) := (HT.out.below HB.out).grown hW0 (by omega)
    obtain ⟨W0, hW0e⟩ : ∃ W0, W0 = ((wr.alloc (.cells #[.int .i64 (k : Int)] 3)).alloc (.cells #[.int .u16 (s : Int)] 23)) := ⟨_, rfl⟩
    rw [← hW0e] at hW0 hbk hbs hO0 hz0 hT0
    rw [← hW0e]
    have HZ0 := Lib.hid hz0
    have HW0 := Lib.hid hW0
    clear hW0e hz0 hW0
    have hseq := each_seqF 8 (wr.heap.size + 1) s (w.heap.size + 1 + 1) hs W0 (by omega) hbs hT0
    refine (wpIn_wide (n := 9)).1 (wpIn_rangeFunc_ownH rfl (by omega) (gf := 168) (lb := #[.pointer (some ⟨wr.heap.size + 1, 0, none⟩)]) rfl trivial (enters_of Tryz.func168 (by kernel_rfl) rfl)
      hseq keepsLow_t (keepsLow_b (by have := HZ0.out; omega)) (Below.refl _ _) (fun _ => rfl)
      (fun pre W => GraphIn (w.heap.size + 1 + 1) (Gr.turnRow g k (pre.map (·.val))) W ∧ Boxed W wr.heap.size 3 (.int .i64 (k : Int)) ∧ W0.grownBy W (some (w.heap.size + 1 + 1)))
      (fun _ _ _ => False)
      (turn_own g k w.heap.size wr.heap.size W0 (by have := HZ0.out; omega) (by have := HZ0.out; omega))
      (fun _ _ _ _ _ hs _ _ => hs)
      ⟨hO0, hbk, World.grownBy.refl _ _⟩
      (fun x a' W => a' = { tmps := #[.agg (Pol.u16C g).toArray, .pointer (some ⟨w.heap.size, 0, none⟩), .pointer (some ⟨w.heap.size + 1, 0, none⟩), .pointer (some ⟨w.heap.size + 1 + 1, 0, none⟩), .pointer (some ⟨wr.heap.size, 0, none⟩), .int .u16 (s : Int), .int .i64 (x.val : Int), .agg (Pol.u16C g).toArray, .int .i64 (k : Int), .bool true, .int .i64 (k : Int), .int .u16 (s : Int), .int .u16 (s : Int), .func (.func 168) #[] #[.pointer (some ⟨wr.heap.size + 1, 0, none⟩)], .int .i64 (x.val : Int), u15, u16, u17, u18, u19, u20, u21, u22, undef], defers := [] })
      (fun x a' _ A B row hs hg hr => hs) ?assign ?body ?done ?stop)
    case assign =>
      rintro l pre x W K ⟨hv, hbk, hgr⟩ hK
      simp only [List.zip_toArray, List.zip_cons_cons, List.zip_nil_right, List.foldl_toArray', List.foldl_cons, List.foldl_nil, List.setIfInBounds_toArray, List.set_cons_succ, List.set_cons_zero]
      gi_wp2
      exact hK _ _ ((KeepsOthers.refl _).from _) (fun _ _ => rfl) ⟨hv, hbk, hgr⟩ rfl
    case body =>
      rintro l pre x a' W hl _ ⟨hv, hbk, hgr⟩ rfl hlen
      obtain ⟨x, hx⟩ := x
      dsimp only
      have hcv := hv.cell (r := x) (by rw [Gr.turnRow_len]; exact hx)
      have hgd : (Gr.turnRow g k (pre.map (fun z : Fin 16 => z.val))).getD x 0 = Gr.turnAt g k (pre.map (fun z : Fin 16 => z.val)) x := by
        rw [List.getD_eq_getElem?_getD, Gr.turnAt_get g k _ hx]; rfl
      have hnx := Gr.turnRow_snoc g k (pre.map (fun z : Fin 16 => z.val)) x hx
      have hva := Gr.turnAt_lt g hkl (pre.map (fun z : Fin 16 => z.val)) x
      rw [hgd] at hcv
      obtain ⟨v, hve⟩ : ∃ v, v = Gr.turnAt g k (pre.map (fun z : Fin 16 => z.val)) x := ⟨_, rfl⟩
      rw [← hve] at hcv hnx hva
      have HOR := or_shift hva hkl
      obtain ⟨v1, hv1⟩ : ∃ v1, v1 = v ||| 2 ^ k := ⟨_, rfl⟩
      rw [← hv1] at HOR hnx
      have HN := Lib.hid hnx
      have hfv : W.frozen? ⟨w.heap.size + 1 + 1, x, none⟩ = false := by
        have h := hv
        unfold GraphIn at h
        simp [World.frozen?, h]
      have hlv : w.heap.size + 1 + 1 < W.heap.size := (Array.getElem?_eq_some_iff.1 hv).1
      have hck := hbk.cell
      have hlk := hbk.lt
      have hxj : (x : Int) < 16 := by omega
      have hgx : W.grownBy ((W.setCell ⟨w.heap.size + 1 + 1, x, none⟩ (.int .u16 (v1 : Int))).drew) (some (w.heap.size + 1 + 1)) := grown_set W _ _ _
      have HEND : Hid (KeepsFrom W0.heap.size W ((W.setCell ⟨w.heap.size + 1 + 1, x, none⟩ (.int .u16 (v1 : Int))).drew) ∧ KeepsLow (w.heap.size + 1 + 1) W ((W.setCell ⟨w.heap.size + 1 + 1, x, none⟩ (.int .u16 (v1 : Int))).drew) ∧
          (GraphIn (w.heap.size + 1 + 1) (Gr.turnRow g k ((pre ++ [(⟨x, hx⟩ : Fin 16)]).map (fun z : Fin 16 => z.val))) ((W.setCell ⟨w.heap.size + 1 + 1, x, none⟩ (.int .u16 (v1 : Int))).drew) ∧ Boxed ((W.setCell ⟨w.heap.size + 1 + 1, x, none⟩ (.int .u16 (v1 : Int))).drew) wr.heap.size 3 (.int .i64 (k : Int)) ∧ W0.grownBy ((W.setCell ⟨w.heap.size + 1 + 1, x, none⟩ (.int .u16 (v1 : Int))).drew) (some (w.heap.size + 1 + 1)))) := Lib.hid (by
        refine ⟨KeepsFrom.of_grownBy hgx (fun j e => by cases e; have := HZ0.out; omega), grown_low hgx (by omega) (Nat.le_refl _), ?_, hbk.kept hgx (by simp; omega), hgr.trans hgx⟩
        rw [List.map_append, List.map_singleton]
        show GraphIn _ (Gr.turnRow g k (pre.map (fun z : Fin 16 => z.val) ++ [x])) _
        rw [← HN.out]
        exact hv.set x v1)
      clear hv hbk hgr hgx hnx hgd hve hv1 HN
      gi_wp2_with fail
      gi_region_with (fail)
      all_goals exact HEND.out
    case done =>
      rintro D ys W hD hys ⟨hv, hbk, hgr⟩ hK
      have hnext : GraphIn (w.heap.size + 1 + 1) (Gr.turnRow g (k + 1) []) W := by
        rw [← Gr.turnRow_next g k (ys.map (fun z : Fin 16 => z.val)) (by rw [hys, HSE.out])]
        exact hv
      have HNX := Lib.hid hnext
      have hgw := HW0.out.trans hgr
      have HZ9 := Lib.hid (show GraphIn (w.heap.size + 1) zero16 W from (hgw.block _ (Array.getElem?_eq_some_iff.1 HZ.out).1 (by simp)).trans HZ.out)
      have HM9 := Lib.hid ((HM.out.grown hgw (by omega)).cons (N := wr.heap.size) (fun x hx => HM.out.lt hx) (by have := HZ0.out; omega) (by have := HZ0.out; omega) hK)
      have HB9 := Lib.hid (HB.out.grown hgw HB.out.size (fun j e => by cases e; omega))
      clear hv hbk hgr hK hys hnext hgw
      simp only
      go_wp2_with fail
      refine ⟨⟨k + 1, D :: ds, _, _, _, _, _, _, _, _, _, _, _, _, _, _, _, _, _, rfl, by omega, HZ9.out, HNX.out, HM9.out, HB9.out⟩, ?_⟩
      simp [intOf]; omega
    case stop =>
      rintro D c pre W _ _ h _
      exact h.elim
theorem turn_lt (g : List Nat) : ∀ a ∈ Gr.turn g, a < 65536 := fun a ha => by
  obtain ⟨q, _, rfl⟩ := List.mem_map.1 ha
  exact Gr.turned_lt g q
set_option maxRecDepth 100000 in
set_option maxHeartbeats 4000000 in
theorem gup_ok (g : List Nat) (hg : g.length = 16) (hgl : ∀ a ∈ g, a < 65536) (fr wi : Nat) (hfr : fr < 65536) (hwi : wi < 65536) (w : World) (hT : TabAt w) :
    Calls Tryz.prog 107 #[.agg (Pol.u16C g).toArray, .int .u16 (fr : Int), .int .u16 (wi : Int)] w fun e w' => e = .returned (.int .u16 (Gr.down (Gr.turn g) wi fr : Int)) ∧ Below w.heap.size w w' := by
  have hl16 : (Pol.u16C g).length = 16 := by rw [u16C_len, hg]
  have HB0 := Lib.hid (below_fresh w (.cells (Pol.u16C g).toArray 27))
  have HG0 := Lib.hid (show GraphIn w.heap.size g (w.alloc (.cells (Pol.u16C g).toArray 27)) from heap_alloc_new w _)
  have HTU := Lib.hid (fun w h => gturn_ok g hg hgl w h)
  have HDN := Lib.hid (fun w h => gdown_ok (Gr.turn g) (by simp [Gr.turn]) (turn_lt g) fr wi hfr hwi w h)
  have HT := Lib.hid hT
  clear hT hgl
  go_enter Tryz.func107, Tryz.ntmps107
  go_wp2_with (first
    | (refine wpList_load_mid rfl 27 (.tmp 3) rfl w.heap.size 0 rfl (Pol.u16C g) _ HG0.out.range Tryz.underlying27 rfl (by rw [hl16]; exact info_u16s) ?_)
    | (go_at_call 170; refine (HTU.out _ (HT.out.below HB0.out)).mono ?_; rintro e w1 ⟨rfl, hb1⟩; have HB1 := Lib.hid (below_here HB0.out hb1); clear hb1)
    | (go_at_call 108; refine (HDN.out _ (HT.out.below HB1.out)).mono ?_; rintro e w2 ⟨rfl, hb2⟩))
  go_ret
  exact ⟨rfl, below_here HB1.out hb2⟩
end Go.Proofs.YtlmacaenbililaaGreatDoor
namespace Go.Proofs.YtlmacaenbililaaGreatDoor
open Go.RowKit Go.Shelf
set_option linter.unusedSimpArgs false
set_option linter.unusedVariables false
attribute [local go_sem] cell_over frozen_over Oper.semAt_some

def PolIn (b : Nat) (p : Pol.P) (W : World) : Prop := W.heap[b]? = some (.cells (Pol.cells p).toArray 30 (0, 0))
theorem PolIn.range {b : Nat} {p : Pol.P} {W : World} (h : PolIn b p W) : W.rangeAt b 0 (Pol.cells p) := range_of_block h 0 _ (fun j _ => by rw [Nat.zero_add])
theorem PolIn.cell {b : Nat} {p : Pol.P} {W : World} (h : PolIn b p W) (j : Nat) {v : Value} (hv : (Pol.cells p)[j]? = some v) : W.cell? ⟨b, j, none⟩ = some v := by
  rw [cell_of_row W b j _ _ _ h, List.getElem?_toArray, hv]
theorem PolIn.lt {b : Nat} {p : Pol.P} {W : World} (h : PolIn b p W) : b < W.heap.size := (Array.getElem?_eq_some_iff.1 h).1
theorem PolIn.grown {b c : Nat} {p : Pol.P} {A W : World} (h : PolIn b p A) (hg : A.grownBy W (some c)) (hc : b ≠ c) : PolIn b p W := (hg.block b h.lt (by simpa using hc)).trans h
theorem PolIn.lab1 {b : Nat} {p : Pol.P} {W : World} (h : PolIn b p W) (hp : Pol.Ok p) {r : Nat} (hr : r < 16) : W.cell? ⟨b, 1 + r * 2, none⟩ = some (.int .u16 ((Pol.lab p r).1 : Int)) := h.cell _ (by have := (Pol.cell_lab hp hr).1; rwa [Nat.mul_comm] at this)
theorem PolIn.lab2 {b : Nat} {p : Pol.P} {W : World} (h : PolIn b p W) (hp : Pol.Ok p) {r : Nat} (hr : r < 16) : W.cell? ⟨b, 1 + r * 2 + 1, none⟩ = some (.int .u16 ((Pol.lab p r).2 : Int)) := h.cell _ (by have := (Pol.cell_lab hp hr).2; rwa [Nat.mul_comm] at this)
namespace Pol
/-- Those of a list of which f is so. -/
def pick (f : Nat → Bool) (l : List Nat) : Nat := l.foldl (fun o t => if f t = true then o ||| 2 ^ t else o) 0
theorem pick_snoc (f : Nat → Bool) (l : List Nat) (x : Nat) : pick f (l ++ [x]) = if f x = true then pick f l ||| 2 ^ x else pick f l := by
  unfold pick
  rw [List.foldl_append]
  rfl
theorem pick_fold (f : Nat → Bool) : ∀ (l : List Nat), (∀ t ∈ l, t < 16) → ∀ (o i : Nat), (l.foldl (fun o t => if f t = true then o ||| 2 ^ t else o) o).testBit i = (o.testBit i || (decide (i ∈ l) && f i))
  | [], _, o, i => by simp
  | r :: l, h, o, i => by
    rw [List.foldl_cons, pick_fold f l (fun x hx => h x (List.mem_cons_of_mem _ hx))]
    cases hb : f r with
    | true =>
      rw [if_pos rfl, Gr.bit_add (h r List.mem_cons_self)]
      by_cases e : r = i
      · subst e
        rw [hb]
        simp
      · simp [e, Ne.symm e]
    | false =>
      rw [if_neg (by simp)]
      by_cases e : r = i
      · subst e
        rw [hb]
        simp
      · simp [Ne.symm e]
theorem pick_lt (f : Nat → Bool) : ∀ (l : List (Fin 16)) (o : Nat), o < 65536 → (l.map (fun z : Fin 16 => z.val)).foldl (fun o t => if f t = true then o ||| 2 ^ t else o) o < 65536
  | [], o, h => h
  | r :: l, o, h => by
    rw [List.map_cons, List.foldl_cons]
    refine pick_lt f l _ ?_
    split
    · exact Nat.or_lt_two_pow (n := 16) h (p16 r.isLt)
    · exact h
theorem pick_seen (p : P) (hp : p.live < 65536) (l : Lab.L) : pick (fun r => Lab.flows (lab p r) l) (Tag.tags p.live) = seen p l := by
  refine set_eq ?_ fun i hi => ?_
  · have e : ∃ m : List (Fin 16), m.map (fun z : Fin 16 => z.val) = Tag.tags p.live := ⟨(Tag.tags p.live).attach.map (fun t => ⟨t.1, (Tag.tags_lt _ t.1 t.2).1⟩), by simp⟩
    obtain ⟨m, hm⟩ := e
    unfold pick
    rw [← hm]
    exact pick_lt _ m 0 (by omega)
  · unfold pick
    rw [pick_fold _ _ (fun t ht => (Tag.tags_lt _ t ht).1), Nat.zero_testBit, Bool.false_or]
    congr 1
    rw [Bool.eq_iff_iff, decide_eq_true_eq, Tag.mem_tags]
    exact ⟨fun h => h.2, fun h => ⟨hi, h⟩⟩
end Pol
theorem pick_own (f : Nat → Bool) (B : Nat) (W2 : World) (hlo : B < W2.heap.size) : OwnFrom W2.heap.size (fun (pre : List (Fin 16)) W => Boxed W B 23 (.int .u16 (Pol.pick f (pre.map (fun z : Fin 16 => z.val)) : Int)) ∧ W2.grownBy W (some B)) := by
  rintro pre X Y row ⟨hv, hgr⟩ hg hr
  exact ⟨hv.kept hg (fun e => by have := (hr _ e.symm).1; omega), hgr.andThen hg (fun j e => .inl (hr j e).1)⟩
set_option maxRecDepth 100000 in
set_option maxHeartbeats 4000000 in
theorem pseen_ok (p : Pol.P) (hp : Pol.Ok p) (la : Lab.L) (hla : Lab.ok la) (w : World) (hT : TabAt w) :
    Calls Tryz.prog 104 #[Pol.val p, labV la] w fun e w' => e = .returned (.int .u16 (Pol.seen p la : Int)) ∧ Below w.heap.size w w' := by
  have hE0 : PolIn w.heap.size p (w.alloc (.cells (Pol.cells p).toArray 30)) := heap_alloc_new w _
  have hcl := (PolIn.cell (block_below (below_fresh _ (.cells #[.int .u16 0] 23)) (block_below (below_fresh _ (.cells #[.int .u16 (la.1 : Int), .int .u16 (la.2 : Int)] 25)) hE0)) 0 (Pol.cell_live p))
  have HOK := Lib.hid hp
  have HLA := Lib.hid hla
  have HT := Lib.hid hT
  have hBt := hT.lt
  have hlive := hp.live
  obtain ⟨lv, hlv⟩ : ∃ lv, lv = p.live := ⟨_, rfl⟩
  rw [← hlv] at hcl hlive
  have HLV := Lib.hid hlv
  have HF := Lib.hid (fun r w => flows_ok (Pol.lab p r) la (Pol.lab_ok hp r) hla w)
  have HE0 := Lib.hid hE0
  clear hp hla hT hE0 hlv
  refine (callsIn_wide (n := 9)).1 ?_
  refine callsIn_of_wp_marks Tryz.func104 rfl trivial ?_ rfl
  refine wpIn_wide.2 ?_
  simp only [Tryz.ntmps104, List.size_toArray, List.length_cons, List.length_nil, Nat.reduceAdd, Nat.reduceSub, Array.replicate_succ, Array.replicate_zero, List.push_toArray, List.append_toArray, List.nil_append, List.cons_append]
  obtain ⟨l1, l2⟩ := la
  unfold Pol.val
  go_wp2_with (go_at_call 105; refine (each_ok lv _).mono ?_; rintro e w' ⟨rfl, hw'⟩; obtain rfl := hw'.symm)
  have hE4 : PolIn w.heap.size p ((((w.alloc (.cells (Pol.cells p).toArray 30)).alloc (.cells #[.int .u16 (l1 : Int), .int .u16 (l2 : Int)] 25)).alloc (.cells #[.int .u16 0] 23)).alloc (.cells #[.int .u16 (lv : Int)] 23)) := block_below (below_fresh _ _) (block_below (below_fresh _ _) (block_below (below_fresh _ _) HE0.out))
  have hL4 : ((((w.alloc (.cells (Pol.cells p).toArray 30)).alloc (.cells #[.int .u16 (l1 : Int), .int .u16 (l2 : Int)] 25)).alloc (.cells #[.int .u16 0] 23)).alloc (.cells #[.int .u16 (lv : Int)] 23)).heap[w.heap.size + 1]? = some (.cells #[.int .u16 (l1 : Int), .int .u16 (l2 : Int)] 25 (0, 0)) := by
    have h := block_below (below_fresh _ (.cells #[.int .u16 (lv : Int)] 23)) (block_below (below_fresh _ (.cells #[.int .u16 0] 23)) (heap_alloc_new (w.alloc (.cells (Pol.cells p).toArray 30)) (.cells #[.int .u16 (l1 : Int), .int .u16 (l2 : Int)] 25)))
    rw [World.size_alloc] at h
    exact h
  have hO4 : Boxed ((((w.alloc (.cells (Pol.cells p).toArray 30)).alloc (.cells #[.int .u16 (l1 : Int), .int .u16 (l2 : Int)] 25)).alloc (.cells #[.int .u16 0] 23)).alloc (.cells #[.int .u16 (lv : Int)] 23)) (w.heap.size + 1 + 1) 23 (.int .u16 ((0 : Nat) : Int)) := by
    have h1 := Boxed.new ((w.alloc (.cells (Pol.cells p).toArray 30)).alloc (.cells #[.int .u16 (l1 : Int), .int .u16 (l2 : Int)] 25)) 23 (.int .u16 0)
    rw [World.size_alloc, World.size_alloc] at h1
    exact h1.alloc _
  have hS4 : Boxed ((((w.alloc (.cells (Pol.cells p).toArray 30)).alloc (.cells #[.int .u16 (l1 : Int), .int .u16 (l2 : Int)] 25)).alloc (.cells #[.int .u16 0] 23)).alloc (.cells #[.int .u16 (lv : Int)] 23)) (w.heap.size + 1 + 1 + 1) 23 (.int .u16 (lv : Int)) := by
    have h1 := Boxed.new (((w.alloc (.cells (Pol.cells p).toArray 30)).alloc (.cells #[.int .u16 (l1 : Int), .int .u16 (l2 : Int)] 25)).alloc (.cells #[.int .u16 0] 23)) 23 (.int .u16 (lv : Int))
    rw [World.size_alloc, World.size_alloc, World.size_alloc] at h1
    exact h1
  have hB4 : Below w.heap.size w ((((w.alloc (.cells (Pol.cells p).toArray 30)).alloc (.cells #[.int .u16 (l1 : Int), .int .u16 (l2 : Int)] 25)).alloc (.cells #[.int .u16 0] 23)).alloc (.cells #[.int .u16 (lv : Int)] 23)) := below_new (below_new (below_new (below_fresh w _) _) _) _
  have hT4 := HT.out.below hB4
  have hz4 : ((((w.alloc (.cells (Pol.cells p).toArray 30)).alloc (.cells #[.int .u16 (l1 : Int), .int .u16 (l2 : Int)] 25)).alloc (.cells #[.int .u16 0] 23)).alloc (.cells #[.int .u16 (lv : Int)] 23)).heap.size = w.heap.size + 4 := by simp
  obtain ⟨W4, hW4⟩ : ∃ W4, W4 = ((((w.alloc (.cells (Pol.cells p).toArray 30)).alloc (.cells #[.int .u16 (l1 : Int), .int .u16 (l2 : Int)] 25)).alloc (.cells #[.int .u16 0] 23)).alloc (.cells #[.int .u16 (lv : Int)] 23)) := ⟨_, rfl⟩
  rw [← hW4] at hE4 hL4 hO4 hS4 hB4 hT4 hz4
  rw [← hW4]
  have HE4 := Lib.hid hE4
  have HL4 := Lib.hid hL4
  have HB4 := Lib.hid hB4
  have HZ4 := Lib.hid hz4
  have hseq := each_seqF 8 (w.heap.size + 1 + 1 + 1) lv (w.heap.size + 1 + 1) hlive W4 (by omega) hS4 hT4
  clear hcl hW4 hz4 hE4 hL4 hS4 hB4
  refine (wpIn_wide (n := 9)).1 (wpIn_rangeFunc_ownH rfl (by omega) (gf := 168) (lb := #[.pointer (some ⟨w.heap.size + 1 + 1 + 1, 0, none⟩)]) rfl trivial (enters_of Tryz.func168 (by kernel_rfl) rfl)
    hseq keepsLow_t (keepsLow_b (by have := HZ4.out; omega)) (Below.refl _ _) (fun _ => rfl)
    (fun pre W => Boxed W (w.heap.size + 1 + 1) 23 (.int .u16 (Pol.pick (fun r => Lab.flows (Pol.lab p r) (l1, l2)) (pre.map (fun z : Fin 16 => z.val)) : Int)) ∧ W4.grownBy W (some (w.heap.size + 1 + 1)))
    (fun _ _ _ => False)
    (pick_own _ (w.heap.size + 1 + 1) W4 (by have := HZ4.out; omega))
    (fun _ _ _ _ _ hs _ _ => hs)
    ⟨hO4, World.grownBy.refl _ _⟩
    (fun x a' W => a' = { tmps := #[.agg (Pol.cells p).toArray, labV (l1, l2), .pointer (some ⟨w.heap.size, 0, none⟩), .pointer (some ⟨w.heap.size + 1, 0, none⟩), .int .u16 0, .pointer (some ⟨w.heap.size + 1 + 1, 0, none⟩), .int .i64 (x.val : Int), .pointer (some ⟨w.heap.size, 0, none⟩), .int .u16 (lv : Int), .func (.func 168) #[] #[.pointer (some ⟨w.heap.size + 1 + 1 + 1, 0, none⟩)], .int .i64 (x.val : Int), undef, undef, undef, undef, undef, undef, undef, undef, undef, undef, undef], defers := [] })
    (fun x a' _ A B row hs hg hr => hs) ?assign ?body ?done ?stop)
  case assign =>
    rintro l pre x W K ⟨hv, hgr⟩ hK
    simp only [List.zip_toArray, List.zip_cons_cons, List.zip_nil_right, List.foldl_toArray', List.foldl_cons, List.foldl_nil, List.setIfInBounds_toArray, List.set_cons_succ, List.set_cons_zero]
    gi_wp2
    exact hK _ _ ((KeepsOthers.refl _).from _) (fun _ _ => rfl) ⟨hv, hgr⟩ rfl
  case body =>
    rintro l pre x a' W hl _ ⟨hv, hgr⟩ rfl hlen
    obtain ⟨x, hx⟩ := x
    dsimp only
    have hE := HE4.out.grown hgr (by omega)
    have hLb := (hgr.block _ (Array.getElem?_eq_some_iff.1 HL4.out).1 (by simp)).trans HL4.out
    obtain ⟨c1, c2, c3, c4⟩ := pair_cells hLb
    have hb1 := hE.lab1 HOK.out hx
    have hb2 := hE.lab2 HOK.out hx
    have hEl := hE.lt
    have hLl := World.block_lt_of_cell? W _ c1
    have hvl := hv.lt
    have hxj : (x : Int) < 16 := by omega
    have HFX := Lib.hid (HF.out x)
    have hpk := Pol.pick_snoc (fun r => Lab.flows (Pol.lab p r) (l1, l2)) (pre.map (fun z : Fin 16 => z.val)) x
    have hplt : Pol.pick (fun r => Lab.flows (Pol.lab p r) (l1, l2)) (pre.map (fun z : Fin 16 => z.val)) < 65536 := Pol.pick_lt _ pre 0 (by omega)
    obtain ⟨o, ho⟩ : ∃ o, o = Pol.pick (fun r => Lab.flows (Pol.lab p r) (l1, l2)) (pre.map (fun z : Fin 16 => z.val)) := ⟨_, rfl⟩
    rw [← ho] at hv hpk hplt
    try simp only at hpk
    generalize Lab.flows (Pol.lab p x) (l1, l2) = d at HFX hpk
    generalize Pol.lab p x = q at hb1 hb2 HFX
    obtain ⟨q1, q2⟩ := q
    have HPK := Lib.hid hpk
    have HV := Lib.hid hv
    have HGR := Lib.hid hgr
    have HPL := Lib.hid hplt
    clear hE hLb hv hgr hpk hplt ho
    gi_wp2_with fail
    gi_region_with (refine ⟨trivial, ?_⟩; refine (CallsIn.inRound l (callsIn_wide.2 (HFX.out _))).mono ?_; rintro e w3 ⟨rfl, hb3⟩)
    all_goals
      have hg3 : W.grownBy w3 (some (w.heap.size + 1 + 1)) := ⟨hb3.os, hb3.tape, hb3.output, hb3.size, fun k hk _ => hb3.block k hk⟩
      have HG3 := Lib.hid hg3
      have hv3 : Boxed w3 (w.heap.size + 1 + 1) 23 (.int .u16 (o : Int)) := (hb3.block _ hvl).trans HV.out
      have HV3 := Lib.hid hv3
      have hcv := hv3.cell
      have hfv := hv3.frozen
      have hlv3 := hv3.lt
      clear hb3 hg3 hv3 c1 c2 c3 c4 hb1 hb2
      cases d with
      | false =>
        have HEND : Hid (KeepsFrom W4.heap.size W w3 ∧ KeepsLow (w.heap.size + 1 + 1) W w3 ∧ (Boxed w3 (w.heap.size + 1 + 1) 23 (.int .u16 (Pol.pick (fun r => Lab.flows (Pol.lab p r) (l1, l2)) ((pre ++ [(⟨x, hx⟩ : Fin 16)]).map (fun z : Fin 16 => z.val)) : Int)) ∧ W4.grownBy w3 (some (w.heap.size + 1 + 1)))) := Lib.hid (by
          refine ⟨KeepsFrom.of_grownBy HG3.out (fun j e => by cases e; have := HZ4.out; omega), grown_low HG3.out (by omega) (Nat.le_refl _), ?_, HGR.out.trans HG3.out⟩
          rw [List.map_append, List.map_singleton]
          show Boxed w3 _ _ (.int .u16 ((Pol.pick _ (pre.map (fun z : Fin 16 => z.val) ++ [x]) : Nat) : Int))
          rw [HPK.out, if_neg (by simp)]
          exact HV3.out)
        clear HPK HV HV3 HGR HG3 HPL
        gi_wp2_with fail
        exact HEND.out
      | true =>
        have HOR := or_shift HPL.out hx
        obtain ⟨o1, ho1⟩ : ∃ o1, o1 = o ||| 2 ^ x := ⟨_, rfl⟩
        rw [← ho1] at HOR HPK
        have HEND : Hid (KeepsFrom W4.heap.size W ((w3.setCell ⟨w.heap.size + 1 + 1, 0, none⟩ (.int .u16 (o1 : Int))).drew) ∧ KeepsLow (w.heap.size + 1 + 1) W ((w3.setCell ⟨w.heap.size + 1 + 1, 0, none⟩ (.int .u16 (o1 : Int))).drew) ∧ (Boxed ((w3.setCell ⟨w.heap.size + 1 + 1, 0, none⟩ (.int .u16 (o1 : Int))).drew) (w.heap.size + 1 + 1) 23 (.int .u16 (Pol.pick (fun r => Lab.flows (Pol.lab p r) (l1, l2)) ((pre ++ [(⟨x, hx⟩ : Fin 16)]).map (fun z : Fin 16 => z.val)) : Int)) ∧ W4.grownBy ((w3.setCell ⟨w.heap.size + 1 + 1, 0, none⟩ (.int .u16 (o1 : Int))).drew) (some (w.heap.size + 1 + 1)))) := Lib.hid (by
          have hgx := HG3.out.trans (grown_set w3 (w.heap.size + 1 + 1) 0 (.int .u16 (o1 : Int)))
          refine ⟨KeepsFrom.of_grownBy hgx (fun j e => by cases e; have := HZ4.out; omega), grown_low hgx (by omega) (Nat.le_refl _), ?_, HGR.out.trans hgx⟩
          rw [List.map_append, List.map_singleton]
          show Boxed _ _ _ (.int .u16 ((Pol.pick _ (pre.map (fun z : Fin 16 => z.val) ++ [x]) : Nat) : Int))
          rw [HPK.out, if_pos rfl]
          exact (HV3.out.set _).kept (grown_drew _ none) (by simp))
        clear HPK HV HV3 HGR HG3 HPL ho1
        gi_wp2_with fail
        gi_region_with (fail)
        all_goals exact HEND.out
  case done =>
    rintro D ys W hD hys ⟨hv, hgr⟩ hK
    have HKD := Lib.hid hK
    have hr := Pol.pick_seen p HOK.out.live (l1, l2)
    rw [← HLV.out, ← hys] at hr
    rw [hr] at hv
    have hcp := hv.cell
    have hlp := hv.lt
    have HB9 := Lib.hid (HB4.out.grown hgr (by have := HZ4.out; omega) (fun k e => by cases e; omega))
    have hDw : w.heap.size ≤ D := by have := HZ4.out; omega
    clear hK hgr hys hr hv
    simp only
    go_wp2_with fail
    exact ⟨by simp, .inl ⟨_, _, rfl, run_takeDeferred HKD.out, _, results_tmp rfl _ _ _, rfl, HB9.out.trans (belowK_b (w := w) (Nat.le_refl _) W D _ _ hDw HKD.out rfl rfl)⟩⟩
  case stop =>
    rintro D c pre W _ _ h _
    exact h.elim
end Go.Proofs.YtlmacaenbililaaGreatDoor
