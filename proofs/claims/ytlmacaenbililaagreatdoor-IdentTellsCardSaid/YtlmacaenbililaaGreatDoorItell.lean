/- IdentTells: a row of moves that came in, opened; the walk. No conditions. -/
import Derived.Test.YtlmacaenbililaaGreatDoorKa
import Derived.Test.YtlmacaenbililaaGreatDoorKb
import Derived.Test.YtlmacaenbililaaGreatDoorRlane
import Derived.Test.YtlmacaenbililaaGreatDoorIalive
import Derived.Test.YtlmacaenbililaaGreatDoorIopen
import Derived.OpenShut
namespace Go.Proofs.YtlmacaenbililaaGreatDoor
open Go.RowKit Go.Shelf Go.WideShapes
set_option linter.unusedSimpArgs false
set_option linter.unusedVariables false
attribute [local go_sem] cell_over frozen_over

def kPr : Kn (Int × Int) := ⟨2, fun _ x cs => cs = [.int .i64 x.1, .int .i64 x.2]⟩
set_option maxRecDepth 100000 in
theorem opens_pr : Opens Tryz.prog 158 kPr (fun _ => True) := ⟨fun {H} enc w base spare held fuel cs x hx => by
  obtain ⟨xs, n, _, _, hl, hxl, hf⟩ := DataW.trod_array Tryz.underlying158 hx
  have hc : Tryz.prog.cellsOf 3 = 1 := by kernel_rfl
  have hct : Tryz.prog.cellsOf 158 = 2 := by kernel_rfl
  rw [hct] at hl
  have h0 := hf 0 (by omega)
  have h1 := hf 1 (by omega)
  rw [hc] at h0 h1
  match cs, hl with
  | [c0, c1], _ =>
    rw [List.getElem?_eq_getElem (by omega)] at h0 h1
    obtain ⟨n0, e0, _, _⟩ := DataW.trod_int Tryz.underlying3 h0
    obtain ⟨n1, e1, _, _⟩ := DataW.trod_int Tryz.underlying3 h1
    have e0' : [c0] = [Value.int .i64 n0] := e0
    have e1' : [c1] = [Value.int .i64 n1] := e1
    refine ⟨(n0, n1), ?_, trivial⟩
    show [c0, c1] = [.int .i64 n0, .int .i64 n1]
    simp at e0' e1'
    rw [e0', e1']⟩
set_option maxRecDepth 100000 in
theorem pairs_value {H : Type} {enc : TypeId × Value → H} {w : World} {base : Nat} {spare : Nat → Bool} {held : Bool} {A : Option Addr} {len cap : Nat} {x : DataW H} {p : List MemPlace}
    (ht : DataW.Trod enc Tryz.prog w base spare held 65 (.slice A len cap) x p) : ∃ l : List (Int × Int), len = l.length ∧ l.length ≤ 9223372036854775807 ∧ PairsAt w A l := by
  obtain ⟨l, ⟨A', cap', hc, h1, h2, h3⟩, hB⟩ := (opens_slice (P := Tryz.prog) Tryz.underlying65 opens_pr (by kernel_rfl)).value ht
  have hc' : A = A' ∧ len = l.length ∧ cap = cap' := by
    have : [Value.slice A len cap] = [.slice A' l.length cap'] := hc
    simpa using this
  obtain ⟨rfl, hl, rfl⟩ := hc'
  refine ⟨l, hl, by omega, fun k hk => ?_⟩
  obtain ⟨a, rfl, hx⟩ := h3 (by omega)
  obtain ⟨b, off, spot⟩ := a
  have hcell : w.cell? ((⟨b, off, spot⟩ : Addr).add (k * 2 + 0)) = some (.int .i64 l[k].1) ∧ w.cell? ((⟨b, off, spot⟩ : Addr).add (k * 2 + 1)) = some (.int .i64 l[k].2) := by
    obtain ⟨c, _, hk', hj⟩ := hx k l[k] (by simp [hk])
    have hk2 : c = [.int .i64 l[k].1, .int .i64 l[k].2] := hk'
    subst hk2
    exact ⟨hj 0 _ rfl, hj 1 _ rfl⟩
  obtain rfl : spot = none := by
    have h00 : 0 < l.length := by omega
    obtain ⟨c, _, hk', hj⟩ := hx 0 (l[0]'h00) (List.getElem?_eq_getElem h00)
    have hk2 : c = [.int .i64 (l[0]'h00).1, .int .i64 (l[0]'h00).2] := hk'
    subst hk2
    have := hj 0 _ rfl
    simpa [Addr.add] using World.cell?_spot this
  rw [addr_mid, addr_mid] at hcell
  exact ⟨b, off, rfl, by simpa using hcell.1, by simpa [Nat.add_assoc] using hcell.2⟩
theorem neq_idn {a : Act} {o : Oper} {X Y : Operand} (x : Idn.I) (ho : o.op = .binOp .neq 64 X Y 64) (hx : a.eval X = idV x) (hy : a.eval Y = idV x) (W : World) : (execOp a.eval o).run Tryz.prog W = .ok (.value (.bool false)) W := by
  obtain ⟨⟨a1, a2⟩, k1, n1⟩ := x
  unfold execOp
  simp only [ho, hx, hy]
  go_simp
theorem neq_lab {a : Act} {o : Oper} {X Y : Operand} (x : Lab.L) (ho : o.op = .binOp .neq 25 X Y 25) (hx : a.eval X = labV x) (hy : a.eval Y = labV x) (W : World) : (execOp a.eval o).run Tryz.prog W = .ok (.value (.bool false)) W := by
  obtain ⟨a1, a2⟩ := x
  unfold execOp
  simp only [ho, hx, hy]
  go_simp
set_option maxRecDepth 100000 in
set_option maxHeartbeats 4000000 in
theorem itells_big (a b : Idn.I) (j : Int) (A : Option Addr) (n c : Nat) (hn : 30 < n) (w : World) (hL : LaidAt w) :
    Calls Tryz.prog 5 #[idV a, idV b, .int .i64 j, .slice A n c] w fun r w' => r = .returned (.bool true) ∧ Below w.heap.size w w' := by
  have hni : (30 : Int) < (n : Int) := by omega
  have HB := Lib.hid (below_new (below_fresh w (.cells #[.int .u16 (a.1.1 : Int), .int .u16 (a.1.2 : Int), .int .i64 a.2.1, .int .i64 a.2.2] 64)) (.cells #[.int .u16 (b.1.1 : Int), .int .u16 (b.1.2 : Int), .int .i64 b.2.1, .int .i64 b.2.2] 64))
  have HL := Lib.hid (ialive_ok _ (hL.below HB.out))
  clear hL hn
  go_enter Tryz.func5, Tryz.ntmps5
  go_wp2_with fail
  refine HL.out.mono ?_
  rintro r w1 ⟨rfl, hb1⟩
  go_wp2_with fail
  go_ret
  exact ⟨rfl, below_here HB.out hb1⟩
set_option maxRecDepth 100000 in
set_option maxHeartbeats 8000000 in
theorem itells_few (a b : Idn.I) (ha : Lab.ok a.1) (hb : Lab.ok b.1) (j : Int) (hj : -9223372036854775808 ≤ j ∧ j ≤ 9223372036854775807) (A : Option Addr) (l : List (Int × Int)) (c : Nat) (hl : l.length ≤ 30) (w : World) (hA : PairsAt w A l) (hL : LaidAt w) :
    Calls Tryz.prog 5 #[idV a, idV b, .int .i64 j, .slice A l.length c] w fun r w' => r = .returned (.bool true) ∧ Below w.heap.size w w' := by
  have hni : ¬ (30 : Int) < (l.length : Int) := by omega
  have HB := Lib.hid (below_new (below_fresh w (.cells #[.int .u16 (a.1.1 : Int), .int .u16 (a.1.2 : Int), .int .i64 a.2.1, .int .i64 a.2.2] 64)) (.cells #[.int .u16 (b.1.1 : Int), .int .u16 (b.1.2 : Int), .int .i64 b.2.1, .int .i64 b.2.2] 64))
  have HIA := Lib.hid (show IdIn w.heap.size a ((w.alloc (.cells #[.int .u16 (a.1.1 : Int), .int .u16 (a.1.2 : Int), .int .i64 a.2.1, .int .i64 a.2.2] 64)).alloc (.cells #[.int .u16 (b.1.1 : Int), .int .u16 (b.1.2 : Int), .int .i64 b.2.1, .int .i64 b.2.2] 64)) from heap_alloc2_old w _ _)
  have HIB := Lib.hid (show IdIn (w.heap.size + 1) b ((w.alloc (.cells #[.int .u16 (a.1.1 : Int), .int .u16 (a.1.2 : Int), .int .i64 a.2.1, .int .i64 a.2.2] 64)).alloc (.cells #[.int .u16 (b.1.1 : Int), .int .u16 (b.1.2 : Int), .int .i64 b.2.1, .int .i64 b.2.2] 64)) from by
    have := heap_alloc_new (w.alloc (.cells #[.int .u16 (a.1.1 : Int), .int .u16 (a.1.2 : Int), .int .i64 a.2.1, .int .i64 a.2.2] 64)) (.cells #[.int .u16 (b.1.1 : Int), .int .u16 (b.1.2 : Int), .int .i64 b.2.1, .int .i64 b.2.2] 64)
    rw [World.size_alloc] at this
    exact this)
  have HMD := Lib.hid (made_ok A c l (by omega) _ (hA.below HB.out))
  have HLW := Lib.hid hL
  have H1 := Lib.hid (fun w => fine_ok a w)
  have H2 := Lib.hid (fun w => rfine_ok a w)
  have H3 := Lib.hid (fun w => lane_ok a w)
  have H4 := Lib.hid (fun w => rlane_ok a w)
  have H5 := Lib.hid (fun w => mk_ok a.1 j w)
  have H6 := Lib.hid (fun w => rat_ok a.1 j hj w)
  have H7 := Lib.hid (fun w hT hW => itext_ok a ha w hT hW)
  have H8 := Lib.hid (fun w => ridtext_ok a ha w)
  have H9 := Lib.hid (fun m hm w hT => now_ok m hm a ha w hT)
  have H10 := Lib.hid (fun m hm w => r04label_ok m hm a.1 ha w)
  have H11 := Lib.hid (fun w => rfine_ok b w)
  have H12 := Lib.hid (fun w => icmp_ok a b ha hb w)
  have H13 := Lib.hid (fun w => ricmp_ok a b ha hb w)
  have HRC := Lib.hid (fun h k => Idn.rcmp_is (x := a) (y := b) ha hb h k)
  generalize Idn.fine a = fa at H1 H2 HRC
  generalize Idn.fine b = fb at H11 HRC
  generalize Idn.lane a = la at H3 H4
  generalize Idn.mk a.1 j = at' at H5 H6
  generalize (⟨(Idn.text a).toArray⟩ : ByteArray) = tx at H7 H8
  generalize Idn.cmp a b = c1 at H12 HRC
  generalize Idn.rcmp a b = c2 at H13 HRC
  clear hl hA hL ha hb hj
  go_enter Tryz.func5, Tryz.ntmps5
  go_wp2_with (first
    | (go_at_call 30; refine HMD.out.mono ?_; rintro e w1 ⟨⟨m, hm, rfl⟩, hb1⟩; have hlm : (mapC m).toArray.size = 16 := by rw [List.size_toArray, mapC_len]; exact hm.1)
    | (refine wpList_store_new rfl 31 (.tmp 9) (.tmp 15) rfl _ (mapC m).toArray ?x1 ?x2 ?x3 ?x4 (all_oneCell_toArray (mapC_one _)) ?_; (case x1 => rfl); (case x2 => rfl); (case x3 => rw [hlm]; exact map_size); (case x4 => rw [hlm]; rfl)))
  have hi1 := block_below (below_fresh w1 (.cells (mapC m).toArray 31)) (block_below hb1 HIA.out)
  have hi2 := block_below (below_fresh w1 (.cells (mapC m).toArray 31)) (block_below hb1 HIB.out)
  have hi3 : MapIn w1.heap.size m (w1.alloc (.cells (mapC m).toArray 31)) := heap_alloc_new w1 _
  have hb9 := below_new (below_here HB.out hb1) (.cells (mapC m).toArray 31)
  generalize w1.alloc (.cells (mapC m).toArray 31) = w9 at hi1 hi2 hi3 hb9 ⊢
  generalize w1.heap.size = M at hi3 ⊢
  clear hb1 HMD HIA HIB HB
  have HI1 := Lib.hid hi1
  have HI2 := Lib.hid hi2
  have HI3 := Lib.hid hi3
  have HB9 := Lib.hid hb9
  have HL9 := Lib.hid (HLW.out.below hb9)
  have HM := Lib.hid hm
  replace H9 := Lib.hid (fun w hT => H9.out m hm w hT)
  replace H10 := Lib.hid (fun w => H10.out m hm w)
  have hlm' : (mapC m).length = 16 := hlm
  have HMC := Lib.hid (show ∀ W : World, (∃ X, W = over w9 X) → W.rangeAt M 0 (mapC m) from by rintro W ⟨X, rfl⟩; exact rangeAt_over HI3.out.range)
  generalize imageL m a.1 = im at H9 H10
  obtain ⟨⟨p0, p1, p2, p3⟩, p4, p5, p6, p7, p8⟩ := quad_cells hi1
  obtain ⟨⟨q0, q1, q2, q3⟩, q4, q5, q6, q7, q8⟩ := quad_cells hi2
  have HN1 : Hid (∀ (a : Act) (o : Oper) (X Y : Operand), o.op = .binOp .neq 64 X Y 64 → a.eval X = idV at' → a.eval Y = idV at' → ∀ W : World, (execOp a.eval o).run Tryz.prog W = .ok (.value (.bool false)) W) := Lib.hid (fun a o X Y h1 h2 h3 W => neq_idn at' h1 h2 h3 W)
  have HN2 : Hid (∀ (a : Act) (o : Oper) (X Y : Operand), o.op = .binOp .neq 25 X Y 25 → a.eval X = labV im → a.eval Y = labV im → ∀ W : World, (execOp a.eval o).run Tryz.prog W = .ok (.value (.bool false)) W) := Lib.hid (fun a o X Y h1 h2 h3 W => neq_lab im h1 h2 h3 W)
  have hnf : (fa != fa) = false := by simp
  have hnl : (la != la) = false := by simp
  have hnt : (tx.toList == tx.toList) = true := by simp
  clear hi1 hi2 hi3 hb9 hm
  unfold mapV at H9 H10 ⊢
  simp only [Act.put]
  refine wp_region_over (by kernel_rfl) (by kernel_rfl) ?_
  repeat (first
    | (go_big_quiet_want; refine quiet_load_mid 31 (.tmp 9) rfl M 0 rfl (mapC m) _ HMC.out Tryz.underlying31 rfl (by rw [hlm']; exact map_size) ?_; go_big_quiet_on; simp only [Act.put, List.setIfInBounds_toArray, List.set_cons_succ, List.set_cons_zero])
    | go_big_quiet_step (first
      | ((go_at_call 31; exact Calls.over_of (H1.out _)))
      | ((go_at_call 32; exact Calls.over_of (H2.out _)))
      | ((go_at_call 33; exact Calls.over_of (H3.out _)))
      | ((go_at_call 34; exact Calls.over_of (H4.out _)))
      | ((go_at_call 35; exact Calls.over_of (H5.out _)))
      | ((go_at_call 36; exact Calls.over_of (H6.out _)))
      | ((go_at_call 37; exact Calls.over_of (H7.out _ (HL9.out.below (over_below _ _)).tab (HL9.out.below (over_below _ _)).pow)))
      | ((go_at_call 38; exact Calls.over_of (H8.out _)))
      | ((go_at_call 39; exact Calls.over_of (H9.out _ (HL9.out.below (over_below _ _)).tab)))
      | ((go_at_call 40; exact Calls.over_of (H10.out _))))
    | (go_big_quiet_want; refine quiet_value (.bool false) (fun W' _ => HN1.out _ _ _ _ rfl rfl rfl W') ?_; simp only [Act.put, List.setIfInBounds_toArray, List.set_cons_succ, List.set_cons_zero]; rename_i K hK; refine hK _ ?_; clear hK K)
    | (go_big_quiet_want; refine quiet_value (.bool false) (fun W' _ => HN2.out _ _ _ _ rfl rfl rfl W') ?_; simp only [Act.put, List.setIfInBounds_toArray, List.set_cons_succ, List.set_cons_zero]; rename_i K hK; refine hK _ ?_; clear hK K))
  refine wpQuiet_nil ?_
  intro W7 hW7
  have hb7 := below_of_over hW7
  have hi1 := block_below hb7 HI1.out
  have hi2 := block_below hb7 HI2.out
  have HB7 := Lib.hid (below_here HB9.out hb7)
  have HL7 := Lib.hid (HL9.out.below hb7)
  clear hW7 hb7 p0 p1 p2 p3 p4 p5 p6 p7 p8 q0 q1 q2 q3 q4 q5 q6 q7 q8 H1 H3 H4 H5 H6 H7 H8 H9 H10 HN1 HN2 HMC hnf hnl hnt HI1 HI2 HI3
  obtain ⟨⟨p0, p1, p2, p3⟩, p4, p5, p6, p7, p8⟩ := quad_cells hi1
  obtain ⟨⟨q0, q1, q2, q3⟩, q4, q5, q6, q7, q8⟩ := quad_cells hi2
  clear hi1 hi2
  cases fa with
  | false =>
    go_wp2_with fail
    refine wp_region_over (by kernel_rfl) (by kernel_rfl) ?_
    repeat (go_big_quiet_step (first
      | ((go_at_call 32; with_reducible exact Calls.over_of (H2.out _)))
      | ((go_at_call 32; with_reducible exact Calls.over_of (H11.out _)))
      | ((go_at_call 41; exact Calls.over_of (H12.out _)))
      | ((go_at_call 42; exact Calls.over_of (H13.out _)))
      | ((go_at_call 29; exact Calls.over_of (ialive_ok _ (HL7.out.below (over_below _ _)))))))
    refine wpQuiet_nil ?_
    intro W8 hW8
    have hb8 := below_of_over hW8
    clear hW8
    go_wp2_with fail
    go_ret
    exact ⟨rfl, below_here HB7.out hb8⟩
  | true =>
    cases fb with
    | false =>
      go_wp2_with fail
      refine wp_region_over (by kernel_rfl) (by kernel_rfl) ?_
      repeat (go_big_quiet_step (first
        | ((go_at_call 32; with_reducible exact Calls.over_of (H2.out _)))
        | ((go_at_call 32; with_reducible exact Calls.over_of (H11.out _)))
        | ((go_at_call 41; exact Calls.over_of (H12.out _)))
        | ((go_at_call 42; exact Calls.over_of (H13.out _)))
        | ((go_at_call 29; exact Calls.over_of (ialive_ok _ (HL7.out.below (over_below _ _)))))))
      refine wpQuiet_nil ?_
      intro W8 hW8
      have hb8 := below_of_over hW8
      clear hW8
      go_wp2_with fail
      go_ret
      exact ⟨rfl, below_here HB7.out hb8⟩
    | true =>
      obtain rfl : c2 = c1 := HRC.out rfl rfl
      go_wp2_with fail
      refine wp_region_over (by kernel_rfl) (by kernel_rfl) ?_
      repeat (go_big_quiet_step (first
        | ((go_at_call 32; with_reducible exact Calls.over_of (H2.out _)))
        | ((go_at_call 32; with_reducible exact Calls.over_of (H11.out _)))
        | ((go_at_call 41; exact Calls.over_of (H12.out _)))
        | ((go_at_call 42; exact Calls.over_of (H13.out _)))
        | ((go_at_call 29; exact Calls.over_of (ialive_ok _ (HL7.out.below (over_below _ _)))))))
      refine wpQuiet_nil ?_
      intro W8 hW8
      have hb8 := below_of_over hW8
      clear hW8
      go_wp2_with fail
      go_ret
      exact ⟨rfl, below_here HB7.out hb8⟩
theorem itells_ok (a b : Idn.I) (ha : Lab.ok a.1) (hb : Lab.ok b.1) (j : Int) (hj : -9223372036854775808 ≤ j ∧ j ≤ 9223372036854775807) (A : Option Addr) (l : List (Int × Int)) (c : Nat) (w : World) (hA : PairsAt w A l) (hL : LaidAt w) :
    Calls Tryz.prog 5 #[idV a, idV b, .int .i64 j, .slice A l.length c] w fun r w' => r = .returned (.bool true) ∧ Below w.heap.size w w' := by
  by_cases h : l.length ≤ 30
  · exact itells_few a b ha hb j hj A l c h w hA hL
  · exact itells_big a b j A l.length c (by omega) w hL
end Go.Proofs.YtlmacaenbililaaGreatDoor
