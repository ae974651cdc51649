/- The matrix of a policy as the document has it. Who has a capability, as the document has it; a matrix' rows as the program's; the same rows. What a role may that others may not, as the document has it: the plain law and the walk. MatrixTells: the walk. MatrixSums: the walk. No conditions. -/
import Derived.Test.YtlmacaenbililaaGreatDoorKq
import Derived.Test.YtlmacaenbililaaGreatDoorKc
import Derived.Test.YtlmacaenbililaaGreatDoorKp
import Derived.Test.YtlmacaenbililaaGreatDoorKo
import Derived.Test.YtlmacaenbililaaGreatDoorTrefc
namespace Go.Proofs.YtlmacaenbililaaGreatDoor
open Go.RowKit Go.Shelf
set_option linter.unusedSimpArgs false
set_option linter.unusedVariables false
attribute [local go_sem] cell_over frozen_over

theorem info_rmrow3 : (Tryz.prog.info? 86).map (fun i => (i.zero, i.size, i.bytes)) = some (some (.agg #[.int .i64 0, .int .u16 0, .int .u16 0, .int .u16 0, .int .u16 0, .int .u16 0, .int .u16 0]), 7, 24) := by kernel_rfl
theorem rmrow_build2 (n : Int) (q1 q2 : Nat) (W : World) : (Instr.build 86 #[(0, .int .i64 n), (1, .agg #[.int .u16 (q1 : Int), .int .u16 (q2 : Int)])]).run Tryz.prog W = .ok (.agg #[.int .i64 n, .int .u16 (q1 : Int), .int .u16 (q2 : Int), .int .u16 0, .int .u16 0, .int .u16 0, .int .u16 0]) W := by kernel_rfl
theorem QRowAt.set {b : Nat} {r r' : Mt.R} {w : World} {j : Nat} {v : Value} (h : QRowAt b r w) (e : mtC r' = (mtC r).set j v) : QRowAt b r' (w.setCell ⟨b, j, none⟩ v) := by
  unfold QRowAt at h ⊢
  rw [e]
  simp [World.setCell, Array.getElem?_modify, h]
/-- A row in the making, and all that was there before. -/
structure REnv (wr : World) (r : Mt.R) (W : World) : Prop where
  low : Below wr.heap.size wr W
  row : QRowAt wr.heap.size r W
theorem REnv.call {wr W V : World} {r : Mt.R} (h : REnv wr r W) (hb : Below W.heap.size W V) : REnv wr r V := ⟨below_here h.low hb, block_below hb h.row⟩
theorem REnv.set {wr W : World} {r r' : Mt.R} {j : Nat} {v : Value} (h : REnv wr r W) (e : mtC r' = (mtC r).set j v) : REnv wr r' (W.setCell ⟨wr.heap.size, j, none⟩ v) :=
  ⟨h.low.setCell (p := ⟨wr.heap.size, j, none⟩) (Nat.le_refl _) _, h.row.set e⟩
theorem REnv.mk0 (wr : World) (r : Mt.R) : REnv wr r (wr.alloc (.cells (mtC r).toArray 86)) := ⟨below_fresh _ _, heap_alloc_new wr _⟩
set_option maxRecDepth 100000 in
set_option maxHeartbeats 16000000 in
theorem rmtof_ok (p : Pol.P) (hp : Pol.Ok p) (la : Lab.L) (hla : Lab.ok la) (w : World) :
    Calls Tryz.prog 45 #[Pol.val p, labV la] w fun e w' => ∃ v, e = .returned v ∧ w'.ownsRow w.heap.size 86 7 v (Pol.rows p la).length (rowsC p la (Tag.tags (Pol.seen p la))) ∧ Below w.heap.size w w' := by
  obtain ⟨i0, hi, hz0, hz1, hz2⟩ := info_parts info_rmrow3
  have HI := Lib.hid hi
  have HZ0 := Lib.hid hz0
  have HZ1 := Lib.hid hz1
  have HZ2 := Lib.hid hz2
  clear hi hz0 hz1 hz2
  have hE0 : PolIn w.heap.size p ((w.alloc (.cells (Pol.cells p).toArray 30)).alloc (.cells #[.int .u16 (la.1 : Int), .int .u16 (la.2 : Int)] 25)) := block_below (below_fresh _ _) (heap_alloc_new w _)
  have hL0 := heap_alloc_new (w.alloc (.cells (Pol.cells p).toArray 30)) (.cells #[.int .u16 (la.1 : Int), .int .u16 (la.2 : Int)] 25)
  rw [World.size_alloc] at hL0
  have hB0 : Below w.heap.size w ((w.alloc (.cells (Pol.cells p).toArray 30)).alloc (.cells #[.int .u16 (la.1 : Int), .int .u16 (la.2 : Int)] 25)) := below_new (below_fresh _ _) _
  obtain ⟨w9, hw9⟩ : ∃ w9, w9 = ((w.alloc (.cells (Pol.cells p).toArray 30)).alloc (.cells #[.int .u16 (la.1 : Int), .int .u16 (la.2 : Int)] 25)) := ⟨_, rfl⟩
  rw [← hw9] at hE0 hL0 hB0
  have hl16 : (Pol.u16C p.acts).length = 16 := by rw [u16C_len, hp.nacts]
  have hl66 := Pol.cells_len hp
  have HR0 := Lib.hid hE0.range
  have HSN := Lib.hid (fun w => rpseen_ok p hp la hla w)
  have HB0 := Lib.hid hB0
  have HE0 := Lib.hid hE0
  have HL0 := Lib.hid hL0
  have HOK := Lib.hid hp
  have HLA := Lib.hid hla
  have HW9 := Lib.hid hw9
  obtain ⟨av, hav⟩ : ∃ av, av = p.active := ⟨_, rfl⟩
  have havl : av < 65536 := by rw [hav]; exact hp.active
  have HCA := Lib.hid (show (Pol.cells p)[65]? = some (.int .u16 (av : Int)) by rw [hav]; exact Pol.cell_active hp)
  have HAV := Lib.hid hav
  obtain ⟨sv, hsv⟩ : ∃ sv, sv = Pol.seen p la := ⟨_, rfl⟩
  have hsl : sv < 65536 := by rw [hsv]; exact Pol.seen_lt _ _
  have HSV := Lib.hid hsv
  rw [← hsv] at HSN
  have HRL := Lib.hid (show (Pol.rows p la).length = (Tag.tags sv).length by rw [hsv]; simp [Pol.rows])
  rw [← hsv]
  obtain ⟨c1, c2, c3, c4⟩ := pair_cells hL0
  have hcl := World.block_lt_of_cell? w9 _ c1
  clear hp hla hE0 hL0 hB0 hw9 hav hsv
  obtain ⟨l1, l2⟩ := la
  unfold Pol.val labV at HSN
  unfold Pol.val labV
  simp only at HSN ⊢
  go_enter Tryz.func45, Tryz.ntmps45
  go_wp2_with (first
    | (have _h := HW9; rw [← HW9.out]; fail)
    | (refine wpList_load_mid rfl 30 (.tmp 2) rfl w.heap.size 0 rfl (Pol.cells p) _ (by rw [← HW9.out]; exact HR0.out) Tryz.underlying30 rfl (by rw [hl66]; exact info_pol) ?_))
  rw [← HW9.out]
  refine (HSN.out _).mono ?_
  rintro e w2 ⟨rfl, hb2⟩
  have HE2 := Lib.hid (show PolIn w.heap.size p w2 from block_below hb2 HE0.out)
  have HL2 := Lib.hid (block_below hb2 HL0.out)
  have HB2 := Lib.hid (below_here HB0.out hb2)
  clear hb2 HE0 HL0 HB0 HR0 c1 c2 c3 c4 hcl
  go_wp2_with fail
  go_loopw [6, 7, 8, 9] (fun v i _ _ wr => ∃ (k : Nat), i = .int .i64 (k : Int) ∧ k ≤ 16 ∧ Hid (wr.ownsRow w2.heap.size 86 7 v (Tag.below sv k).length (rowsC p (l1, l2) (Tag.below sv k))) ∧ Hid (Below w2.heap.size w2 wr)) (fun _ i _ _ _ => 16 - (intOf i).toNat)
  case atStart => exact ⟨0, rfl, by omega, Lib.hid (World.ownsRow_nil _ _ _ _), Lib.hid (Below.refl _ _)⟩
  case round =>
    obtain ⟨k, rfl, hk, hO, hW⟩ := hrel
    by_cases hk16 : k = 16
    · subst hk16
      have ho := own_base hO.out HB2.out.size
      rw [Tag.below_all] at ho
      have HO := Lib.hid ho
      clear ho hO
      go_wp2_with fail
      go_ret
      exact ⟨_, rfl, by rw [HRL.out]; exact HO.out, below_here HB2.out hW.out⟩
    · have hkl : k < 16 := by omega
      have hki : (k : Int) < 16 := by omega
      have HH := Lib.hid (fun w => hasb_ok sv hsl k hkl w)
      have HS := Lib.hid (Tag.below_succ sv k)
      have hle := Tag.below_le sv k
      generalize sv.testBit k = x at HH HS
      obtain ⟨pre, hpre⟩ : ∃ pre, pre = Tag.below sv k := ⟨_, rfl⟩
      rw [← hpre] at hO HS hle
      clear hk16 hpre
      cases x with
      | false =>
        have HS2 := Lib.hid (show Tag.below sv (k + 1) = pre by rw [HS.out]; simp)
        clear HS
        go_wp2_with (go_at_call 100; refine (HH.out _).mono ?_; rintro e w1 ⟨rfl, hw1⟩; obtain rfl := hw1.symm)
        go_roundw
        case rel => exact ⟨k + 1, by go_num, by omega, by rw [HS2.out]; exact hO, hW⟩
        case measure => simp [intOf]; omega
      | true =>
        have HS2 := Lib.hid (show Tag.below sv (k + 1) = pre ++ [k] by rw [HS.out]; simp)
        have HE := Lib.hid (show PolIn w.heap.size p wr from block_below hW.out HE2.out)
        have HL := Lib.hid (block_below hW.out HL2.out)
        have HPL := Lib.hid (show w.heap.size < wr.heap.size from HE.out.lt)
        have HWB := Lib.hid (fun w => withb_ok 0 (by omega) k hkl w)
        rw [Nat.zero_or] at HWB
        have hpk := p16 hkl
        have HUP := Lib.hid (fun w => rgup_ok p.acts HOK.out.nacts HOK.out.acts (2 ^ k) hpk sv hsl w)
        rw [Gr.up_is' hkl] at HUP
        have HDN := Lib.hid (fun w => rgdown_ok p.acts HOK.out.nacts HOK.out.acts (2 ^ k) hpk sv hsl w)
        have HON := Lib.hid (fun w => rpowned_ok p HOK.out (2 ^ k) hpk w)
        have HCP := Lib.hid (fun w => rpcaps_ok p HOK.out k hkl (l1, l2) HLA.out w)
        have HAN := Lib.hid (fun w => rand_ok (Pol.owned p (2 ^ k)) av (Pol.owned_lt _ _) havl w)
        have HROW : Hid (Pol.row p (l1, l2) k = ((k : Int), Pol.lab p k, Gr.down (Gr.turn p.acts) sv (2 ^ k), Gr.down p.acts sv (2 ^ k), Pol.owned p (2 ^ k) &&& av, Pol.caps p (k : Int) (l1, l2))) := Lib.hid (by rw [HSV.out, HAV.out]; rfl)
        obtain ⟨pk, hpk'⟩ : ∃ pk, pk = 2 ^ k := ⟨_, rfl⟩
        rw [← hpk'] at HWB HUP HDN HON HAN HROW
        have hb1 := PolIn.lab1 HE.out HOK.out hkl
        have hb2 := PolIn.lab2 HE.out HOK.out hkl
        obtain ⟨q, hq⟩ : ∃ q, q = Pol.lab p k := ⟨_, rfl⟩
        rw [← hq] at hb1 hb2 HROW
        obtain ⟨q1, q2⟩ := q
        simp only at hb1 hb2
        generalize Gr.down (Gr.turn p.acts) sv pk = U at HUP HROW
        generalize Gr.down p.acts sv pk = D at HDN HROW
        generalize Pol.owned p pk = O0 at HON HAN HROW
        generalize O0 &&& av = O at HAN HROW
        generalize Pol.caps p (k : Int) (l1, l2) = C at HCP HROW
        unfold Pol.val labV at HCP
        unfold Pol.val at HON
        simp only at HCP
        have hbd := rmrow_build2 (k : Int) q1 q2
        have HV0 := Lib.hid (REnv.mk0 wr ((k : Int), (q1, q2), 0, 0, 0, 0))
        have HRA := Lib.hid (show (wr.alloc (.cells (mtC ((k : Int), (q1, q2), 0, 0, 0, 0)).toArray 86)).rangeAt w.heap.size 33 (Pol.u16C p.acts) from (show PolIn w.heap.size p _ from block_below HV0.out.low HE.out).actsAt HOK.out)
        have hbl := World.block_lt_of_cell? wr _ hb1
        clear HS hpk hpk' hq
        go_wp2_with (first
          | (go_at_call 100; refine (HH.out _).mono ?_; rintro e w1 ⟨rfl, hw1⟩; obtain rfl := hw1.symm)
          | (go_at_call 103; refine (HWB.out _).mono ?_; rintro e w1 ⟨rfl, hw1⟩; obtain rfl := hw1.symm)
          | (refine wpList_build rfl 86 _ rfl #[(0, .int .i64 (k : Int)), (1, .agg #[.int .u16 (q1 : Int), .int .u16 (q2 : Int)])] ?b1 (hbd _) ?_; (case b1 => simp [Act.eval, Act.put]))
          | (refine wpList_store_new rfl 86 (.tmp 9) (.tmp 28) rfl _ #[.int .i64 (k : Int), .int .u16 (q1 : Int), .int .u16 (q2 : Int), .int .u16 0, .int .u16 0, .int .u16 0, .int .u16 0] ?x1 ?x2 info_rmrow rfl (by simp [Value.oneCell']) ?_; (case x1 => first | rfl | (rw [World.size_alloc]; rfl)); (case x2 => rfl))
          | (refine wpList_load_mid rfl 27 (.tmp 29) rfl w.heap.size 33 rfl (Pol.u16C p.acts) _ HRA.out Tryz.underlying27 rfl (by rw [hl16]; exact info_u16s) ?_))
        refine (HUP.out _).mono ?_
        rintro e w4 ⟨rfl, hb4⟩
        have HV1 := Lib.hid (HV0.out.call hb4)
        clear hb4 HRA hb1 hb2 hbl hbd HUP HV0
        obtain ⟨⟨x0, x1, x2, x3, x4, x5, x6⟩, xl⟩ := seven_of HV1.out.row
        have hz3 := frozen_of_block HV1.out.row 3
        have HV2 := Lib.hid (show REnv wr ((k : Int), (q1, q2), U, 0, 0, 0) (w4.setCell ⟨wr.heap.size, 3, none⟩ (.int .u16 (U : Int))) from HV1.out.set rfl)
        have HRA := Lib.hid (show (w4.setCell ⟨wr.heap.size, 3, none⟩ (.int .u16 (U : Int))).rangeAt w.heap.size 33 (Pol.u16C p.acts) from (show PolIn w.heap.size p _ from block_below HV2.out.low HE.out).actsAt HOK.out)
        go_wp2_with (refine wpList_load_mid rfl 27 (.tmp 35) rfl w.heap.size 33 rfl (Pol.u16C p.acts) _ HRA.out Tryz.underlying27 rfl (by rw [hl16]; exact info_u16s) ?_)
        refine (HDN.out _).mono ?_
        rintro e w5 ⟨rfl, hb5⟩
        have HV3 := Lib.hid (HV2.out.call hb5)
        clear hb5 HRA HV2 HV1 x0 x1 x2 x3 x4 x5 x6 xl hz3 HDN
        obtain ⟨⟨x0, x1, x2, x3, x4, x5, x6⟩, xl⟩ := seven_of HV3.out.row
        have hz4 := frozen_of_block HV3.out.row 4
        have HV4 := Lib.hid (show REnv wr ((k : Int), (q1, q2), U, D, 0, 0) (w5.setCell ⟨wr.heap.size, 4, none⟩ (.int .u16 (D : Int))) from HV3.out.set rfl)
        go_wp2_with fail
        generalize w5.setCell ⟨wr.heap.size, 4, none⟩ (.int .u16 (D : Int)) = w6 at HV4 ⊢
        clear HV3 x0 x1 x2 x3 x4 x5 x6 xl hz4
        have hE6 : PolIn w.heap.size p w6 := block_below HV4.out.low HE.out
        have HP := Lib.hid (show ∀ W : World, (∃ X, W = over w6 X) → W.rangeAt w.heap.size 0 (Pol.cells p) from by
          rintro W ⟨X, rfl⟩
          exact rangeAt_over hE6.range)
        have hca := hE6.cell 65 HCA.out
        have hcal := World.block_lt_of_cell? w6 _ hca
        obtain ⟨⟨x0, x1, x2, x3, x4, x5, x6⟩, xl⟩ := seven_of HV4.out.row
        clear hE6
        refine wp_region_over_tail 7 (by kernel_rfl) (by kernel_rfl) ?_
        simp only [List.take_succ_cons, List.take_zero, List.drop_succ_cons, List.drop_zero]
        repeat (first
          | (go_big_quiet_want; refine quiet_load_mid 30 (.tmp 2) rfl w.heap.size 0 rfl (Pol.cells p) _ HP.out Tryz.underlying30 rfl (by rw [hl66]; exact info_pol) ?_; go_big_quiet_on; simp only [Act.put, List.setIfInBounds_toArray, List.set_cons_succ, List.set_cons_zero])
          | go_big_quiet_step (first
            | ((go_at_call 101; exact Calls.over_of ((HAN.out _).mono fun e w' h => ⟨h.1, h.2 ▸ Below.refl _ _⟩)))
            | ((go_at_call 114; exact Calls.over_of (HON.out _)))))
        refine wpQuiet_nil ?_
        intro W7 hW7
        have hb7 := below_of_over hW7
        have HV5 := Lib.hid (HV4.out.call hb7)
        clear hW7 hb7 hca hcal HP HON HAN x0 x1 x2 x3 x4 x5 x6 xl HV4
        obtain ⟨⟨x0, x1, x2, x3, x4, x5, x6⟩, xl⟩ := seven_of HV5.out.row
        have hz5 := frozen_of_block HV5.out.row 5
        have HV6 := Lib.hid (show REnv wr ((k : Int), (q1, q2), U, D, O, 0) (W7.setCell ⟨wr.heap.size, 5, none⟩ (.int .u16 (O : Int))) from HV5.out.set rfl)
        have HRA := Lib.hid (show (W7.setCell ⟨wr.heap.size, 5, none⟩ (.int .u16 (O : Int))).rangeAt w.heap.size 0 (Pol.cells p) from (show PolIn w.heap.size p _ from block_below HV6.out.low HE.out).range)
        have HLB := Lib.hid (block_below HV6.out.low HL.out)
        obtain ⟨c1, c2, c3, c4⟩ := pair_cells HLB.out
        have hcl := World.block_lt_of_cell? _ _ c1
        go_wp2_with (first
          | (refine wpList_load_mid rfl 30 (.tmp 2) rfl w.heap.size 0 rfl (Pol.cells p) _ HRA.out Tryz.underlying30 rfl (by rw [hl66]; exact info_pol) ?_)
          | (refine wpList_load_mid rfl 25 (.tmp 3) rfl (w.heap.size + 1) 0 rfl [.int .u16 (l1 : Int), .int .u16 (l2 : Int)] _ (range_of_block HLB.out 0 _ (fun j hj => by rw [Nat.zero_add])) Tryz.underlying25 rfl info_lab ?_))
        refine (HCP.out _).mono ?_
        rintro e w8 ⟨rfl, hb8⟩
        have HV7 := Lib.hid (HV6.out.call hb8)
        clear hb8 HRA HLB c1 c2 c3 c4 hcl HV6 HV5 x0 x1 x2 x3 x4 x5 x6 xl hz5 HCP
        obtain ⟨⟨x0, x1, x2, x3, x4, x5, x6⟩, xl⟩ := seven_of HV7.out.row
        have hz6 := frozen_of_block HV7.out.row 6
        have HV8 := Lib.hid (show REnv wr ((k : Int), (q1, q2), U, D, O, C) (w8.setCell ⟨wr.heap.size, 6, none⟩ (.int .u16 (C : Int))) from HV7.out.set rfl)
        have HSC := Lib.hid (show rowsC p (l1, l2) (pre ++ [k]) = rowsC p (l1, l2) pre ++ [.int .i64 (k : Int), .int .u16 (q1 : Int), .int .u16 (q2 : Int), .int .u16 (U : Int), .int .u16 (D : Int), .int .u16 (O : Int), .int .u16 (C : Int)] by rw [rowsC_snoc, HROW.out]; rfl)
        have hw2 := hW.out.size
        go_wp2_with (first
          | (refine wpList_load_mid rfl 86 (.tmp 9) rfl wr.heap.size 0 rfl [.int .i64 (k : Int), .int .u16 (q1 : Int), .int .u16 (q2 : Int), .int .u16 (U : Int), .int .u16 (D : Int), .int .u16 (O : Int), .int .u16 (C : Int)] _ HV8.out.row.range Tryz.underlying86 rfl info_rmrow ?_; (generalize w8.setCell ⟨wr.heap.size, 6, none⟩ (.int .u16 (C : Int)) = w10 at HV8 ⊢); have hw10 := HV8.out.low.size; have HO9 := Lib.hid (own_below (own_below hO.out HV8.out.low) (below_fresh w10 (.cells #[.int .i64 (k : Int), .int .u16 (q1 : Int), .int .u16 (q2 : Int), .int .u16 (U : Int), .int .u16 (D : Int), .int .u16 (O : Int), .int .u16 (C : Int)] 86))))
          | (at_builtin; refine wpList_append_own _ rfl (.tmp 53) (.tmp 55) 78 rfl w2.heap.size 86 i0 _ 7 24 Tryz.underlying78 HI.out HZ0.out HZ1.out HZ2.out rfl (by decide) u6 pre.length (rowsC p (l1, l2) pre) (by simp [Act.eval, Act.put]) HO9.out ⟨w10.heap.size, 0, none⟩ 1 1 [.int .i64 (k : Int), .int .u16 (q1 : Int), .int .u16 (q2 : Int), .int .u16 (U : Int), .int .u16 (D : Int), .int .u16 (O : Int), .int .u16 (C : Int)] (by simp [Act.eval, Act.put]) rfl (news_block (heap_alloc_new w10 _)) (by simp [Value.oneCell']) (by unfold maxLen; omega) (by omega) (by simp; omega) ?_; intro v' w11 hown' hgrow _; have HOW := Lib.hid hown'; have HG := Lib.hid hgrow; clear hown' hgrow))
        have hl8 := HV8.out.low.size
        have HB11 := Lib.hid (show Below w2.heap.size w2 w11 from (below_new (below_here hW.out HV8.out.low) (.cells #[.int .i64 (k : Int), .int .u16 (q1 : Int), .int .u16 (q2 : Int), .int .u16 (U : Int), .int .u16 (D : Int), .int .u16 (O : Int), .int .u16 (C : Int)] 86)).grown HG.out (by simp; omega) (fun k h => (HO9.out.lt k h).1))
        go_roundw
        case rel => exact ⟨k + 1, by go_num, by omega, Lib.hid (by rw [HS2.out, HSC.out, List.length_append]; exact HOW.out), HB11⟩
        case measure => simp [intOf]; omega
end Go.Proofs.YtlmacaenbililaaGreatDoor
namespace Go.Proofs.YtlmacaenbililaaGreatDoor
open Go.RowKit Go.Shelf
set_option linter.unusedSimpArgs false
set_option linter.unusedVariables false
attribute [local go_sem] cell_over frozen_over

theorem MRows.get {W : World} {A : Option Addr} {l : List Mt.R} (h : MRows W A l) {k : Nat} {r : Mt.R} (hr : l[k]? = some r) : ∃ g, A = some ⟨g, 0, none⟩ ∧ g < W.heap.size ∧ W.rangeAt g (k * 7) (mtC r) := by
  rcases h with h | ⟨g, h1, h2, h3⟩
  · rw [h] at hr; simp at hr
  · exact ⟨g, h1, h2, h3 k r hr⟩
theorem rcell {W : World} {g k : Nat} {r : Mt.R} (h : W.rangeAt g (k * 7) (mtC r)) {j : Nat} {v : Value} (hv : (mtC r)[j]? = some v) : W.cell? ⟨g, k * 7 + j, none⟩ = some v := h j v hv
theorem Tag.or_of (s : Nat) (t : Int) : s ||| Tag.of [t] = Tag.add s t := by
  unfold Tag.of Tag.add
  simp only [List.foldl_cons, List.foldl_nil]
  split <;> simp
set_option maxRecDepth 100000 in
set_option maxHeartbeats 4000000 in
theorem rmthold_ok (A : Option Addr) (c : Nat) (l : List Mt.R) (hl : l.length ≤ 1000000) (hs : Mt.setsOk l) (tag : Int) (w : World) (hA : MRows w A l) :
    Calls Tryz.prog 51 #[.slice A l.length c, .int .i64 tag] w fun e w' => e = .returned (.int .u16 (Mt.holders l tag : Int)) ∧ w' = w := by
  have HA := Lib.hid hA
  have HS := Lib.hid hs
  obtain ⟨RES, hRES⟩ : ∃ RES, RES = Mt.holders l tag := ⟨_, rfl⟩
  rw [← hRES]
  have HRES := Lib.hid hRES
  clear hA hs hRES
  go_enter Tryz.func51, Tryz.ntmps51
  go_wp2_with fail
  go_loopw [5, 6] (fun o j wr => ∃ (k v : Nat), j = .int .i64 (k : Int) ∧ o = .int .u16 (v : Int) ∧ k ≤ l.length ∧ v < 65536 ∧ Hid (v = Mt.holders (l.take k) tag) ∧ wr = w) (fun _ j _ => l.length - (intOf j).toNat)
  case atStart => exact ⟨0, 0, rfl, rfl, by omega, by omega, Lib.hid rfl, rfl⟩
  case round =>
    obtain ⟨k, v, rfl, rfl, hk, hv, hV, rfl⟩ := hrel
    by_cases hkn : k = l.length
    · subst hkn
      have hr := hV.out
      rw [List.take_length] at hr
      have HR := Lib.hid hr
      clear hr
      go_wp2_with fail
      go_ret
      exact ⟨by rw [HRES.out, ← HR.out]; rfl, rfl⟩
    · have hkl : k < l.length := by omega
      have hki : (k : Int) < (l.length : Int) := by omega
      obtain ⟨q, hq⟩ : ∃ q, l[k]? = some q := ⟨_, List.getElem?_eq_getElem hkl⟩
      obtain ⟨g, rfl, hgl, hrg⟩ := HA.out.get hq
      have HL := Lib.hid (Mt.hold_take hq tag)
      have hqs := (HS.out k q hq).2
      have hlt2 := Mt.holders_lt (l.take (k + 1)) tag
      rw [← hV.out, Tag.or_of] at HL
      obtain ⟨n, lb, up, dn, ow, cp⟩ := q
      have c0 : wr.cell? ⟨g, k * 7, none⟩ = some (.int .i64 n) := rcell hrg (j := 0) rfl
      have c6 : wr.cell? ⟨g, k * 7 + 6, none⟩ = some (.int .u16 (cp : Int)) := rcell hrg (j := 6) rfl
      simp only at HL hqs
      have HH := Lib.hid (fun w => rhas_ok cp hqs tag w)
      have HW := Lib.hid (fun w => rwith_ok v hv n w)
      clear hkn hq hrg
      generalize Tag.has cp tag = d at HH HL
      generalize Tag.add v n = v2 at HW HL
      cases d with
      | false =>
        have HN2 := Lib.hid (show v = Mt.holders (l.take (k + 1)) tag by rw [HL.out]; simp)
        clear HL HW
        go_wp2_with (go_at_call 100; refine (HH.out _).mono ?_; rintro e w1 ⟨rfl, hw1⟩; obtain rfl := hw1.symm)
        go_roundw
        case rel => exact ⟨k + 1, v, by go_num, rfl, by omega, hv, HN2, trivial⟩
        case measure => simp [intOf]; omega
      | true =>
        have HN2 := Lib.hid (show v2 = Mt.holders (l.take (k + 1)) tag by rw [HL.out]; simp)
        rw [← HN2.out] at hlt2
        clear HL
        go_wp2_with (first
          | (go_at_call 100; refine (HH.out _).mono ?_; rintro e w1 ⟨rfl, hw1⟩; obtain rfl := hw1.symm)
          | (go_at_call 103; refine (HW.out _).mono ?_; rintro e w1 ⟨rfl, hw1⟩; obtain rfl := hw1.symm))
        go_roundw
        case rel => exact ⟨k + 1, v2, by go_num, rfl, by omega, hlt2, HN2, trivial⟩
        case measure => simp [intOf]; omega
set_option maxRecDepth 100000 in
set_option maxHeartbeats 8000000 in
/-- law47.rows. -/
theorem mtrows_ok (A : Option Addr) (c : Nat) (l : List Mt.R) (hl : l.length ≤ 1000000) (w : World) (hA : MRows w A l) :
    Calls Tryz.prog 47 #[.slice A l.length c] w fun e w' => ∃ v, e = .returned v ∧ w'.ownsRow w.heap.size 87 7 v l.length (flatM l) ∧ Below w.heap.size w w' := by
  obtain ⟨i0, hi, hz0, hz1, hz2⟩ := info_parts info_mrow3
  have HI := Lib.hid hi
  have HZ0 := Lib.hid hz0
  have HZ1 := Lib.hid hz1
  have HZ2 := Lib.hid hz2
  have HA := Lib.hid hA
  obtain ⟨n, hn⟩ : ∃ n, n = l.length := ⟨_, rfl⟩
  rw [← hn] at hl ⊢
  have HN := Lib.hid hn
  clear hi hz0 hz1 hz2 hA hn
  go_enter Tryz.func47, Tryz.ntmps47
  go_wp2_with fail
  go_loopw [3, 4] (fun v i wr => ∃ (k : Nat), i = .int .i64 (k : Int) ∧ k ≤ n ∧ Hid (wr.ownsRow w.heap.size 87 7 v k (flatM (l.take k))) ∧ Hid (Below w.heap.size w wr)) (fun _ i _ => n - (intOf i).toNat)
  case atStart => exact ⟨0, rfl, Nat.zero_le _, Lib.hid (World.ownsRow_nil _ _ _ _), Lib.hid (Below.refl _ _)⟩
  case round =>
    obtain ⟨k, rfl, hk, hO, hW⟩ := hrel
    by_cases hkn : k = n
    · subst hkn
      have ho := hO.out
      rw [List.take_of_length_le (Nat.le_of_eq HN.out.symm)] at ho
      have HO := Lib.hid ho
      clear ho hO
      go_wp2_with fail
      go_ret
      exact ⟨_, rfl, HO.out, hW.out⟩
    · have hlt : k < n := by omega
      have hki : (k : Int) < (n : Int) := by omega
      have hkl : k < l.length := by rw [← HN.out]; exact hlt
      obtain ⟨q, hq⟩ : ∃ q, l[k]? = some q := ⟨_, List.getElem?_eq_getElem hkl⟩
      obtain ⟨g, rfl, hgl, hrg⟩ := (HA.out.below hW.out).get hq
      have HS : Hid (flatM (l.take (k + 1)) = flatM (l.take k) ++ mtC q) := Lib.hid (by
        obtain ⟨h1, h2⟩ := List.getElem?_eq_some_iff.1 hq
        rw [List.take_succ_eq_append_getElem h1, h2]
        unfold flatM
        rw [List.flatMap_append]
        simp)
      have hbz := hW.out.size
      obtain ⟨r0, ⟨r1, r2⟩, r3, r4, r5, r6⟩ := q
      unfold mtC at HS
      simp only at HS
      have HRG := Lib.hid hrg
      have HO9 := Lib.hid (own_below hO.out (below_fresh wr (.cells #[.int .i64 r0, .int .u16 (r1 : Int), .int .u16 (r2 : Int), .int .u16 (r3 : Int), .int .u16 (r4 : Int), .int .u16 (r5 : Int), .int .u16 (r6 : Int)] 87)))
      generalize flatM (l.take k) = cs at HS HO9
      clear hkl hkn hO hrg hq
      go_wp2_with (first
        | (refine wpList_load_mid rfl 86 (.tmp 14) rfl g (k * 7) rfl [.int .i64 r0, .int .u16 (r1 : Int), .int .u16 (r2 : Int), .int .u16 (r3 : Int), .int .u16 (r4 : Int), .int .u16 (r5 : Int), .int .u16 (r6 : Int)] _ HRG.out Tryz.underlying86 rfl info_rmrow ?_)
        | (at_builtin; refine wpList_append_own _ rfl (.tmp 11) (.tmp 16) 76 rfl w.heap.size 87 i0 _ 7 24 Tryz.underlying76 HI.out HZ0.out HZ1.out HZ2.out rfl (by decide) u3 k cs (by simp [Act.eval, Act.put]) HO9.out ⟨wr.heap.size, 0, none⟩ 1 1 [.int .i64 r0, .int .u16 (r1 : Int), .int .u16 (r2 : Int), .int .u16 (r3 : Int), .int .u16 (r4 : Int), .int .u16 (r5 : Int), .int .u16 (r6 : Int)] (by simp [Act.eval, Act.put]) rfl (news_block (heap_alloc_new wr _)) (by simp [Value.oneCell']) (by unfold maxLen; omega) (by omega) (by simp; omega) ?_; intro v' w2 hown' hgrow _; have HOW := Lib.hid hown'; have HG := Lib.hid hgrow; clear hown' hgrow))
      have HB2 := Lib.hid (show Below w.heap.size w w2 from (below_new hW.out (.cells #[.int .i64 r0, .int .u16 (r1 : Int), .int .u16 (r2 : Int), .int .u16 (r3 : Int), .int .u16 (r4 : Int), .int .u16 (r5 : Int), .int .u16 (r6 : Int)] 87)).grown HG.out (by simp; omega) (fun k h => (HO9.out.lt k h).1))
      go_roundw
      case rel => exact ⟨k + 1, by go_num, by omega, by rw [HS.out]; exact HOW, HB2⟩
      case measure => simp [intOf]; omega
set_option maxRecDepth 100000 in
set_option maxHeartbeats 8000000 in
/-- law47.same, of the same rows. -/
theorem mtsame_ok (A B : Option Addr) (c d : Nat) (l : List Mt.R) (hl : l.length ≤ 1000000) (w : World) (hA : MRows w A l) (hB : MRows w B l) :
    Calls Tryz.prog 46 #[.slice A l.length c, .slice B l.length d] w fun e w' => e = .returned (.bool true) ∧ Below w.heap.size w w' := by
  have HA := Lib.hid hA
  have HB := Lib.hid hB
  obtain ⟨n, hn⟩ : ∃ n, n = l.length := ⟨_, rfl⟩
  rw [← hn] at hl ⊢
  have HN := Lib.hid hn
  clear hA hB hn
  go_enter Tryz.func46, Tryz.ntmps46
  go_wp2_with fail
  go_loopw [5] (fun i wr => ∃ (k : Nat), i = .int .i64 (k : Int) ∧ k ≤ n ∧ Hid (Below w.heap.size w wr)) (fun i _ => n - (intOf i).toNat)
  case atStart => exact ⟨0, rfl, Nat.zero_le _, Lib.hid (Below.refl _ _)⟩
  case round =>
    obtain ⟨k, rfl, hk, hW⟩ := hrel
    by_cases hkn : k = n
    · subst hkn
      go_wp2_with fail
      go_ret
      exact ⟨rfl, hW.out⟩
    · have hlt : k < n := by omega
      have hki : (k : Int) < (n : Int) := by omega
      have hkl : k < l.length := by rw [← HN.out]; exact hlt
      obtain ⟨q, hq⟩ : ∃ q, l[k]? = some q := ⟨_, List.getElem?_eq_getElem hkl⟩
      obtain ⟨g, rfl, hgl, hrg⟩ := (HA.out.below hW.out).get hq
      obtain ⟨g2, rfl, hgl2, hrg2⟩ := (HB.out.below hW.out).get hq
      obtain ⟨r0, ⟨r1, r2⟩, r3, r4, r5, r6⟩ := q
      have HRG := Lib.hid (show ∀ W : World, (∃ X, W = over wr X) → W.rangeAt g (k * 7) (mtC (r0, (r1, r2), r3, r4, r5, r6)) from by rintro W ⟨X, rfl⟩; exact rangeAt_over hrg)
      have HRG2 := Lib.hid (show ∀ W : World, (∃ X, W = over wr X) → W.rangeAt g2 (k * 7) (mtC (r0, (r1, r2), r3, r4, r5, r6)) from by rintro W ⟨X, rfl⟩; exact rangeAt_over hrg2)
      clear hkl hkn hrg hrg2 hq
      go_wp2_with fail
      refine wp_region_over (by kernel_rfl) (by kernel_rfl) ?_
      repeat (first
        | (go_big_quiet_want; refine quiet_load_mid 87 (.tmp 19) rfl g (k * 7) rfl [.int .i64 r0, .int .u16 (r1 : Int), .int .u16 (r2 : Int), .int .u16 (r3 : Int), .int .u16 (r4 : Int), .int .u16 (r5 : Int), .int .u16 (r6 : Int)] _ HRG.out Tryz.underlying87 rfl info_mrow ?_; go_big_quiet_on; simp only [Act.put, List.setIfInBounds_toArray, List.set_cons_succ, List.set_cons_zero])
        | (go_big_quiet_want; refine quiet_load_mid 87 (.tmp 23) rfl g2 (k * 7) rfl [.int .i64 r0, .int .u16 (r1 : Int), .int .u16 (r2 : Int), .int .u16 (r3 : Int), .int .u16 (r4 : Int), .int .u16 (r5 : Int), .int .u16 (r6 : Int)] _ HRG2.out Tryz.underlying87 rfl info_mrow ?_; go_big_quiet_on; simp only [Act.put, List.setIfInBounds_toArray, List.set_cons_succ, List.set_cons_zero])
        | go_big_quiet_step (fail))
      refine wpQuiet_nil ?_
      intro W7 hW7
      have hb7 := below_of_over hW7
      have hW3 := Lib.hid (below_here hW.out hb7)
      clear hW7 hb7
      go_wp2_with fail
      go_roundw
      case rel => exact ⟨k + 1, by go_num, by omega, hW3⟩
      case measure => simp [intOf]; omega
end Go.Proofs.YtlmacaenbililaaGreatDoor
namespace Go.Proofs.YtlmacaenbililaaGreatDoor
open Go.RowKit Go.Shelf
set_option linter.unusedSimpArgs false
set_option linter.unusedVariables false
attribute [local go_sem] cell_over frozen_over

namespace Mt
/-- One more tag. -/
def aloneRow (L : List R) (r : R) (o : Nat) : Nat → Nat
  | 0 => o
  | k + 1 => if (r.2.2.2.2.2.testBit k && Tag.sub (holders L (k : Int)) r.2.2.1) = true then aloneRow L r o k ||| 2 ^ k else aloneRow L r o k
def aloneF (L : List R) (role : Int) (o : Nat) (r : R) : Nat := if r.1 = role then aloneRow L r o 16 else o
def aloneTo (L : List R) (role : Int) (l : List R) : Nat := l.foldl (aloneF L role) 0
theorem aloneTo_take (L : List R) (role : Int) {l : List R} {k : Nat} {r : R} (h : l[k]? = some r) : aloneTo L role (l.take (k + 1)) = aloneF L role (aloneTo L role (l.take k)) r := by
  obtain ⟨hk, he⟩ := List.getElem?_eq_some_iff.1 h
  unfold aloneTo
  rw [List.take_succ_eq_append_getElem hk, List.foldl_append, he]
  rfl
theorem aloneRow_lt {L : List R} {r : R} {o : Nat} (h : o < 65536) : ∀ k, k ≤ 16 → aloneRow L r o k < 65536
  | 0, _ => h
  | k + 1, hk => by
    unfold aloneRow
    split
    · exact Nat.or_lt_two_pow (n := 16) (aloneRow_lt h k (by omega)) (Nat.pow_lt_pow_right (by omega) (by omega))
    · exact aloneRow_lt h k (by omega)
theorem aloneF_lt {L : List R} {role : Int} {o : Nat} (h : o < 65536) (r : R) : aloneF L role o r < 65536 := by
  unfold aloneF
  split
  · exact aloneRow_lt h 16 (by omega)
  · exact h
theorem aloneFold_lt {L : List R} {role : Int} : ∀ (l : List R) (o : Nat), o < 65536 → l.foldl (aloneF L role) o < 65536
  | [], o, h => h
  | r :: l, o, h => by
    rw [List.foldl_cons]
    exact aloneFold_lt l _ (aloneF_lt h r)
theorem aloneTo_lt (L : List R) (role : Int) (l : List R) : aloneTo L role l < 65536 := aloneFold_lt l 0 (by omega)
theorem aloneRow_bit {L : List R} {r : R} {o : Nat} : ∀ k, k ≤ 16 → ∀ i, (aloneRow L r o k).testBit i = (o.testBit i || (decide (i < k) && (r.2.2.2.2.2.testBit i && Tag.sub (holders L (i : Int)) r.2.2.1)))
  | 0, _, i => by simp [aloneRow]
  | k + 1, hk, i => by
    unfold aloneRow
    have ih := aloneRow_bit (L := L) (r := r) (o := o) k (by omega) i
    by_cases h : (r.2.2.2.2.2.testBit k && Tag.sub (holders L (k : Int)) r.2.2.1) = true
    · rw [if_pos h, Gr.bit_add (by omega), ih]
      by_cases e : k = i
      · subst e; simp [h]
      · have : (decide (i < k + 1)) = decide (i < k) := by
          by_cases h1 : i < k
          · simp [h1]; omega
          · simp [h1]; omega
        rw [this]; simp [e]
    · rw [if_neg h, ih]
      by_cases e : k = i
      · subst e; simp only [Bool.not_eq_true] at h; rw [h]; simp
      · have : (decide (i < k + 1)) = decide (i < k) := by
          by_cases h1 : i < k
          · simp [h1]; omega
          · simp [h1]; omega
        rw [this]
theorem aloneFold_bit {L : List R} {role : Int} {i : Nat} (hi : i < 16) : ∀ (l : List R) (o : Nat), (l.foldl (aloneF L role) o).testBit i = (o.testBit i || l.any (fun r => decide (r.1 = role) && (r.2.2.2.2.2.testBit i && Tag.sub (holders L (i : Int)) r.2.2.1)))
  | [], o => by simp
  | r :: l, o => by
    rw [List.foldl_cons, aloneFold_bit hi l, List.any_cons]
    unfold aloneF
    by_cases h : r.1 = role
    · rw [if_pos h, aloneRow_bit 16 (by omega)]
      simp [h, hi, Bool.or_assoc]
    · rw [if_neg h]
      simp [h]
theorem not_bit {o x i : Nat} (hx : x < 65536) (hi : i < 16) : (o &&& (65535 - x)).testBit i = (o.testBit i && !x.testBit i) := by
  rw [Nat.testBit_and, show 65535 - x = 2 ^ 16 - (x + 1) by omega, Nat.testBit_two_pow_sub_succ (by omega)]
  simp [hi]
theorem less_bit {i : Nat} (hi : i < 16) (u : Nat) : ∀ (l : List R) (o : Nat), (∀ r ∈ l, r.2.2.2.2.2 < 65536) → (less o u l).testBit i = (o.testBit i && l.all (fun r => Tag.has u r.1 || !r.2.2.2.2.2.testBit i))
  | [], o, _ => by simp [less]
  | r :: l, o, h => by
    have ih := fun o => less_bit hi u l o (fun q hq => h q (List.mem_cons_of_mem _ hq))
    unfold less at ih ⊢
    rw [List.foldl_cons, ih, List.all_cons]
    by_cases hu : Tag.has u r.1 = true
    · rw [if_pos hu, hu]; simp
    · rw [if_neg hu, not_bit (h r List.mem_cons_self) hi]
      simp only [Bool.not_eq_true] at hu
      rw [hu, Bool.false_or, Bool.and_assoc]
theorem holdFold_bit {i : Nat} (hi : i < 16) (tag : Int) : ∀ (l : List R) (o : Nat), (∀ r ∈ l, 0 ≤ r.1 ∧ r.1 < 16) → (l.foldl (fun o r => if Tag.has r.2.2.2.2.2 tag = true then o ||| Tag.of [r.1] else o) o).testBit i = (o.testBit i || l.any (fun r => Tag.has r.2.2.2.2.2 tag && decide (r.1 = (i : Int))))
  | [], o, _ => by simp
  | r :: l, o, h => by
    rw [List.foldl_cons, holdFold_bit hi tag l _ (fun q hq => h q (List.mem_cons_of_mem _ hq)), List.any_cons]
    obtain ⟨h0, h1⟩ := h r List.mem_cons_self
    obtain ⟨n, hn⟩ : ∃ n : Nat, r.1 = (n : Int) := ⟨r.1.toNat, by omega⟩
    by_cases hh : Tag.has r.2.2.2.2.2 tag = true
    · rw [if_pos hh, hh, hn, Tag.of_one (by omega), Gr.bit_add (by omega), Bool.true_and, Bool.or_assoc]
      congr 2
      rw [Bool.eq_iff_iff, decide_eq_true_eq, decide_eq_true_eq]
      omega
    · rw [if_neg hh]
      simp only [Bool.not_eq_true] at hh
      rw [hh, Bool.false_and, Bool.false_or]
theorem sub_iff {a b : Nat} : Tag.sub a b = true ↔ ∀ i, i < 16 → a.testBit i = true → b.testBit i = true := by
  constructor
  · intro h i hi ha
    unfold Tag.sub at h
    rw [List.all_eq_true] at h
    exact h i (Tag.mem_tags.2 ⟨hi, ha⟩)
  · exact Pol.sub_of
/-- The same, tag by tag. -/
theorem alone_is {L : List R} (hr : ∀ r ∈ L, 0 ≤ r.1 ∧ r.1 < 16) (hs : ∀ r ∈ L, r.2.2.1 < 65536 ∧ r.2.2.2.2.2 < 65536) (hn : ∀ r ∈ L, ∀ q ∈ L, r.1 = q.1 → r = q) (role : Int) : aloneTo L role L = alone L role := by
  have hlt : alone L role < 65536 := by
    unfold alone
    cases h : find L role with
    | none => simp
    | some r => exact less_lt _ _ _ (hs r (List.mem_of_find?_eq_some h)).2
  refine Tag.ext (aloneTo_lt _ _ _) hlt fun t ht => ?_
  unfold aloneTo
  rw [aloneFold_bit ht, Nat.zero_testBit, Bool.false_or]
  unfold alone
  cases h : find L role with
  | none =>
    have h' := h
    unfold find at h'
    rw [List.find?_eq_none] at h'
    rw [Nat.zero_testBit, Bool.eq_false_iff]
    intro hc
    obtain ⟨r, hr1, hr2⟩ := List.any_eq_true.1 hc
    rw [Bool.and_eq_true] at hr2
    exact h' r hr1 hr2.1
  | some r =>
    have hm : r ∈ L := List.mem_of_find?_eq_some h
    have hro : r.1 = role := by simpa using List.find?_some h
    simp only
    rw [less_bit ht _ L _ (fun q hq => (hs q hq).2), Bool.eq_iff_iff, List.any_eq_true]
    have hcap : ∀ q ∈ L, Tag.has q.2.2.2.2.2 (t : Int) = q.2.2.2.2.2.testBit t := fun q hq => Tag.has_small ht
    have hsub : Tag.sub (holders L (t : Int)) r.2.2.1 = true ↔ L.all (fun q => Tag.has r.2.2.1 q.1 || !q.2.2.2.2.2.testBit t) = true := by
      rw [sub_iff, List.all_eq_true]
      constructor
      · intro h1 q hq
        obtain ⟨g0, g1⟩ := hr q hq
        by_cases hc : q.2.2.2.2.2.testBit t = true
        · have := h1 q.1.toNat (by omega) (by
            unfold holders
            rw [holdFold_bit (by omega) _ L 0 hr, Nat.zero_testBit, Bool.false_or, List.any_eq_true]
            refine ⟨q, hq, ?_⟩
            rw [hcap q hq, hc, Bool.true_and, decide_eq_true_eq]
            omega)
          rw [Bool.or_eq_true]
          left
          obtain ⟨n, hn'⟩ : ∃ n : Nat, q.1 = (n : Int) := ⟨q.1.toNat, by omega⟩
          rw [hn'] at this g1 ⊢
          rw [Tag.has_small (by omega)]
          simpa using this
        · rw [Bool.or_eq_true]; right; simpa using hc
      · intro h1 i hi hh
        unfold holders at hh
        rw [holdFold_bit hi _ L 0 hr, Nat.zero_testBit, Bool.false_or, List.any_eq_true] at hh
        obtain ⟨q, hq, h2⟩ := hh
        rw [hcap q hq, Bool.and_eq_true, decide_eq_true_eq] at h2
        have h3 := h1 q hq
        rw [h2.1, h2.2, Tag.has_small hi] at h3
        simpa using h3
    constructor
    · rintro ⟨q, hq, h2⟩
      rw [Bool.and_eq_true, Bool.and_eq_true, decide_eq_true_eq] at h2
      obtain rfl : q = r := hn q hq r hm (h2.1.trans hro.symm)
      rw [Bool.and_eq_true]
      exact ⟨h2.2.1, hsub.1 h2.2.2⟩
    · intro h2
      rw [Bool.and_eq_true] at h2
      exact ⟨r, hm, by rw [Bool.and_eq_true, Bool.and_eq_true, decide_eq_true_eq]; exact ⟨hro, h2.1, hsub.2 h2.2⟩⟩
end Mt
set_option maxRecDepth 100000 in
set_option maxHeartbeats 8000000 in
theorem rmtalone_ok (A : Option Addr) (c : Nat) (l : List Mt.R) (hl : l.length ≤ 1000000) (hs : Mt.setsOk l) (role : Int) (w : World) (hA : MRows w A l) :
    Calls Tryz.prog 49 #[.slice A l.length c, .int .i64 role] w fun e w' => e = .returned (.int .u16 (Mt.aloneTo l role l : Int)) ∧ Below w.heap.size w w' := by
  have HA := Lib.hid hA
  have HS := Lib.hid hs
  obtain ⟨RES, hRES⟩ : ∃ RES, RES = Mt.aloneTo l role l := ⟨_, rfl⟩
  rw [← hRES]
  have HRES := Lib.hid hRES
  clear hA hs hRES
  go_enter Tryz.func49, Tryz.ntmps49
  go_wp2_with fail
  go_loopw [5, 6, 7] (fun o j _ wr => ∃ (k v : Nat), j = .int .i64 (k : Int) ∧ o = .int .u16 (v : Int) ∧ k ≤ l.length ∧ v < 65536 ∧ Hid (v = Mt.aloneTo l role (l.take k)) ∧ Hid (Below w.heap.size w wr)) (fun _ j _ _ => l.length - (intOf j).toNat)
  case atStart => exact ⟨0, 0, rfl, rfl, by omega, by omega, Lib.hid rfl, Lib.hid (Below.refl _ _)⟩
  case round =>
    obtain ⟨k, v, rfl, rfl, hk, hv, hV, hW⟩ := hrel
    by_cases hkn : k = l.length
    · subst hkn
      have hr := hV.out
      rw [List.take_length] at hr
      have HR := Lib.hid hr
      clear hr
      go_wp2_with fail
      go_ret
      exact ⟨by rw [HRES.out, ← HR.out]; rfl, hW.out⟩
    · have hkl : k < l.length := by omega
      have hki : (k : Int) < (l.length : Int) := by omega
      obtain ⟨q, hq⟩ : ∃ q, l[k]? = some q := ⟨_, List.getElem?_eq_getElem hkl⟩
      have HQ := Lib.hid hq
      have HL := Lib.hid (Mt.aloneTo_take l role hq)
      rw [← hV.out] at HL
      have hqs := HS.out k q hq
      obtain ⟨n, lb, up, dn, ow, cp⟩ := q
      simp only at hqs
      obtain ⟨hup, hcp⟩ := hqs
      clear hkn hq
      go_wp2_with fail
      go_loopw [5, 7] (fun o j wr => ∃ (t v2 : Nat), j = .int .i64 (t : Int) ∧ o = .int .u16 (v2 : Int) ∧ t ≤ 16 ∧ v2 < 65536 ∧ Hid (v2 = Mt.aloneRow l (n, lb, up, dn, ow, cp) v t) ∧ Hid (n ≠ role → t = 0) ∧ Hid (Below w.heap.size w wr)) (fun _ j _ => 16 - (intOf j).toNat)
      case atStart => exact ⟨0, v, rfl, rfl, by omega, hv, Lib.hid rfl, Lib.hid (fun _ => rfl), hW⟩
      case round =>
        obtain ⟨t, v2, rfl, rfl, ht, hv2, hV2, hN, hW2⟩ := hrel
        by_cases ht16 : t = 16
        · subst ht16
          have hnr : n = role := Classical.byContradiction fun h => absurd (hN.out h) (by omega)
          have HR := Lib.hid (show v2 = Mt.aloneTo l role (l.take (k + 1)) by rw [HL.out]; unfold Mt.aloneF; rw [if_pos hnr]; exact hV2.out)
          clear HL hV2 hN hnr
          go_wp2_with fail
          go_roundw
          case rel => exact ⟨k + 1, v2, by go_num, rfl, by omega, hv2, HR, hW2⟩
          case measure => simp [intOf]; omega
        · have htl : t < 16 := by omega
          have hti : (t : Int) < 16 := by omega
          obtain ⟨g, rfl, hgl, hrg⟩ := (HA.out.below hW2.out).get HQ.out
          have c0 : wr.cell? ⟨g, k * 7, none⟩ = some (.int .i64 n) := rcell hrg (j := 0) rfl
          have c3 : wr.cell? ⟨g, k * 7 + 3, none⟩ = some (.int .u16 (up : Int)) := rcell hrg (j := 3) rfl
          have c6 : wr.cell? ⟨g, k * 7 + 6, none⟩ = some (.int .u16 (cp : Int)) := rcell hrg (j := 6) rfl
          by_cases hnr : n = role
          · subst hnr
            have HX := Lib.hid (show Mt.aloneRow l (n, lb, up, dn, ow, cp) v (t + 1) = if (cp.testBit t && Tag.sub (Mt.holders l (t : Int)) up) = true then v2 ||| 2 ^ t else v2 by rw [hV2.out]; rfl)
            have HH := Lib.hid (fun w => hasb_ok cp hcp t htl w)
            have HHO := Lib.hid (fun w h => rmthold_ok (some ⟨g, 0, none⟩) c l hl HS.out (t : Int) w h)
            have HMB := Lib.hid (show MRows wr (some ⟨g, 0, none⟩) l from HA.out.below hW2.out)
            have hhl := Mt.holders_lt l (t : Int)
            have HSB := Lib.hid (fun w => rsub_ok (Mt.holders l (t : Int)) up hhl hup w)
            have HWB := Lib.hid (fun w => withb_ok v2 hv2 t htl w)
            have hv3 : v2 ||| 2 ^ t < 65536 := Nat.or_lt_two_pow (n := 16) hv2 (Nat.pow_lt_pow_right (by omega) htl)
            generalize Tag.sub (Mt.holders l (t : Int)) up = d at HSB HX
            generalize Mt.holders l (t : Int) = ho at HHO HSB hhl
            generalize cp.testBit t = b at HH HX
            obtain ⟨len, hlen⟩ : ∃ len, len = l.length := ⟨_, rfl⟩
            clear ht16 hrg hV2
            cases b with
            | false =>
              have HN2 := Lib.hid (show v2 = Mt.aloneRow l (n, lb, up, dn, ow, cp) v (t + 1) by rw [HX.out]; simp)
              clear HX HHO HSB HWB
              go_wp2_with fail
              refine wp_region_over (by kernel_rfl) (by kernel_rfl) ?_
              repeat (go_big_quiet_step (first
                | ((go_at_call 100; exact Calls.over_of ((HH.out _).mono fun e w' h => ⟨h.1, h.2 ▸ Below.refl _ _⟩)))))
              refine wpQuiet_nil ?_
              intro W7 hW7
              have hb7 := below_of_over hW7
              have hW3 := Lib.hid (below_here hW2.out hb7)
              clear hW7 hb7
              go_wp2_with fail
              go_roundw
              case rel => exact ⟨t + 1, v2, by go_num, rfl, by omega, hv2, HN2, Lib.hid (fun h => absurd rfl h), hW3⟩
              case measure => simp [intOf]; omega
            | true =>
              have HN1 : Hid (Mt.aloneRow l (n, lb, up, dn, ow, cp) v (t + 1) = if d = true then v2 ||| 2 ^ t else v2) := Lib.hid (by rw [HX.out, Bool.true_and])
              clear HX
              go_wp2_with fail
              refine wp_region_over (by kernel_rfl) (by kernel_rfl) ?_
              repeat (go_big_quiet_step (first
                | ((go_at_call 100; exact Calls.over_of ((HH.out _).mono fun e w' h => ⟨h.1, h.2 ▸ Below.refl _ _⟩)))
                | ((go_at_call 119; exact Calls.over_of ((HSB.out _).mono fun e w' h => ⟨h.1, h.2 ▸ Below.refl _ _⟩)))
                | ((go_at_call 51; exact Calls.over_of ((HHO.out _ (HMB.out.below (over_below _ _))).mono fun e w' h => ⟨h.1, h.2 ▸ Below.refl _ _⟩)))))
              refine wpQuiet_nil ?_
              intro W7 hW7
              have hb7 := below_of_over hW7
              have hW3 := Lib.hid (below_here hW2.out hb7)
              clear hW7 hb7
              cases d with
              | false =>
                have HN2 := Lib.hid (show v2 = Mt.aloneRow l (n, lb, up, dn, ow, cp) v (t + 1) by rw [HN1.out]; simp)
                clear HN1
                go_wp2_with fail
                go_roundw
                case rel => exact ⟨t + 1, v2, by go_num, rfl, by omega, hv2, HN2, Lib.hid (fun h => absurd rfl h), hW3⟩
                case measure => simp [intOf]; omega
              | true =>
                have HN2 := Lib.hid (show v2 ||| 2 ^ t = Mt.aloneRow l (n, lb, up, dn, ow, cp) v (t + 1) by rw [HN1.out]; simp)
                clear HN1
                go_wp2_with (go_at_call 103; refine (HWB.out _).mono ?_; rintro e w1 ⟨rfl, hw1⟩; obtain rfl := hw1.symm)
                go_roundw
                case rel => exact ⟨t + 1, _, by go_num, rfl, by omega, hv3, HN2, Lib.hid (fun h => absurd rfl h), hW3⟩
                case measure => simp [intOf]; omega
          · have ht0 := hN.out hnr
            subst ht0
            have hnb : (n == role) = false := by simpa using hnr
            have HR := Lib.hid (show v2 = Mt.aloneTo l role (l.take (k + 1)) by rw [HL.out]; unfold Mt.aloneF; rw [if_neg hnr]; exact hV2.out)
            clear HL hV2 hN hrg
            go_wp2_with fail
            go_roundw
            case rel => exact ⟨k + 1, v2, by go_num, rfl, by omega, hv2, HR, hW2⟩
            case measure => simp [intOf]; omega
end Go.Proofs.YtlmacaenbililaaGreatDoor
namespace Go.Proofs.YtlmacaenbililaaGreatDoor
open Go.RowKit Go.Shelf
set_option linter.unusedSimpArgs false
set_option linter.unusedVariables false
attribute [local go_sem] cell_over frozen_over

namespace Pol
theorem rows_in {p : P} {l : Lab.L} {r : Mt.R} (h : r ∈ rows p l) : ∃ k, k < 16 ∧ (seen p l).testBit k = true ∧ r = row p l k := by
  obtain ⟨k, hk, rfl⟩ := List.mem_map.1 h
  obtain ⟨h1, h2⟩ := Tag.tags_lt _ k hk
  exact ⟨k, h1, h2, rfl⟩
theorem rows_roles (p : P) (l : Lab.L) : ∀ r ∈ rows p l, 0 ≤ r.1 ∧ r.1 < 16 := fun r h => by
  obtain ⟨k, hk, _, rfl⟩ := rows_in h
  show 0 ≤ (k : Int) ∧ (k : Int) < 16
  omega
theorem row_sets (p : P) (l : Lab.L) {k : Nat} (hk : k < 16) : (row p l k).2.2.1 < 65536 ∧ (row p l k).2.2.2.2.2 < 65536 := ⟨Gr.down_lt (p16 hk), caps_lt _ _ _⟩
theorem rows_sets (p : P) (l : Lab.L) : ∀ r ∈ rows p l, r.2.2.1 < 65536 ∧ r.2.2.2.2.2 < 65536 := fun r h => by
  obtain ⟨k, hk, _, rfl⟩ := rows_in h
  exact row_sets p l hk
theorem rows_setsOk (p : P) (l : Lab.L) : Mt.setsOk (rows p l) := fun i r h => rows_sets p l r (List.mem_of_getElem? h)
theorem rows_one (p : P) (l : Lab.L) : ∀ r ∈ rows p l, ∀ q ∈ rows p l, r.1 = q.1 → r = q := fun r hr q hq e => by
  obtain ⟨k, hk, _, rfl⟩ := rows_in hr
  obtain ⟨j, hj, _, rfl⟩ := rows_in hq
  have e' : (k : Int) = (j : Int) := e
  obtain rfl : k = j := by omega
  rfl
theorem rows_len (p : P) (l : Lab.L) : (rows p l).length ≤ 16 := by
  unfold rows
  rw [List.length_map]
  exact Nat.le_trans (List.length_filter_le _ _) (by simp)
theorem rows_alone (p : P) (l : Lab.L) (role : Int) : Mt.aloneTo (rows p l) role (rows p l) = Mt.alone (rows p l) role := Mt.alone_is (rows_roles p l) (rows_sets p l) (rows_one p l) role
end Pol
theorem all_polCells (p : Pol.P) : (Pol.cells p).toArray.all (·.oneCell') = true := all_oneCell_toArray (Pol.cells_one p)
theorem PolIn.setAll {b : Nat} {p q : Pol.P} {W : World} (h : PolIn b p W) (hp : Pol.Ok p) (hq : Pol.Ok q) : PolIn b q (W.setCells b 0 (Pol.cells q)) := by
  have h' := heap_setCells_same b 30 (Pol.cells q) 0 W (Pol.cells p) h (by rw [Pol.cells_len hp, Pol.cells_len hq]; exact Nat.le_refl 66)
  unfold PolIn
  rw [h']
  unfold splice
  rw [List.take_zero, List.nil_append, List.drop_eq_nil_of_le (by rw [Pol.cells_len hp, Pol.cells_len hq]; exact Nat.le_refl 66), List.append_nil]
set_option maxRecDepth 100000 in
set_option maxHeartbeats 16000000 in
theorem mtells_ok (p : Pol.P) (hp : Pol.Ok p) (la : Lab.L) (hla : Lab.ok la) (role tag : Int) (w : World) (hL : LaidAt w) :
    Calls Tryz.prog 6 #[Pol.val p, labV la, .int .i64 role, .int .i64 tag] w fun e w' => e = .returned (.bool true) ∧ Below w.heap.size w w' := by
  have hE0 : PolIn w.heap.size p ((w.alloc (.cells (Pol.cells p).toArray 30)).alloc (.cells #[.int .u16 (la.1 : Int), .int .u16 (la.2 : Int)] 25)) := block_below (below_fresh _ _) (heap_alloc_new w _)
  have hL0 := heap_alloc_new (w.alloc (.cells (Pol.cells p).toArray 30)) (.cells #[.int .u16 (la.1 : Int), .int .u16 (la.2 : Int)] 25)
  rw [World.size_alloc] at hL0
  have hB0 : Below w.heap.size w ((w.alloc (.cells (Pol.cells p).toArray 30)).alloc (.cells #[.int .u16 (la.1 : Int), .int .u16 (la.2 : Int)] 25)) := below_new (below_fresh _ _) _
  have HE0 := Lib.hid hE0
  have HL0 := Lib.hid hL0
  have HB0 := Lib.hid hB0
  have HLA := Lib.hid hL
  have HOK := Lib.hid hp
  have HMO := Lib.hid (Pol.mend_ok hp)
  have hl66 := Pol.cells_len hp
  have HME := Lib.hid (fun w => rmend_ok p hp w)
  have hm66 := Pol.cells_len (Pol.mend_ok hp)
  have HOF := Lib.hid (fun w hT => mtof_ok (Pol.mend p) (Pol.mend_ok hp) la hla w hT)
  have HRF := Lib.hid (fun w => rmtof_ok (Pol.mend p) (Pol.mend_ok hp) la hla w)
  rw [rowsC_flat] at HOF HRF
  have hrl := Pol.rows_len (Pol.mend p) la
  have HSO := Lib.hid (Pol.rows_setsOk (Pol.mend p) la)
  have HAL := Lib.hid (Pol.rows_alone (Pol.mend p) la role)
  generalize Pol.rows (Pol.mend p) la = l at HOF HRF hrl HSO HAL
  generalize Pol.mend p = pm at HME HMO hm66 HOF HRF
  clear hE0 hL0 hB0 hL hp
  obtain ⟨l1, l2⟩ := la
  unfold Pol.val labV at HOF HRF
  unfold Pol.val at HME
  unfold Pol.val labV
  simp only at HOF HRF ⊢
  go_enter Tryz.func6, Tryz.ntmps6
  go_wp2_with (refine wpList_load_mid rfl 30 (.tmp 4) rfl w.heap.size 0 rfl (Pol.cells p) _ HE0.out.range Tryz.underlying30 rfl (by rw [hl66]; exact info_pol) ?_)
  refine (HME.out _).mono ?_
  rintro e w1 ⟨rfl, hb1⟩
  have HE1 := Lib.hid (show PolIn w.heap.size p w1 from block_below hb1 HE0.out)
  have HL1 := Lib.hid (block_below hb1 HL0.out)
  have HB1 := Lib.hid (below_here HB0.out hb1)
  clear hb1 HE0 HL0 HB0 HME
  have HE2 := Lib.hid (show PolIn w.heap.size pm (w1.setCells w.heap.size 0 (Pol.cells pm)) from HE1.out.setAll HOK.out HMO.out)
  have HL2 := Lib.hid ((heap_setCells_other w.heap.size (Pol.cells pm) 0 w1 (w.heap.size + 1) (by omega)).trans HL1.out)
  have HB2 := Lib.hid (show Below w.heap.size w (w1.setCells w.heap.size 0 (Pol.cells pm)) from below_setCells HB1.out (Nat.le_refl _) _ _)
  have hth : w1.there w.heap.size 0 (Pol.cells pm).toArray.size := there_of_block HE1.out 0 _ (by rw [List.size_toArray, hm66, List.size_toArray, hl66]; exact Nat.le_refl 66)
  go_wp2_with (first
    | (refine wpList_store_mid rfl 30 _ _ rfl w.heap.size 0 (Pol.cells pm).toArray rfl rfl hth (by rw [List.size_toArray, hm66]; exact info_pol) (all_polCells pm) ?_; show wpList _ _ _ _ _ (w1.setCells w.heap.size 0 (Pol.cells pm)); generalize w1.setCells w.heap.size 0 (Pol.cells pm) = w2 at HE2 HL2 HB2 ⊢; simp only [Act.put])
    | (refine wpList_load_mid rfl 30 (.tmp 4) rfl w.heap.size 0 rfl (Pol.cells pm) _ HE2.out.range Tryz.underlying30 rfl (by rw [hm66]; exact info_pol) ?_)
    | (refine wpList_load_mid rfl 25 (.tmp 5) rfl (w.heap.size + 1) 0 rfl [.int .u16 (l1 : Int), .int .u16 (l2 : Int)] _ (range_of_block HL2.out 0 _ (fun j hj => by rw [Nat.zero_add])) Tryz.underlying25 rfl info_lab ?_))
  refine (HOF.out _ (HLA.out.below HB2.out).tab).mono ?_
  rintro e w3 ⟨v, rfl, hown, hb3⟩
  obtain ⟨A, ca, rfl, hA, _⟩ := mrows_of_own hown
  have HA3 := Lib.hid hA
  have HE3 := Lib.hid (show PolIn w.heap.size pm w3 from block_below hb3 HE2.out)
  have HL3 := Lib.hid (block_below hb3 HL2.out)
  have HB3 := Lib.hid (below_here HB2.out hb3)
  clear hb3 hown hA HE1 HE2 HL1 HL2 HB1 HB2 HOF hth
  go_wp2_with (first
    | (refine wpList_load_mid rfl 30 (.tmp 4) rfl w.heap.size 0 rfl (Pol.cells pm) _ HE3.out.range Tryz.underlying30 rfl (by rw [hm66]; exact info_pol) ?_)
    | (refine wpList_load_mid rfl 25 (.tmp 5) rfl (w.heap.size + 1) 0 rfl [.int .u16 (l1 : Int), .int .u16 (l2 : Int)] _ (range_of_block HL3.out 0 _ (fun j hj => by rw [Nat.zero_add])) Tryz.underlying25 rfl info_lab ?_))
  refine (HRF.out _).mono ?_
  rintro e w4 ⟨v, rfl, hown, hb4⟩
  obtain ⟨B, cb, rfl, hB, _⟩ := mrows_of_own hown
  have HA4 := Lib.hid (HA3.out.below hb4)
  have HB4 := Lib.hid (below_here HB3.out hb4)
  have HBR := Lib.hid hB
  clear hb4 hown hB HE3 HL3 HA3 HB3 HRF
  go_wp2_with fail
  refine (mtrows_ok B cb l (by omega) _ HBR.out).mono ?_
  rintro e w5 ⟨v, rfl, hown, hb5⟩
  obtain ⟨C, cc, rfl, hC, _⟩ := mrows_of_own hown
  have HA5 := Lib.hid (HA4.out.below hb5)
  have HBR5 := Lib.hid (HBR.out.below hb5)
  have HB5 := Lib.hid (below_here HB4.out hb5)
  have HC := Lib.hid hC
  clear hb5 hown hC HA4 HBR HB4
  go_wp2_with fail
  refine (mtsame_ok A C ca cc l (by omega) _ HA5.out HC.out).mono ?_
  rintro e w6 ⟨rfl, hb6⟩
  have HA6 := Lib.hid (HA5.out.below hb6)
  have HBR6 := Lib.hid (HBR5.out.below hb6)
  have HB6 := Lib.hid (below_here HB5.out hb6)
  clear hb6 HC HA5 HBR5 HB5
  go_wp2_with fail
  refine (mtalone_ok A ca l (by omega) HSO.out role _ HA6.out).mono ?_
  rintro e w7 ⟨rfl, hb7⟩
  have HA7 := Lib.hid (HA6.out.below hb7)
  have HBR7 := Lib.hid (HBR6.out.below hb7)
  have HB7 := Lib.hid (below_here HB6.out hb7)
  have HRA := Lib.hid (rmtalone_ok B cb l (by omega) HSO.out role _ HBR7.out)
  rw [HAL.out] at HRA
  clear hb7 HA6 HBR6 HB6 HAL
  generalize Mt.alone l role = al at HRA ⊢
  go_wp2_with fail
  refine HRA.out.mono ?_
  rintro e w8 ⟨rfl, hb8⟩
  have HA8 := Lib.hid (HA7.out.below hb8)
  have HBR8 := Lib.hid (HBR7.out.below hb8)
  have HB8 := Lib.hid (below_here HB7.out hb8)
  clear hb8 HA7 HBR7 HB7 HRA
  go_wp2_with fail
  refine (mtholders_ok A ca l (by omega) HSO.out tag _ HA8.out).mono ?_
  rintro e w9 ⟨rfl, hb9⟩
  have HBR9 := Lib.hid (HBR8.out.below hb9)
  have HB9 := Lib.hid (below_here HB8.out hb9)
  have HRH := Lib.hid (rmthold_ok B cb l (by omega) HSO.out tag _ HBR9.out)
  clear hb9 HA8 HBR8 HB8
  generalize Mt.holders l tag = ho at HRH ⊢
  go_wp2_with (go_at_call 51; refine HRH.out.mono ?_; rintro e w10 ⟨rfl, hw10⟩; obtain rfl := hw10.symm)
  refine (mtalive_ok _ (HLA.out.below HB9.out)).mono ?_
  rintro e w11 ⟨rfl, hb11⟩
  have HB11 := Lib.hid (below_here HB9.out hb11)
  clear hb11
  go_wp2_with fail
  go_ret
  exact ⟨rfl, HB11.out⟩
end Go.Proofs.YtlmacaenbililaaGreatDoor
namespace Go.Proofs.YtlmacaenbililaaGreatDoor
open Go.RowKit Go.Shelf
set_option linter.unusedSimpArgs false
set_option linter.unusedVariables false
attribute [local go_sem] cell_over frozen_over

namespace Mt
theorem sub_zero {x y : Nat} (hx : x < 65536) (hy : y < 65536) (h : Tag.sub x y = true) : x &&& (65535 - y) = 0 := by
  refine Tag.ext (Nat.lt_of_le_of_lt Nat.and_le_left hx) (by omega) fun i hi => ?_
  rw [not_bit hy hi, Nat.zero_testBit]
  cases hb : x.testBit i with
  | false => rfl
  | true => rw [sub_iff.1 h i hi hb]; rfl
theorem find_role {l : List R} {r : R} (hr : r ∈ l) (hn : ∀ a ∈ l, ∀ b ∈ l, a.1 = b.1 → a = b) : find l r.1 = some r := by
  cases h : find l r.1 with
  | none =>
    unfold find at h
    rw [List.find?_eq_none] at h
    exact absurd (decide_eq_true rfl) (h r hr)
  | some q =>
    have hq : q.1 = r.1 := by simpa using List.find?_some h
    rw [hn q (List.mem_of_find?_eq_some h) r hr hq]
theorem allOwns_take {l : List R} {k : Nat} {r : R} (h : l[k]? = some r) (x : Nat) : Pol.allOwns x (l.take (k + 1)) = if x.testBit r.1.toNat = true then Pol.allOwns x (l.take k) ||| r.2.2.2.2.1 else Pol.allOwns x (l.take k) := by
  obtain ⟨hk, he⟩ := List.getElem?_eq_some_iff.1 h
  unfold Pol.allOwns
  rw [List.take_succ_eq_append_getElem hk, List.foldl_append, he]
  rfl
end Mt
/-- All that is asked of a row. -/
structure MRowOk (l : List Mt.R) (r : Mt.R) (a : Nat) : Prop where
  lt : a < 16
  role : r.1 = (a : Int)
  all : Pol.allOwns r.2.2.2.1 l = r.2.2.2.2.2
  own : Tag.sub r.2.2.2.2.1 r.2.2.2.2.2 = true
  aln : Tag.sub (Mt.alone l r.1) r.2.2.2.2.2 = true
  dn : r.2.2.2.1 < 65536
  ow : r.2.2.2.2.1 < 65536
  cp : r.2.2.2.2.2 < 65536
  al : Mt.alone l r.1 < 65536
  pair : ∀ (j : Nat) (q : Mt.R), l[j]? = some q → ∃ c : Nat, c < 16 ∧ q.1 = (c : Int) ∧ q.2.2.1.testBit a = r.2.2.2.1.testBit c ∧ (r.2.2.2.1.testBit c = true → Tag.sub q.2.2.2.2.2 r.2.2.2.2.2 = true) ∧ q.2.2.1 < 65536 ∧ q.2.2.2.2.1 < 65536 ∧ q.2.2.2.2.2 < 65536
theorem rowOk (p : Pol.P) (hp : Pol.Ok p) (la : Lab.L) {i : Nat} {r : Mt.R} (h : (Pol.rows p la)[i]? = some r) : ∃ a, MRowOk (Pol.rows p la) r a := by
  have hm := List.mem_of_getElem? h
  have haln := Mt.alone_caps _ _ (Mt.find_role hm (Pol.rows_one p la))
  have halt : Mt.alone (Pol.rows p la) r.1 < 65536 := by
    unfold Mt.alone
    rw [Mt.find_role hm (Pol.rows_one p la)]
    exact Mt.less_lt _ _ _ (Pol.rows_sets p la r hm).2
  obtain ⟨a, ha, hs, rfl⟩ := Pol.rows_in hm
  refine ⟨a, ha, rfl, Pol.all_caps p hp la ha, Pol.owns_caps p la ha hs, haln, Gr.down_lt (p16 ha), Pol.row_owns_lt p hp la a, (Pol.row_sets p la ha).2, halt, fun j q hq => ?_⟩
  obtain ⟨c, hc, _, rfl⟩ := Pol.rows_in (List.mem_of_getElem? hq)
  exact ⟨c, hc, rfl, Pol.up_is p la hc ha, fun hb => Pol.caps_down p la ha hc hb, (Pol.row_sets p la hc).1, Pol.row_owns_lt p hp la c, (Pol.row_sets p la hc).2⟩
/-- What the shift says. -/
theorem shift_bit {s k : Nat} (hs : s < 65536) : ∃ (v : Nat) (y : Int), ((s : Int) / 2 ^ k) = (v : Int) ∧ v < 65536 ∧ bits .and .u16 (v : Int) 1 = y ∧ (y == 1) = s.testBit k := by
  have hvl : s / 2 ^ k < 65536 := Nat.lt_of_le_of_lt (Nat.div_le_self _ _) hs
  refine ⟨s / 2 ^ k, ((s / 2 ^ k &&& 1 : Nat) : Int), by simp, hvl, u16_and _ 1 hvl (by omega), ?_⟩
  have h3 : (s / 2 ^ k) &&& 1 = s / 2 ^ k % 2 := Nat.and_one_is_mod _
  rw [h3, Nat.testBit_eq_decide_div_mod_eq]
  by_cases h4 : s / 2 ^ k % 2 = 1
  · rw [h4]; simp
  · have h5 : s / 2 ^ k % 2 = 0 := by omega
    rw [h5]; simp
set_option maxRecDepth 100000 in
set_option maxHeartbeats 16000000 in
theorem msums_ok (p : Pol.P) (hp : Pol.Ok p) (la : Lab.L) (hla : Lab.ok la) (w : World) (hL : LaidAt w) :
    Calls Tryz.prog 8 #[Pol.val p, labV la] w fun e w' => e = .returned (.bool true) ∧ Below w.heap.size w w' := by
  have hE0 : PolIn w.heap.size p ((w.alloc (.cells (Pol.cells p).toArray 30)).alloc (.cells #[.int .u16 (la.1 : Int), .int .u16 (la.2 : Int)] 25)) := block_below (below_fresh _ _) (heap_alloc_new w _)
  have hL0 := heap_alloc_new (w.alloc (.cells (Pol.cells p).toArray 30)) (.cells #[.int .u16 (la.1 : Int), .int .u16 (la.2 : Int)] 25)
  rw [World.size_alloc] at hL0
  have hB0 : Below w.heap.size w ((w.alloc (.cells (Pol.cells p).toArray 30)).alloc (.cells #[.int .u16 (la.1 : Int), .int .u16 (la.2 : Int)] 25)) := below_new (below_fresh _ _) _
  have HE0 := Lib.hid hE0
  have HL0 := Lib.hid hL0
  have HB0 := Lib.hid hB0
  have HLA := Lib.hid hL
  have HOK := Lib.hid hp
  have HMO := Lib.hid (Pol.mend_ok hp)
  have hl66 := Pol.cells_len hp
  have HME := Lib.hid (fun w => rmend_ok p hp w)
  have hm66 := Pol.cells_len (Pol.mend_ok hp)
  generalize Pol.mend p = pm at HME HMO hm66
  have HOF := Lib.hid (fun w hT => mtof_ok pm HMO.out la hla w hT)
  have HCU := Lib.hid (fun w => rcut_ok pm HMO.out la hla w)
  have HOC := Lib.hid (fun w hT => mtof_ok (Pol.cut pm la) (Pol.cut_ok HMO.out la) la hla w hT)
  rw [rowsC_flat] at HOF HOC
  rw [Pol.cut_rows HMO.out] at HOC
  have hrl := Pol.rows_len pm la
  have HSO := Lib.hid (Pol.rows_setsOk pm la)
  have HRO : Hid (∀ (i : Nat) (r : Mt.R), (Pol.rows pm la)[i]? = some r → ∃ a, MRowOk (Pol.rows pm la) r a) := Lib.hid (fun i r h => rowOk pm HMO.out la h)
  generalize hl : Pol.rows pm la = l at HOF HOC hrl HSO HRO
  clear hE0 hL0 hB0 hL hp hl
  obtain ⟨l1, l2⟩ := la
  unfold Pol.val labV at HOF HCU HOC
  unfold Pol.val at HME
  unfold Pol.val labV
  simp only at HOF HCU HOC ⊢
  generalize Pol.cut pm (l1, l2) = pc at HCU HOC
  go_enter Tryz.func8, Tryz.ntmps8
  go_wp2_with (refine wpList_load_mid rfl 30 (.tmp 2) rfl w.heap.size 0 rfl (Pol.cells p) _ HE0.out.range Tryz.underlying30 rfl (by rw [hl66]; exact info_pol) ?_)
  refine (HME.out _).mono ?_
  rintro e w1 ⟨rfl, hb1⟩
  have HE1 := Lib.hid (show PolIn w.heap.size p w1 from block_below hb1 HE0.out)
  have HL1 := Lib.hid (block_below hb1 HL0.out)
  have HB1 := Lib.hid (below_here HB0.out hb1)
  clear hb1 HE0 HL0 HB0 HME
  have HE2 := Lib.hid (show PolIn w.heap.size pm (w1.setCells w.heap.size 0 (Pol.cells pm)) from HE1.out.setAll HOK.out HMO.out)
  have HL2 := Lib.hid ((heap_setCells_other w.heap.size (Pol.cells pm) 0 w1 (w.heap.size + 1) (by omega)).trans HL1.out)
  have HB2 := Lib.hid (show Below w.heap.size w (w1.setCells w.heap.size 0 (Pol.cells pm)) from below_setCells HB1.out (Nat.le_refl _) _ _)
  have hth : w1.there w.heap.size 0 (Pol.cells pm).toArray.size := there_of_block HE1.out 0 _ (by rw [List.size_toArray, hm66, List.size_toArray, hl66]; exact Nat.le_refl 66)
  go_wp2_with (first
    | (refine wpList_store_mid rfl 30 _ _ rfl w.heap.size 0 (Pol.cells pm).toArray rfl rfl hth (by rw [List.size_toArray, hm66]; exact info_pol) (all_polCells pm) ?_; show wpList _ _ _ _ _ (w1.setCells w.heap.size 0 (Pol.cells pm)); generalize w1.setCells w.heap.size 0 (Pol.cells pm) = w2 at HE2 HL2 HB2 ⊢; simp only [Act.put])
    | (refine wpList_load_mid rfl 30 (.tmp 2) rfl w.heap.size 0 rfl (Pol.cells pm) _ HE2.out.range Tryz.underlying30 rfl (by rw [hm66]; exact info_pol) ?_)
    | (refine wpList_load_mid rfl 25 (.tmp 3) rfl (w.heap.size + 1) 0 rfl [.int .u16 (l1 : Int), .int .u16 (l2 : Int)] _ (range_of_block HL2.out 0 _ (fun j hj => by rw [Nat.zero_add])) Tryz.underlying25 rfl info_lab ?_))
  refine (HOF.out _ (HLA.out.below HB2.out).tab).mono ?_
  rintro e w9 ⟨v, rfl, hown, hb3⟩
  obtain ⟨A, ca, rfl, hA, _⟩ := mrows_of_own hown
  have HA3 := Lib.hid hA
  have HE3 := Lib.hid (show PolIn w.heap.size pm w9 from block_below hb3 HE2.out)
  have HL3 := Lib.hid (block_below hb3 HL2.out)
  have HB3 := Lib.hid (below_here HB2.out hb3)
  have HT3 := Lib.hid (HLA.out.below HB3.out)
  clear hb3 hown hA HE1 HE2 HL1 HL2 HB1 HB2 HOF hth
  go_wp2_with fail
  have HP := Lib.hid (show ∀ W : World, (∃ X, W = over w9 X) → W.rangeAt w.heap.size 0 (Pol.cells pm) from by
    rintro W ⟨X, rfl⟩
    exact rangeAt_over HE3.out.range)
  obtain ⟨c1, c2, c3, c4⟩ := pair_cells HL3.out
  have hcl := World.block_lt_of_cell? w9 _ c1
  refine wp_region_ord [3, 5, 6] [0, 1, 2, 4, 3, 5, 6, 7] (fun W => ∃ X, W = over w9 X) (by kernel_rfl) (by kernel_rfl) rfl (by kernel_rfl) (over_of (Below.refl _ _).drew) ?_
  have HW0 := Lib.hid ((Below.refl w9.heap.size w9).drew)
  iterate 4
    refine wpO_one (by simp only [List.getElem?_toArray, List.getElem?_cons_zero, List.getElem?_cons_succ]; exact rfl) (by kernel_rfl) ?_
    (first
      | (go_big_quiet_want; refine quiet_load_mid 30 (.tmp 2) rfl w.heap.size 0 rfl (Pol.cells pm) _ (fun W' h => HP.out W' (by obtain ⟨s, rfl⟩ := h; exact s.property)) Tryz.underlying30 rfl (by rw [hm66]; exact info_pol) ?_; go_big_quiet_on; simp only [Act.put, List.setIfInBounds_toArray, List.set_cons_succ, List.set_cons_zero])
      | go_big_quiet_step (fail)
      | (go_big_quiet_want; go_big_quiet_op; refine ⟨_, fun _ _ _ => rfl, ?_⟩; go_big_quiet_on))
    refine wpQuiet_nil ?_
  refine wpO_run rfl rfl rfl (fun K hK => ?_)
  go_simp
  refine (HCU.out _).mono ?_
  rintro e W1 ⟨rfl, hb⟩
  have HW1 := Lib.hid (below_here HW0.out hb)
  clear hb
  refine ⟨_, rfl, over_of HW1.out, hK _ _ ?_⟩
  clear hK K
  simp only [Act.put, List.setIfInBounds_toArray, List.set_cons_succ, List.set_cons_zero]
  refine wpO_run rfl rfl rfl (fun K hK => ?_)
  go_simp
  refine (HOC.out _ (HT3.out.below HW1.out).tab).mono ?_
  rintro e W2 ⟨v, rfl, hown, hb⟩
  obtain ⟨B, cb, rfl, hB, _⟩ := mrows_of_own hown
  have HW2 := Lib.hid (below_here HW1.out hb)
  have HB := Lib.hid hB
  clear hb hown hB
  refine ⟨_, rfl, over_of HW2.out, hK _ _ ?_⟩
  clear hK K
  simp only [Act.put, List.setIfInBounds_toArray, List.set_cons_succ, List.set_cons_zero]
  refine wpO_run rfl rfl rfl (fun K hK => ?_)
  go_simp
  refine (mtsame_ok A B ca cb l (by omega) _ (HA3.out.below HW2.out) HB.out).mono ?_
  rintro e W3 ⟨rfl, hb⟩
  have HW3 := Lib.hid (below_here HW2.out hb)
  clear hb
  refine ⟨_, rfl, over_of HW3.out, hK _ _ ?_⟩
  clear hK K
  simp only [Act.put, List.setIfInBounds_toArray, List.set_cons_succ, List.set_cons_zero]
  iterate 1
    refine wpO_one (by simp only [List.getElem?_toArray, List.getElem?_cons_zero, List.getElem?_cons_succ]; exact rfl) (by kernel_rfl) ?_
    (first
      | go_big_quiet_step (fail)
      | (go_big_quiet_want; go_big_quiet_op; refine ⟨_, fun _ _ _ => rfl, ?_⟩; go_big_quiet_on))
    refine wpQuiet_nil ?_
  refine wpO_nil ?_
  have HA4 := Lib.hid (HA3.out.below HW3.out)
  have HB4 := Lib.hid (below_here HB3.out HW3.out)
  clear c1 c2 c3 c4 hcl HP HE3 HL3 HA3 HT3 HB3 HW0 HW1 HW2 HW3 HB HCU HOC
  go_wp2_with fail
  go_loopw [6, 7, 8, 9] (fun i _ _ _ wr => ∃ (k : Nat), i = .int .i64 (k : Int) ∧ k ≤ l.length ∧ Hid (Below W3.heap.size W3 wr)) (fun i _ _ _ _ => l.length - (intOf i).toNat)
  case atStart => exact ⟨0, rfl, Nat.zero_le _, Lib.hid (Below.refl _ _)⟩
  case round =>
    obtain ⟨k, rfl, hk, hW⟩ := hrel
    by_cases hkn : k = l.length
    · have hkk : ¬ (k : Int) < (l.length : Int) := by omega
      have HBW := Lib.hid (below_here HB4.out hW.out)
      clear hkn
      go_wp2_with fail
      refine (mtalive_ok _ (HLA.out.below HBW.out)).mono ?_
      rintro e w11 ⟨rfl, hb11⟩
      have HB11 := Lib.hid (below_here HBW.out hb11)
      clear hb11
      go_wp2_with fail
      go_ret
      exact ⟨rfl, HB11.out⟩
    · have hkl : k < l.length := by omega
      have hki : (k : Int) < (l.length : Int) := by omega
      obtain ⟨r, hr⟩ : ∃ r, l[k]? = some r := ⟨_, List.getElem?_eq_getElem hkl⟩
      obtain ⟨a, hra⟩ := HRO.out k r hr
      obtain ⟨g, rfl, hgl0, hrg0⟩ := HA4.out.get hr
      have HRG := Lib.hid (show ∀ W, Below W3.heap.size W3 W → g < W.heap.size ∧ W.rangeAt g (k * 7) (mtC r) from fun W hb => ⟨Nat.lt_of_lt_of_le hgl0 hb.size, range_below hrg0 hb hgl0⟩)
      have HRQ := Lib.hid (show ∀ (m : Nat) (q : Mt.R), l[m]? = some q → ∀ W, Below W3.heap.size W3 W → W.rangeAt g (m * 7) (mtC q) from fun m q hq W hb => by
        obtain ⟨g2, h1, h2, h3⟩ := (HA4.out.below hb).get hq
        obtain rfl : g = g2 := by simpa using h1
        exact h3)
      have hlt := hra.lt
      have hro := hra.role
      have hdn := hra.dn
      have hcp := hra.cp
      have how := hra.ow
      have hal := hra.al
      have HALL := Lib.hid hra.all
      have HZO := Lib.hid (Mt.sub_zero hra.ow hra.cp hra.own)
      have HZA := Lib.hid (Mt.sub_zero hra.al hra.cp hra.aln)
      have HPA := Lib.hid hra.pair
      obtain ⟨n, lb, up, dn, ow, cp⟩ := r
      simp only at hro hdn hcp how hal HALL HZO HZA HPA
      subst hro
      have hai : (a : Int) < 16 := by omega
      clear hkn hgl0 hrg0 hr hra
      go_wp2_with fail
      go_loopw [7, 8, 9] (fun o j _ wr => ∃ (m v : Nat), j = .int .i64 (m : Int) ∧ o = .int .u16 (v : Int) ∧ m ≤ l.length ∧ v < 65536 ∧ Hid (v = Pol.allOwns dn (l.take m)) ∧ Hid (Below W3.heap.size W3 wr)) (fun _ j _ _ => l.length - (intOf j).toNat)
      case atStart => exact ⟨0, 0, rfl, rfl, Nat.zero_le _, by omega, Lib.hid rfl, hW⟩
      case round =>
        obtain ⟨m, v, rfl, rfl, hm, hv, hV, hW⟩ := hrel
        by_cases hmn : m = l.length
        · have hmm : ¬ (m : Int) < (l.length : Int) := by omega
          have hvc : v = cp := by rw [hV.out, hmn, List.take_length, HALL.out]
          subst hvc
          obtain ⟨hgl, hrg⟩ := HRG.out wr hW.out
          have c0 : wr.cell? ⟨g, k * 7, none⟩ = some (.int .i64 (a : Int)) := rcell hrg (j := 0) rfl
          have c5 : wr.cell? ⟨g, k * 7 + 5, none⟩ = some (.int .u16 (ow : Int)) := rcell hrg (j := 5) rfl
          have c6 : wr.cell? ⟨g, k * 7 + 6, none⟩ = some (.int .u16 (v : Int)) := rcell hrg (j := 6) rfl
          have z1 := u16_andNot ow v how hv
          rw [HZO.out] at z1
          have z2 := u16_andNot (Mt.alone l (a : Int)) v hal hv
          rw [HZA.out] at z2
          have HMW := Lib.hid (show MRows wr (some ⟨g, 0, none⟩) l from HA4.out.below hW.out)
          have HAO := Lib.hid (fun W hA => mtalone_ok (some ⟨g, 0, none⟩) ca l (by omega) HSO.out (a : Int) W hA)
          generalize Mt.alone l (a : Int) = al at z2 HAO hal HZA
          clear hmn hrg hV HALL
          go_wp2_with fail
          refine wp_region_over (by kernel_rfl) (by kernel_rfl) ?_
          repeat (go_big_quiet_step ((go_at_call 48; exact Calls.over_of (HAO.out _ (HMW.out.below (over_below _ _))))))
          refine wpQuiet_nil ?_
          intro W7 hW7
          have hb7 := below_of_over hW7
          have hW3 := Lib.hid (below_here hW.out hb7)
          clear hW7 hb7
          go_wp2_with fail
          go_roundw
          case rel => exact ⟨k + 1, by go_num, by omega, hW3⟩
          case measure => simp [intOf]; omega
        · have hml : m < l.length := by omega
          have hmi : (m : Int) < (l.length : Int) := by omega
          obtain ⟨q, hq⟩ : ∃ q, l[m]? = some q := ⟨_, List.getElem?_eq_getElem hml⟩
          obtain ⟨c, hc16, hqc, hup, hcd, hqu, hqo, hqp⟩ := HPA.out m q hq
          have HTK := Lib.hid (Mt.allOwns_take hq dn)
          rw [← hV.out, hqc, Int.toNat_natCast] at HTK
          have HQ := Lib.hid (HRQ.out m q hq)
          obtain ⟨qn, qlb, qup, qdn, qow, qcp⟩ := q
          simp only at hqc hup hcd hqu hqo hqp HTK
          subst hqc
          have hci : (c : Int) < 16 := by omega
          obtain ⟨hgl, hrg⟩ := HRG.out wr hW.out
          have hrq := HQ.out wr hW.out
          have c4 : wr.cell? ⟨g, k * 7 + 4, none⟩ = some (.int .u16 (dn : Int)) := rcell hrg (j := 4) rfl
          have q0 : wr.cell? ⟨g, m * 7, none⟩ = some (.int .i64 (c : Int)) := rcell hrq (j := 0) rfl
          obtain ⟨v1, y1, hdiv1, hv1, hand1, hb1⟩ := shift_bit (s := dn) (k := c) hdn
          obtain ⟨v2, y2, hdiv2, hv2, hand2, hb2⟩ := shift_bit (s := qup) (k := a) hqu
          rw [hup] at hb2
          have HCD := Lib.hid (fun h => Mt.sub_zero hqp hcp (hcd h))
          have z3 := u16_andNot qcp cp hqp hcp
          generalize dn.testBit c = b at hb1 hb2 HCD HTK
          have hqv : v ||| qow < 65536 := Nat.or_lt_two_pow (n := 16) hv hqo
          have hor := u16_or v qow hv hqo
          clear hmn hrg hrq hq hup hcd hV
          go_wp2_with fail
          refine wp_region_over (by kernel_rfl) (by kernel_rfl) ?_
          repeat (go_big_quiet_step (fail))
          refine wpQuiet_nil ?_
          intro W7 hW7
          have hb7 := below_of_over hW7
          have HW7 := Lib.hid (below_here hW.out hb7)
          clear hW7 hb7 c4 q0 hdiv1 hand1 hb1 hW hgl
          obtain ⟨hgl, hrg⟩ := HRG.out W7 HW7.out
          have hrq := HQ.out W7 HW7.out
          have c0 : W7.cell? ⟨g, k * 7, none⟩ = some (.int .i64 (a : Int)) := rcell hrg (j := 0) rfl
          have c6 : W7.cell? ⟨g, k * 7 + 6, none⟩ = some (.int .u16 (cp : Int)) := rcell hrg (j := 6) rfl
          have q3 : W7.cell? ⟨g, m * 7 + 3, none⟩ = some (.int .u16 (qup : Int)) := rcell hrq (j := 3) rfl
          have q5 : W7.cell? ⟨g, m * 7 + 5, none⟩ = some (.int .u16 (qow : Int)) := rcell hrq (j := 5) rfl
          have q6 : W7.cell? ⟨g, m * 7 + 6, none⟩ = some (.int .u16 (qcp : Int)) := rcell hrq (j := 6) rfl
          clear hrg hrq
          cases b with
          | false =>
            have HN := Lib.hid (show v = Pol.allOwns dn (l.take (m + 1)) by rw [HTK.out]; simp)
            clear HTK HCD hor z3
            go_wp2_with fail
            refine wp_region_over (by kernel_rfl) (by kernel_rfl) ?_
            repeat (go_big_quiet_step (fail))
            refine wpQuiet_nil ?_
            intro W8 hW8
            have hb8 := below_of_over hW8
            have HW8 := Lib.hid (below_here HW7.out hb8)
            clear hW8 hb8
            go_wp2_with fail
            go_roundw
            case rel => exact ⟨m + 1, v, by go_num, rfl, by omega, hv, HN, HW8⟩
            case measure => simp [intOf]; omega
          | true =>
            have HN := Lib.hid (show v ||| qow = Pol.allOwns dn (l.take (m + 1)) by rw [HTK.out]; simp)
            have hz := HCD.out rfl
            rw [hz] at z3
            clear HTK HCD hz
            go_wp2_with fail
            refine wp_region_over (by kernel_rfl) (by kernel_rfl) ?_
            repeat (go_big_quiet_step (fail))
            refine wpQuiet_nil ?_
            intro W8 hW8
            have hb8 := below_of_over hW8
            have HW8 := Lib.hid (below_here HW7.out hb8)
            clear hW8 hb8
            go_wp2_with fail
            go_roundw
            case rel => exact ⟨m + 1, v ||| qow, by go_num, rfl, by omega, hqv, HN, HW8⟩
            case measure => simp [intOf]; omega
end Go.Proofs.YtlmacaenbililaaGreatDoor
