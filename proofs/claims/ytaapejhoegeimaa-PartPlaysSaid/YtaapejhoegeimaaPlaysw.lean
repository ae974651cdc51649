/- PartPlays: the walk. No conditions. -/
import Derived.Test.YtaapejhoegeimaaPlays
import Derived.Deep.DeepCutAuto
import Derived.Deep.CutBlock
import Derived.Deep.CutRange
namespace Go.Proofs.Ytaapejhoegeimaa
open Go.RowKit Go.Shelf Go.Proofs.YtaapejhoegeimaaW.PrintWords Go.Proofs.Ytaapejhoegeimaa.PPartPlays
open Plaw (lane FineP born laneP)
set_option linter.unusedSimpArgs false
set_option linter.unusedVariables false
attribute [local go_sem] cell_over frozen_over Oper.semAt_some

theorem act_open {W : World} {ok : Nat → Prop} {x : Int × S39 × Int} {c : List Value} (h : Kd.FK kAct W ok x c) : ∃ cs, c = .int .u8 x.1 :: (cs ++ [.int .i64 x.2.2]) ∧ cs.length = 17 ∧ Kd.FK k39 W ok x.2.1 cs := by
  have key : ∀ W', kAct.K W' x c → ∃ cs, c = .int .u8 x.1 :: (cs ++ [.int .i64 x.2.2]) ∧ cs.length = 17 ∧ k39.K W' x.2.1 cs := by
    rintro W' ⟨c0, c1, rfl, h0, c2, c3, rfl, h2, h3⟩
    obtain rfl : c0 = [Value.int .u8 x.1] := h0
    obtain rfl : c3 = [Value.int .i64 x.2.2] := h3
    have hl2 := k39.K_len h2
    rw [k39_sz] at hl2
    exact ⟨c2, rfl, hl2, h2⟩
  obtain ⟨cs, rfl, hl, _⟩ := key W (Kd.FK_now h)
  refine ⟨cs, rfl, hl, fun W' hW => ?_⟩
  obtain ⟨cs', he, hl', hK⟩ := key W' (h W' hW)
  obtain ⟨_, he⟩ := List.cons.inj he
  obtain ⟨rfl, _⟩ := List.append_inj he (hl.trans hl'.symm)
  exact hK
theorem act_at {w : World} {A : Option Addr} {l : List (Int × S39 × Int)} (h : Kd.C kAct w A l.length l) (i : Nat) (hi : i < l.length) : ∃ b off cs, A = some ⟨b, off, none⟩ ∧ cs.length = 17 ∧ Kd.FK k39 w (fun k => k < w.heap.size) l[i].2.1 cs ∧ w.rangeAt b (off + i * 19) (.int .u8 l[i].1 :: (cs ++ [.int .i64 l[i].2.2])) ∧ b < w.heap.size := by
  obtain ⟨b, off, rfl⟩ := row_form h (by omega) (by rw [kAct_sz]; omega)
  obtain ⟨ad, c, hA, hl, hF, hc, _⟩ := Kd.F_get (Kd.C_F kAct_heap h) (l[i]) (i : Int) (by omega) (by omega)
  obtain rfl := Option.some.inj hA
  rw [kAct_sz] at hl hc
  simp only [Int.toNat_natCast, List.getD_eq_getElem?_getD, List.getElem?_eq_getElem hi, Option.getD_some] at hF hc
  obtain ⟨cs, rfl, hl2, h2⟩ := act_open hF
  have hr : w.rangeAt b (off + i * 19) (.int .u8 l[i].1 :: (cs ++ [.int .i64 l[i].2.2])) := fun j v hj => by have := hc j v hj; rw [Addr.add_mid] at this; rw [Nat.add_assoc]; exact this
  exact ⟨b, off, cs, rfl, hl2, h2, hr, World.block_lt_of_cell? w _ (hr 0 _ rfl)⟩
theorem sizeAct : (Try.prog.info? 41).map (·.size) = some 19 := by kernel_rfl
theorem build_part (S I : Int) (W : World) : (Instr.build 31 #[(0, .agg #[.int .u16 S, .int .u16 I])]).run Try.prog W = .ok (.agg #[.int .u16 S, .int .u16 I, .slice none 0 0]) W := by kernel_rfl
set_option maxRecDepth 100000 in
set_option maxHeartbeats 8000000 in
theorem plays_ok (S I : Int) (A : Option Addr) (cap : Nat) (l : List (Int × S39 × Int)) (hk : ∀ x ∈ l, 0 ≤ x.1 ∧ x.1 ≤ 255) (w : World) (hC : Kd.C kAct w A l.length l) :
    Calls Try.prog 3 #[.agg #[.int .u16 S, .int .u16 I], .slice A l.length cap] w fun e w' => e = .returned (.bool true) ∧ Below w.heap.size w w' := by
  have HK := Lib.hid hk
  have HC := Lib.hid hC
  clear hk hC
  go_enter Try.func3, Try.ntmps3
  by_cases hlen : 60 < l.length
  · go_wp2_with (go_at_call 10; refine (alive_ok _).mono ?_; rintro e w1 ⟨rfl, hb1⟩)
    go_ret
    exact ⟨rfl, below_here (below_new (Below.refl _ _) _) hb1⟩
  · go_upto_region 5 with (first
      | (go_at_call 11; refine (new_ok S I _).mono ?_; rintro e w1 ⟨p, rfl, hp, hP, hb⟩; have hl0 := cell_of_row w1 w.heap.size 0 _ _ _ (block_below hb (heap_alloc_new w (.cells #[.int .u16 S, .int .u16 I] 24))); have hl1 := cell_of_row w1 w.heap.size 1 _ _ _ (block_below hb (heap_alloc_new w (.cells #[.int .u16 S, .int .u16 I] 24))))
      | (refine wpList_build rfl 31 _ rfl #[(0, .agg #[.int .u16 S, .int .u16 I])] ?b1 (build_part S I _) ?_; (case b1 => simp [Act.eval, Act.put])))
    obtain ⟨w2, hw2⟩ : ∃ w2, w2 = w1.alloc (.cells #[.int .u16 S, .int .u16 I, .slice none 0 0] 31) := ⟨_, rfl⟩
    obtain ⟨r, hr⟩ : ∃ r, r = w1.heap.size := ⟨_, rfl⟩
    have hPl : PlW w w2 S I p r none 0 (fun _ => none) (fun _ => none) := by
      have hpl := hP.lt
      have hsz := hb.size
      have hp' : w.heap.size ≤ p := by simp at hp; omega
      subst hw2
      subst hr
      have hbn := below_new (Below.refl w1.heap.size w1) (.cells #[.int .u16 S, .int .u16 I, .slice none 0 0] 31)
      exact ⟨below_new (below_here (below_new (Below.refl _ _) _) hb) _, hP.below hbn, heap_alloc_new _ _, Kd.V_nil k39 _ _ _ _, ⟨fun _ _ _ => rfl, fun _ _ _ h => by cases h⟩, hp', by simp at hsz; omega, by omega⟩
    have hm0 : w2.cell? ⟨w.heap.size, 0, none⟩ = some (.int .u16 S) := by rw [hw2, (Below.cell (B := w1.heap.size) (below_new (Below.refl _ _) _) (p := ⟨w.heap.size, 0, none⟩) (World.block_lt_of_cell? w1 _ hl0)), hl0]; rfl
    have hm1 : w2.cell? ⟨w.heap.size, 1, none⟩ = some (.int .u16 I) := by rw [hw2, (Below.cell (B := w1.heap.size) (below_new (Below.refl _ _) _) (p := ⟨w.heap.size, 1, none⟩) (World.block_lt_of_cell? w1 _ hl1)), hl1]; rfl
    have hz2 : w.heap.size < w2.heap.size := World.block_lt_of_cell? w2 _ hm0
    have HP := Lib.hid hPl
    rw [← hw2, ← hr]
    clear hw2 hr hPl hl0 hl1 hP hb hp
    have e1 := neq_label_same S I
    refine wp_region_over (by kernel_rfl) (by kernel_rfl) ?_
    repeat (go_big_quiet_step ((go_at_call 12; exact Calls.over_of (birth_ok p S I _ _ (HP.out.is.below (over_below _ _))))))
    refine wpQuiet_nil ?_
    intro W3 hW3
    have HP3 := Lib.hid (HP.out.below (below_of_over hW3))
    clear hW3 HP hm0 hm1 hz2 e1
    go_wp2_with fail
    go_loopw [7] (fun i wr => ∃ (k : Nat) (A' : Option Addr) (c' : Nat) (st : Nat → Option (List Value)) (sto : Sto), i = .int .i64 k ∧ k ≤ l.length ∧ Hid (PlW w wr S I p r A' c' st sto)) (fun i _ => l.length - (intOf i).toNat)
    case atStart => exact ⟨0, none, 0, _, _, rfl, by omega, HP3⟩
    case round =>
      obtain ⟨k, A', c', st, sto, rfl, hk, HP⟩ := hrel
      clear HP3
      by_cases hkl : k = l.length
      · subst hkl
        go_wp2_with (go_at_call 10; refine (alive_ok _).mono ?_; rintro e w4 ⟨rfl, hb4⟩)
        go_ret
        exact ⟨rfl, below_here HP.out.b hb4⟩
      · have hkn : k < l.length := by omega
        have hki : (k : Int) < (l.length : Int) := by omega
        clear hkl
        obtain ⟨b, off, cs, rfl, hcl, hK, hR, hbl⟩ := act_at HC.out k hkn
        obtain ⟨kd, o, ln, hx⟩ : ∃ kd o ln, l[k] = (kd, o, ln) := ⟨_, _, _, rfl⟩
        have hkd := HK.out _ (List.getElem_mem hkn)
        rw [hx] at hK hR hkd
        obtain ⟨far, hfar, hFar⟩ := far_ok o
        have HFar := Lib.hid hFar
        have HKd := Lib.hid hkd
        have HKo := Lib.hid hK
        have HRo := Lib.hid (range_below hR HP.out.b hbl)
        have hbr : b < wr.heap.size := Nat.lt_of_lt_of_le hbl HP.out.b.size
        have HCl := Lib.hid hcl
        have hac : (.int .u8 kd :: (cs ++ [.int .i64 ln]) : List Value).length = 19 := by simp [hcl]
        have HAc := Lib.hid hac
        have hac1 : ∀ v ∈ (.int .u8 kd :: (cs ++ [.int .i64 ln]) : List Value), v.oneCell' = true := by
          intro v hv
          rcases List.mem_cons.1 hv with rfl | hv
          · rfl
          · rcases List.mem_append.1 hv with hv | hv
            · exact FK_one hK v hv
            · rw [List.mem_singleton.1 hv]; rfl
        obtain ⟨ac, hace⟩ : ∃ ac : List Value, ac = .int .u8 kd :: (cs ++ [.int .i64 ln]) := ⟨_, rfl⟩
        rw [← hace] at hac hac1 HRo HAc
        have hat : ∀ j, j < 17 → ac[1 + j]? = cs[j]? := fun j hj => by rw [hace, Nat.add_comm, List.getElem?_cons_succ, List.getElem?_append_left (by omega)]
        have ha0 : ac[0]? = some (.int .u8 kd) := by rw [hace]; rfl
        have ha18 : ac[18]? = some (.int .i64 ln) := by rw [hace, List.getElem?_cons_succ, List.getElem?_append_right (by omega)]; simp [hcl]
        have hsz : ac.toArray.size = 19 := by rw [List.size_toArray]; exact hac
        have HSz := Lib.hid hsz
        clear hsz
        have HA1 := Lib.hid hac1
        have HAt := Lib.hid hat
        have HA0 := Lib.hid ha0
        have HA18 := Lib.hid ha18
        clear hFar hkd hK hR hx hcl hac hac1 hace hat ha0 ha18
        cases far with
        | true =>
          go_wp2_with (first
            | (refine wpList_load_mid rfl 41 (.tmp 44) rfl b (off + k * 19) rfl ac _ HRo.out Try.underlying41 rfl (by rw [HAc.out]; exact sizeAct) ?_)
            | (refine wpList_store_new rfl 41 (.tmp 8) (.tmp 45) rfl _ ac.toArray ?x1 ?x2 ?x3 ?x4 (all_oneCell_toArray HA1.out) ?_; (case x1 => simp [Act.eval, Act.put]); (case x2 => simp [Act.eval, Act.put]); (case x3 => rw [HSz.out]; exact sizeAct); (case x4 => rw [HSz.out]; rfl))
            | (refine wpList_load_mid rfl 39 (.tmp 46) rfl wr.heap.size 1 rfl cs _ (range_of_block (heap_alloc_new wr _) 1 _ (fun j hj => HAt.out j (by have := HCl.out; omega))) Try.underlying39 rfl (by rw [HCl.out]; exact sizeObj) ?_)
            | (go_at_call 13; refine (HFar.out cs _ (Kd.FK_now (Kd.FK_below HKo.out (below_here HP.out.b (below_new (Below.refl _ _) _))))).mono ?_; rintro e w4 ⟨rfl, hb4⟩; have HP4 := Lib.hid (HP.out.below (below_here (below_new (Below.refl _ _) _) hb4)); clear hb4)
            | (go_at_call 10; refine (alive_ok _).mono ?_; rintro e w5 ⟨rfl, hb5⟩))
          go_ret
          exact ⟨rfl, below_here HP4.out.b hb5⟩
        | false =>
          have HQ0 := Lib.hid (hfar rfl)
          clear hfar
          go_upto_region 14 with (first
            | (refine wpList_load_mid rfl 41 (.tmp 44) rfl b (off + k * 19) rfl ac _ HRo.out Try.underlying41 rfl (by rw [HAc.out]; exact sizeAct) ?_)
            | (refine wpList_store_new rfl 41 (.tmp 8) (.tmp 45) rfl _ ac.toArray ?x1 ?x2 ?x3 ?x4 (all_oneCell_toArray HA1.out) ?_; (case x1 => simp [Act.eval, Act.put]); (case x2 => simp [Act.eval, Act.put]); (case x3 => rw [HSz.out]; exact sizeAct); (case x4 => rw [HSz.out]; rfl))
            | (refine wpList_load_mid rfl 39 (.tmp 46) rfl wr.heap.size 1 rfl cs _ (range_of_block (heap_alloc_new wr _) 1 _ (fun j hj => HAt.out j (by have := HCl.out; omega))) Try.underlying39 rfl (by rw [HCl.out]; exact sizeObj) ?_)
            | (go_at_call 13; refine (HFar.out cs _ (Kd.FK_now (Kd.FK_below HKo.out (below_here HP.out.b (below_new (Below.refl _ _) _))))).mono ?_; rintro e w4 ⟨rfl, hb4⟩; have HP4 := Lib.hid (HP.out.below (below_here (below_new (Below.refl _ _) _) hb4)); have HK4 := Lib.hid (Kd.FK_below HKo.out (below_here HP.out.b (below_here (below_new (Below.refl _ _) _) hb4))); have HB4 := Lib.hid (block_below hb4 (heap_alloc_new wr (.cells ac.toArray 41))); clear hb4))
          have hlt := HP.out.lt
          obtain ⟨ab, habe⟩ : ∃ ab, ab = wr.heap.size := ⟨_, rfl⟩
          have hnp : okp p r ab := ⟨by omega, by omega⟩
          have HNP := Lib.hid hnp
          rw [← habe] at HB4
          rw [← habe]
          have HQ : Hid (Short 100 o) := Lib.hid (by have := HQ0.out; exact ⟨by have := this.1; omega, by have := this.2.1; omega, by have := this.2.2; omega⟩)
          obtain ⟨hk0, hk1⟩ := HKd.out
          clear habe hlt hnp HRo HKo HFar hbl HKd HQ0
          have hc0 := cell_of_row w4 ab 0 _ _ _ HB4.out
          rw [List.getElem?_toArray, HA0.out] at hc0
          go_upto_block 2 with fail
          clear hc0
          go_cut [9, 10, 11, 12, 13, 14, 15] from 36 to 141 (fun c9 c10 c11 c12 c13 c14 c15 wx => c9 = .bool true ∧ Hid (∃ A' c' st' sto', PlW w wx S I p r A' c' st' sto' ∧ wx.heap[ab]? = some (.cells ac.toArray 41 (0, 0))))
          case first =>
            have hc18 := cell_of_row w4 ab 18 _ _ _ HB4.out
            rw [List.getElem?_toArray, HA18.out] at hc18
            have hpr := And.intro HP4.out.p0 HP4.out.r0
            have HF4 : Hid (Kd.FK k39 w4 (okp p r) o cs) := Lib.hid (Kd.FK_mono HK4.out (fun j hj => ⟨by omega, by omega⟩))
            clear hpr
            by_cases hz0 : kd % 3 = 0
            · 
              --ARM 0
              obtain ⟨e, st', sto', hT2, hlaw, hdoes⟩ := put_both HP4.out.tie p o cs HF4.out HQ.out
              have HT2 := Lib.hid hT2
              have HDoes := Lib.hid hdoes
              have HLaw := Lib.hid hlaw
              clear hT2 hdoes hlaw
              go_upto_region 19 with (first
                | (refine wpList_load_mid rfl 31 (.tmp 6) rfl r 0 rfl [.int .u16 S, .int .u16 I, .slice A' (lst sto).length c'] _ (range_of_block (C := [.int .u16 S, .int .u16 I, .slice A' (lst sto).length c']) HP4.out.rb 0 _ (fun j hj => by rw [Nat.zero_add])) Try.underlying31 rfl sizePart ?_)
                | (refine wpList_load_mid rfl 39 (.tmp 71) rfl ab 1 rfl cs _ (range_of_block HB4.out 1 _ (fun j hj => HAt.out j (by have := HCl.out; omega))) Try.underlying39 rfl (by rw [HCl.out]; exact sizeObj) ?_)
                | (go_at_call 14; refine (rput_ok false S I A' c' 0 (lst sto) (lst sto') o cs e (okp p r) _ HP4.out.v HF4.out HP4.out.new_ok HLaw.out).mono ?_; rintro x w5 ⟨A1, c1, rfl, hv5, hb5⟩; have HV5 := Lib.hid hv5; have HB5 := Lib.hid hb5; clear hv5 hb5))
              obtain ⟨w6, hw6⟩ : ∃ w6, w6 = w5.alloc (.cells #[.int .u16 S, .int .u16 I, .slice A1 (lst sto').length c1] 31) := ⟨_, rfl⟩
              obtain ⟨xb, hxb⟩ : ∃ xb, xb = w5.heap.size := ⟨_, rfl⟩
              have HS6 : Hid (Stage w S I p r ab xb ac A1 c1 st st' sto' 0 w6) := Lib.hid (by
                have hbn := below_new (Below.refl w5.heap.size w5) (.cells #[.int .u16 S, .int .u16 I, .slice A1 (lst sto').length c1] 31)
                have hP5 := HP4.out.below HB5.out
                have hP6 := hP5.below hbn
                have hl5 := hP5.lt
                have hb46 := below_here HB5.out hbn
                subst hw6
                subst hxb
                exact ⟨⟨hP6.b, block_below hb46 HB4.out, heap_alloc_new _ _, Kd.V_below HV5.out hbn, HT2.out.step (fun j _ hj => hb46.block j hj), hP6.p0, hP6.r0, hP6.ne, HNP.out, ⟨by omega, by omega⟩⟩, hP6.is, _, hP6.rb, rfl, fun h => absurd h (by omega)⟩)
              rw [← hw6, ← hxb]
              clear hw6 hxb HV5 HB5 HT2 HLaw HF4
              refine wp_region_chain [4, 7] (Stage w S I p r ab xb ac A1 c1 st st' sto') (by kernel_rfl) (by kernel_rfl) (by decide) (by kernel_rfl) (by kernel_rfl) (HS6.out.still (Below.refl _ _).drew) ?_
              have nb : Nonempty { W : World // ∃ j, Stage w S I p r ab xb ac A1 c1 st st' sto' j W } := ⟨⟨w6, 0, HS6.out⟩⟩
              have HX : Hid (∀ W : World, (∃ s : { W : World // ∃ j, Stage w S I p r ab xb ac A1 c1 st st' sto' j W }, W = s.1) → W.rangeAt xb 0 [.int .u16 S, .int .u16 I, .slice A1 (lst sto').length c1]) := Lib.hid (by
                rintro W ⟨⟨W, j, hg, _⟩, rfl⟩
                exact range_of_block (C := [.int .u16 S, .int .u16 I, .slice A1 (lst sto').length c1]) hg.hxb 0 _ (fun j hj => by rw [Nat.zero_add]))
              have HM : Hid (∀ W : World, (∃ s : { W : World // ∃ j, Stage w S I p r ab xb ac A1 c1 st st' sto' j W }, W = s.1) → W.rangeAt ab 1 cs) := Lib.hid (by
                rintro W ⟨⟨W, j, hg, _⟩, rfl⟩
                exact range_of_block hg.hab 1 _ (fun j hj => HAt.out j (by have := HCl.out; omega)))
              clear HS6
              refine wpC_seg 4 _ _ _ (by kernel_rfl) ?_
              simp only [List.take_succ_cons, List.take_zero, List.drop_succ_cons, List.drop_zero, List.length_cons, List.length_nil, Nat.zero_add, Nat.reduceAdd]
              repeat (first
                | (go_big_quiet_want; refine quiet_load_mid 31 (.tmp 10) rfl xb 0 rfl [.int .u16 S, .int .u16 I, .slice A1 (lst sto').length c1] _ HX.out Try.underlying31 rfl sizePart ?_; go_big_quiet_on; simp only [Act.put, List.setIfInBounds_toArray, List.set_cons_succ, List.set_cons_zero])
                | (go_big_quiet_want; refine quiet_load_mid 39 (.tmp 78) rfl ab 1 rfl cs _ HM.out Try.underlying39 rfl (by rw [HCl.out]; exact sizeObj) ?_; go_big_quiet_on; simp only [Act.put, List.setIfInBounds_toArray, List.set_cons_succ, List.set_cons_zero])
                | go_big_quiet_step (fail)
                | (go_big_quiet_want; go_big_quiet_op; refine ⟨_, fun _ _ _ => rfl, ?_⟩; go_big_quiet_on))
              refine wpQuiet_nil ?_
              refine wpC_turn rfl rfl (.int .i64 e) (fun W hW => ?ta0) (fun K hK => ?tc0)
              case ta0 =>
                unfold goesAt
                go_simp
                exact (HDoes.out W hW.2.1).mono fun x W' ⟨he, hg, hP⟩ => ⟨he, hW.turn hg hP⟩
              go_simp
              refine hK _ ?_
              clear hK K
              refine wpC_seg 2 _ _ _ (by kernel_rfl) ?_
              simp only [List.take_succ_cons, List.take_zero, List.drop_succ_cons, List.drop_zero, List.length_cons, List.length_nil, Nat.zero_add, Nat.reduceAdd]
              repeat (first | go_big_quiet_step (fail) | (go_big_quiet_want; go_big_quiet_op; refine ⟨_, fun _ _ _ => rfl, ?_⟩; go_big_quiet_on))
              refine wpQuiet_nil ?_
              refine wpC_turn rfl rfl undef (fun W hW => ?tb0) (fun K hK => ?td0)
              case tb0 =>
                exact store_goes (by rfl) rfl rfl hW
              go_simp
              refine hK _ ?_
              clear hK K
              refine wpC_seg 1 _ _ _ (by kernel_rfl) ?_
              simp only [List.take_succ_cons, List.take_zero, List.drop_succ_cons, List.drop_zero, List.length_cons, List.length_nil, Nat.zero_add, Nat.reduceAdd]
              repeat (first | go_big_quiet_step (fail) | (go_big_quiet_want; go_big_quiet_op; refine ⟨_, fun _ _ _ => rfl, ?_⟩; go_big_quiet_on))
              refine wpQuiet_nil ?_
              refine wpC_nil ?_
              intro W7 hW7
              have HD := Lib.hid hW7.done
              clear hW7 HX nb HM
              go_wp2_with fail
              go_meet
              exact ⟨rfl, Lib.hid ⟨A1, c1, st', sto', HD.out.1, HD.out.2⟩⟩
              --END
            · by_cases hz1 : kd % 3 = 1
              · 
                --ARM 1
                obtain ⟨e, st', sto', hT2, hlaw, hdoes⟩ := set_both HP4.out.tie p o cs HF4.out HQ.out
                have HT2 := Lib.hid hT2
                have HDoes := Lib.hid hdoes
                have HLaw := Lib.hid hlaw
                clear hT2 hdoes hlaw
                go_upto_region 22 with (first
                  | (refine wpList_load_mid rfl 31 (.tmp 6) rfl r 0 rfl [.int .u16 S, .int .u16 I, .slice A' (lst sto).length c'] _ (range_of_block (C := [.int .u16 S, .int .u16 I, .slice A' (lst sto).length c']) HP4.out.rb 0 _ (fun j hj => by rw [Nat.zero_add])) Try.underlying31 rfl sizePart ?_)
                  | (refine wpList_load_mid rfl 39 (.tmp 87) rfl ab 1 rfl cs _ (range_of_block HB4.out 1 _ (fun j hj => HAt.out j (by have := HCl.out; omega))) Try.underlying39 rfl (by rw [HCl.out]; exact sizeObj) ?_)
                  | (go_at_call 14; refine (rput_ok true S I A' c' 0 (lst sto) (lst sto') o cs e (okp p r) _ HP4.out.v HF4.out HP4.out.new_ok HLaw.out).mono ?_; rintro x w5 ⟨A1, c1, rfl, hv5, hb5⟩; have HV5 := Lib.hid hv5; have HB5 := Lib.hid hb5; clear hv5 hb5))
                obtain ⟨w6, hw6⟩ : ∃ w6, w6 = w5.alloc (.cells #[.int .u16 S, .int .u16 I, .slice A1 (lst sto').length c1] 31) := ⟨_, rfl⟩
                obtain ⟨xb, hxb⟩ : ∃ xb, xb = w5.heap.size := ⟨_, rfl⟩
                have HS6 : Hid (Stage w S I p r ab xb ac A1 c1 st st' sto' 0 w6) := Lib.hid (by
                  have hbn := below_new (Below.refl w5.heap.size w5) (.cells #[.int .u16 S, .int .u16 I, .slice A1 (lst sto').length c1] 31)
                  have hP5 := HP4.out.below HB5.out
                  have hP6 := hP5.below hbn
                  have hl5 := hP5.lt
                  have hb46 := below_here HB5.out hbn
                  subst hw6
                  subst hxb
                  exact ⟨⟨hP6.b, block_below hb46 HB4.out, heap_alloc_new _ _, Kd.V_below HV5.out hbn, HT2.out.step (fun j _ hj => hb46.block j hj), hP6.p0, hP6.r0, hP6.ne, HNP.out, ⟨by omega, by omega⟩⟩, hP6.is, _, hP6.rb, rfl, fun h => absurd h (by omega)⟩)
                rw [← hw6, ← hxb]
                clear hw6 hxb HV5 HB5 HT2 HLaw HF4
                refine wp_region_chain [4, 7] (Stage w S I p r ab xb ac A1 c1 st st' sto') (by kernel_rfl) (by kernel_rfl) (by decide) (by kernel_rfl) (by kernel_rfl) (HS6.out.still (Below.refl _ _).drew) ?_
                have nb : Nonempty { W : World // ∃ j, Stage w S I p r ab xb ac A1 c1 st st' sto' j W } := ⟨⟨w6, 0, HS6.out⟩⟩
                have HX : Hid (∀ W : World, (∃ s : { W : World // ∃ j, Stage w S I p r ab xb ac A1 c1 st st' sto' j W }, W = s.1) → W.rangeAt xb 0 [.int .u16 S, .int .u16 I, .slice A1 (lst sto').length c1]) := Lib.hid (by
                  rintro W ⟨⟨W, j, hg, _⟩, rfl⟩
                  exact range_of_block (C := [.int .u16 S, .int .u16 I, .slice A1 (lst sto').length c1]) hg.hxb 0 _ (fun j hj => by rw [Nat.zero_add]))
                have HM : Hid (∀ W : World, (∃ s : { W : World // ∃ j, Stage w S I p r ab xb ac A1 c1 st st' sto' j W }, W = s.1) → W.rangeAt ab 1 cs) := Lib.hid (by
                  rintro W ⟨⟨W, j, hg, _⟩, rfl⟩
                  exact range_of_block hg.hab 1 _ (fun j hj => HAt.out j (by have := HCl.out; omega)))
                clear HS6
                refine wpC_seg 4 _ _ _ (by kernel_rfl) ?_
                simp only [List.take_succ_cons, List.take_zero, List.drop_succ_cons, List.drop_zero, List.length_cons, List.length_nil, Nat.zero_add, Nat.reduceAdd]
                repeat (first
                  | (go_big_quiet_want; refine quiet_load_mid 31 (.tmp 12) rfl xb 0 rfl [.int .u16 S, .int .u16 I, .slice A1 (lst sto').length c1] _ HX.out Try.underlying31 rfl sizePart ?_; go_big_quiet_on; simp only [Act.put, List.setIfInBounds_toArray, List.set_cons_succ, List.set_cons_zero])
                  | (go_big_quiet_want; refine quiet_load_mid 39 (.tmp 94) rfl ab 1 rfl cs _ HM.out Try.underlying39 rfl (by rw [HCl.out]; exact sizeObj) ?_; go_big_quiet_on; simp only [Act.put, List.setIfInBounds_toArray, List.set_cons_succ, List.set_cons_zero])
                  | go_big_quiet_step (fail)
                  | (go_big_quiet_want; go_big_quiet_op; refine ⟨_, fun _ _ _ => rfl, ?_⟩; go_big_quiet_on))
                refine wpQuiet_nil ?_
                refine wpC_turn rfl rfl (.int .i64 e) (fun W hW => ?ta1) (fun K hK => ?tc1)
                case ta1 =>
                  unfold goesAt
                  go_simp
                  exact (HDoes.out W hW.2.1).mono fun x W' ⟨he, hg, hP⟩ => ⟨he, hW.turn hg hP⟩
                go_simp
                refine hK _ ?_
                clear hK K
                refine wpC_seg 2 _ _ _ (by kernel_rfl) ?_
                simp only [List.take_succ_cons, List.take_zero, List.drop_succ_cons, List.drop_zero, List.length_cons, List.length_nil, Nat.zero_add, Nat.reduceAdd]
                repeat (first | go_big_quiet_step (fail) | (go_big_quiet_want; go_big_quiet_op; refine ⟨_, fun _ _ _ => rfl, ?_⟩; go_big_quiet_on))
                refine wpQuiet_nil ?_
                refine wpC_turn rfl rfl undef (fun W hW => ?tb1) (fun K hK => ?td1)
                case tb1 =>
                  exact store_goes (by rfl) rfl rfl hW
                go_simp
                refine hK _ ?_
                clear hK K
                refine wpC_seg 1 _ _ _ (by kernel_rfl) ?_
                simp only [List.take_succ_cons, List.take_zero, List.drop_succ_cons, List.drop_zero, List.length_cons, List.length_nil, Nat.zero_add, Nat.reduceAdd]
                repeat (first | go_big_quiet_step (fail) | (go_big_quiet_want; go_big_quiet_op; refine ⟨_, fun _ _ _ => rfl, ?_⟩; go_big_quiet_on))
                refine wpQuiet_nil ?_
                refine wpC_nil ?_
                intro W7 hW7
                have HD := Lib.hid hW7.done
                clear hW7 HX nb HM
                go_wp2_with fail
                go_meet
                exact ⟨rfl, Lib.hid ⟨A1, c1, st', sto', HD.out.1, HD.out.2⟩⟩
                --END
              · 
                --ARM 2
                obtain ⟨e, st', sto', hT2, hlaw, hdoes⟩ := drop_both HP4.out.tie p ln
                have HT2 := Lib.hid hT2
                have HDoes := Lib.hid hdoes
                have HLaw := Lib.hid hlaw
                clear hT2 hdoes hlaw
                go_upto_region 16 with (first
                  | (refine wpList_load_mid rfl 31 (.tmp 6) rfl r 0 rfl [.int .u16 S, .int .u16 I, .slice A' (lst sto).length c'] _ (range_of_block (C := [.int .u16 S, .int .u16 I, .slice A' (lst sto).length c']) HP4.out.rb 0 _ (fun j hj => by rw [Nat.zero_add])) Try.underlying31 rfl sizePart ?_)
                  | (go_at_call 17; refine (rdrop_ok S I A' c' 0 (lst sto) (lst sto') ln e (okp p r) _ HP4.out.v HP4.out.new_ok HLaw.out).mono ?_; rintro x w5 ⟨A1, c1, rfl, hv5, hb5⟩; have HV5 := Lib.hid hv5; have HB5 := Lib.hid hb5; clear hv5 hb5))
                obtain ⟨w6, hw6⟩ : ∃ w6, w6 = w5.alloc (.cells #[.int .u16 S, .int .u16 I, .slice A1 (lst sto').length c1] 31) := ⟨_, rfl⟩
                obtain ⟨xb, hxb⟩ : ∃ xb, xb = w5.heap.size := ⟨_, rfl⟩
                have HS6 : Hid (Stage w S I p r ab xb ac A1 c1 st st' sto' 0 w6) := Lib.hid (by
                  have hbn := below_new (Below.refl w5.heap.size w5) (.cells #[.int .u16 S, .int .u16 I, .slice A1 (lst sto').length c1] 31)
                  have hP5 := HP4.out.below HB5.out
                  have hP6 := hP5.below hbn
                  have hl5 := hP5.lt
                  have hb46 := below_here HB5.out hbn
                  subst hw6
                  subst hxb
                  exact ⟨⟨hP6.b, block_below hb46 HB4.out, heap_alloc_new _ _, Kd.V_below HV5.out hbn, HT2.out.step (fun j _ hj => hb46.block j hj), hP6.p0, hP6.r0, hP6.ne, HNP.out, ⟨by omega, by omega⟩⟩, hP6.is, _, hP6.rb, rfl, fun h => absurd h (by omega)⟩)
                rw [← hw6, ← hxb]
                clear hw6 hxb HV5 HB5 HT2 HLaw HF4
                refine wp_region_chain [4, 7] (Stage w S I p r ab xb ac A1 c1 st st' sto') (by kernel_rfl) (by kernel_rfl) (by decide) (by kernel_rfl) (by kernel_rfl) (HS6.out.still (Below.refl _ _).drew) ?_
                have nb : Nonempty { W : World // ∃ j, Stage w S I p r ab xb ac A1 c1 st st' sto' j W } := ⟨⟨w6, 0, HS6.out⟩⟩
                have HX : Hid (∀ W : World, (∃ s : { W : World // ∃ j, Stage w S I p r ab xb ac A1 c1 st st' sto' j W }, W = s.1) → W.rangeAt xb 0 [.int .u16 S, .int .u16 I, .slice A1 (lst sto').length c1]) := Lib.hid (by
                  rintro W ⟨⟨W, j, hg, _⟩, rfl⟩
                  exact range_of_block (C := [.int .u16 S, .int .u16 I, .slice A1 (lst sto').length c1]) hg.hxb 0 _ (fun j hj => by rw [Nat.zero_add]))
                have hml : Hid (∀ W : World, (∃ s : { W : World // ∃ j, Stage w S I p r ab xb ac A1 c1 st st' sto' j W }, W = s.1) → W.cell? ⟨ab, 18, none⟩ = some (.int .i64 ln)) := Lib.hid (by
                  rintro W ⟨⟨W, j, hg, _⟩, rfl⟩
                  show W.cell? _ = _
                  rw [cell_of_row W ab 18 _ _ _ hg.hab, List.getElem?_toArray, HA18.out])
                clear HS6
                refine wpC_seg 4 _ _ _ (by kernel_rfl) ?_
                simp only [List.take_succ_cons, List.take_zero, List.drop_succ_cons, List.drop_zero, List.length_cons, List.length_nil, Nat.zero_add, Nat.reduceAdd]
                repeat (first
                  | (go_big_quiet_want; refine quiet_load_mid 31 (.tmp 14) rfl xb 0 rfl [.int .u16 S, .int .u16 I, .slice A1 (lst sto').length c1] _ HX.out Try.underlying31 rfl sizePart ?_; go_big_quiet_on; simp only [Act.put, List.setIfInBounds_toArray, List.set_cons_succ, List.set_cons_zero])
                  | (go_big_quiet_want; refine quiet_load_one 3 (.tmp 62) rfl ab 18 rfl (.int .i64 ln) _ hml.out Try.underlying3 rfl ?_; go_big_quiet_on; simp only [Act.put, List.setIfInBounds_toArray, List.set_cons_succ, List.set_cons_zero])
                  | go_big_quiet_step (fail)
                  | (go_big_quiet_want; go_big_quiet_op; refine ⟨_, fun _ _ _ => rfl, ?_⟩; go_big_quiet_on))
                refine wpQuiet_nil ?_
                refine wpC_turn rfl rfl (.int .i64 e) (fun W hW => ?ta2) (fun K hK => ?tc2)
                case ta2 =>
                  unfold goesAt
                  go_simp
                  exact (HDoes.out W hW.2.1).mono fun x W' ⟨he, hg, hP⟩ => ⟨he, hW.turn hg hP⟩
                go_simp
                refine hK _ ?_
                clear hK K
                refine wpC_seg 2 _ _ _ (by kernel_rfl) ?_
                simp only [List.take_succ_cons, List.take_zero, List.drop_succ_cons, List.drop_zero, List.length_cons, List.length_nil, Nat.zero_add, Nat.reduceAdd]
                repeat (first | go_big_quiet_step (fail) | (go_big_quiet_want; go_big_quiet_op; refine ⟨_, fun _ _ _ => rfl, ?_⟩; go_big_quiet_on))
                refine wpQuiet_nil ?_
                refine wpC_turn rfl rfl undef (fun W hW => ?tb2) (fun K hK => ?td2)
                case tb2 =>
                  exact store_goes (by rfl) rfl rfl hW
                go_simp
                refine hK _ ?_
                clear hK K
                refine wpC_seg 1 _ _ _ (by kernel_rfl) ?_
                simp only [List.take_succ_cons, List.take_zero, List.drop_succ_cons, List.drop_zero, List.length_cons, List.length_nil, Nat.zero_add, Nat.reduceAdd]
                repeat (first | go_big_quiet_step (fail) | (go_big_quiet_want; go_big_quiet_op; refine ⟨_, fun _ _ _ => rfl, ?_⟩; go_big_quiet_on))
                refine wpQuiet_nil ?_
                refine wpC_nil ?_
                intro W7 hW7
                have HD := Lib.hid hW7.done
                clear hW7 HX nb hml
                go_wp2_with fail
                go_meet
                exact ⟨rfl, Lib.hid ⟨A1, c1, st', sto', HD.out.1, HD.out.2⟩⟩
                --END
          case rest =>
            obtain ⟨rfl, hst⟩ := hcut
            obtain ⟨A2, c2, st2, sto2, hP5, hB5⟩ := hst.out
            have HP5 := Lib.hid hP5
            have HB5 := Lib.hid hB5
            obtain ⟨is, o1, ho1, ho1c, hget, hrget⟩ := get_both hP5.tie p ln
            have HO1 := Lib.hid ho1
            have HO1c := Lib.hid ho1c
            have HGet := Lib.hid hget
            have HRget := Lib.hid hrget
            have hc18 := cell_of_row wc ab 18 _ _ _ hB5
            rw [List.getElem?_toArray, HA18.out] at hc18
            clear hst hP5 hB5 ho1 ho1c hget hrget HP4 HK4 HB4 HQ hk0 hk1
            have hsz1 : o1.toArray.size = 17 := by rw [List.size_toArray]; exact HO1.out
            have HSz1 := Lib.hid hsz1
            clear hsz1
            go_upto_region 25 with (first
              | (go_at_call 19; refine (HGet.out _ HP5.out.is).mono ?_; rintro x w6 ⟨rfl, hb6⟩; have HP6 := Lib.hid (HP5.out.below hb6); have hc186 := (hb6.cell (p := ⟨ab, 18, none⟩) (World.block_lt_of_cell? wc _ hc18)).trans hc18; have hz6 : ab < w6.heap.size := World.block_lt_of_cell? w6 _ hc186; clear hb6)
              | (refine wpList_store_new rfl 39 (.tmp 16) (.tmp 104) rfl _ o1.toArray ?x1 ?x2 ?x3 ?x4 (all_oneCell_toArray HO1c.out) ?_; (case x1 => simp [Act.eval, Act.put]); (case x2 => simp [Act.eval, Act.put]); (case x3 => rw [HSz1.out]; exact sizeObj); (case x4 => rw [HSz1.out]; rfl))
              | (refine wpList_load_mid rfl 31 (.tmp 6) rfl r 0 rfl [.int .u16 S, .int .u16 I, .slice A2 (lst sto2).length c2] _ (range_of_block (C := [.int .u16 S, .int .u16 I, .slice A2 (lst sto2).length c2]) (HP6.out.below (below_new (Below.refl _ _) (.cells o1.toArray 39))).rb 0 _ (fun j hj => by rw [Nat.zero_add])) Try.underlying31 rfl sizePart ?_)
              | (go_at_call 20; refine (HRget.out _ A2 c2 0 (HP6.out.below (below_new (Below.refl _ _) (.cells o1.toArray 39))).tie (HP6.out.below (below_new (Below.refl _ _) (.cells o1.toArray 39))).v).mono ?_; rintro x w8 ⟨o2, ho2, ho2c, hpair, rfl, hb8⟩; have HO2c := Lib.hid ho2c; have hsz2 : o2.toArray.size = 17 := (by rw [List.size_toArray]; exact ho2); have HSz2 := Lib.hid hsz2; have HPair := Lib.hid hpair; have HB8 := Lib.hid hb8; have HO2 := Lib.hid ho2; clear ho2 ho2c hsz2 hpair hb8)
              | (refine wpList_store_new rfl 39 (.tmp 18) (.tmp 111) rfl _ o2.toArray ?x1 ?x2 ?x3 ?x4 (all_oneCell_toArray HO2c.out) ?_; (case x1 => simp [Act.eval, Act.put]); (case x2 => simp [Act.eval, Act.put]); (case x3 => rw [HSz2.out]; exact sizeObj); (case x4 => rw [HSz2.out]; rfl)))
            obtain ⟨w9, hw9⟩ : ∃ w9, w9 = w8.alloc (.cells o2.toArray 39) := ⟨_, rfl⟩
            obtain ⟨x1, hx1⟩ : ∃ x1, x1 = w6.heap.size := ⟨_, rfl⟩
            obtain ⟨x2, hx2⟩ : ∃ x2, x2 = w8.heap.size := ⟨_, rfl⟩
            have hbb7 := below_new (Below.refl w6.heap.size w6) (.cells o1.toArray 39)
            have hbb9 := below_new (Below.refl w8.heap.size w8) (.cells o2.toArray 39)
            have HP9 : Hid (PlW w w9 S I p r A2 c2 st2 sto2) := Lib.hid (by rw [hw9]; exact ((HP6.out.below hbb7).below HB8.out).below hbb9)
            have HR1 : Hid (w9.rangeAt x1 0 o1) := Lib.hid (by rw [hw9, hx1]; exact range_of_block (block_below hbb9 (block_below HB8.out (heap_alloc_new w6 (.cells o1.toArray 39)))) 0 _ (fun j hj => by rw [Nat.zero_add]))
            have HR2 : Hid (w9.rangeAt x2 0 o2) := Lib.hid (by rw [hw9, hx2]; exact range_of_block (heap_alloc_new w8 _) 0 _ (fun j hj => by rw [Nat.zero_add]))
            have HPr : Hid (Pair w9 (okp p r) o1 o2) := Lib.hid (by rw [hw9]; exact HPair.out.step (fun j _ hj => hbb9.block j hj))
            have hcr : w9.cell? ⟨r, 2, none⟩ = some (.slice A2 (lst sto2).length c2) := by rw [cell_of_row w9 r 2 _ _ _ HP9.out.rb]; rfl
            rw [← hw9, ← hx1, ← hx2]
            clear hw9 hx1 hx2 hbb7 hbb9 HB8 HP6 HPair HP5 HB5 hc18 hc186 hz6 HGet HRget HO1c HO2c HSz1 HSz2
            have HM1 : Hid (∀ W : World, (∃ s : { W : World // ∃ X, W = over w9 X }, W = s.1) → W.rangeAt x1 0 o1) := Lib.hid (by
              rintro W ⟨⟨W, X, rfl⟩, rfl⟩
              exact rangeAt_over HR1.out)
            have HM2 : Hid (∀ W : World, (∃ s : { W : World // ∃ X, W = over w9 X }, W = s.1) → W.rangeAt x2 0 o2) := Lib.hid (by
              rintro W ⟨⟨W, X, rfl⟩, rfl⟩
              exact rangeAt_over HR2.out)
            have HMr : Hid (∀ W : World, (∃ s : { W : World // ∃ X, W = over w9 X }, W = s.1) → W.cell? ⟨r, 2, none⟩ = some (.slice A2 (lst sto2).length c2)) := Lib.hid (by
              rintro W ⟨⟨W, X, rfl⟩, rfl⟩
              exact (cell_over (World.block_lt_of_cell? w9 _ hcr)).trans hcr)
            have nb : Nonempty { W : World // ∃ X, W = over w9 X } := ⟨⟨over w9 w9, w9, rfl⟩⟩
            have hnd : (is != is) = false := by simp
            clear hcr
            refine wp_region_ord [10, 15, 23, 26] [0, 1, 2, 3, 4, 5, 6, 7, 8, 9, 10, 11, 12, 13, 14, 16, 17, 18, 15, 19, 20, 21, 22, 24, 25, 23, 26, 27, 28] (fun W => ∃ X, W = over w9 X) (by kernel_rfl) (by kernel_rfl) rfl (by kernel_rfl) (over_of (Below.refl _ _).drew) ?_
            iterate 10
              refine wpO_one (by simp only [List.getElem?_toArray, List.getElem?_cons_zero, List.getElem?_cons_succ]; exact rfl) (by kernel_rfl) ?_
              (first
                | (go_big_quiet_want; refine quiet_load_mid 39 (.tmp 16) rfl x1 0 rfl o1 _ HM1.out Try.underlying39 rfl (by rw [HO1.out]; exact sizeObj) ?_; go_big_quiet_on; simp only [Act.put, List.setIfInBounds_toArray, List.set_cons_succ, List.set_cons_zero])
                | (go_big_quiet_want; refine quiet_load_mid 39 (.tmp 18) rfl x2 0 rfl o2 _ HM2.out Try.underlying39 rfl (by rw [HO2.out]; exact sizeObj) ?_; go_big_quiet_on; simp only [Act.put, List.setIfInBounds_toArray, List.set_cons_succ, List.set_cons_zero])
                | (go_big_quiet_want; refine quiet_load_one 29 (.tmp 129) rfl r 2 rfl (.slice A2 (lst sto2).length c2) _ HMr.out Try.underlying29 rfl ?_; go_big_quiet_on; simp only [Act.put, List.setIfInBounds_toArray, List.set_cons_succ, List.set_cons_zero])
                | (go_big_quiet_want; refine quiet_load_one 29 (.tmp 137) rfl r 2 rfl (.slice A2 (lst sto2).length c2) _ HMr.out Try.underlying29 rfl ?_; go_big_quiet_on; simp only [Act.put, List.setIfInBounds_toArray, List.set_cons_succ, List.set_cons_zero])
                | go_big_quiet_step (fail)
                | (go_big_quiet_want; go_big_quiet_op; refine ⟨_, fun _ _ _ => rfl, ?_⟩; go_big_quiet_on))
              refine wpQuiet_nil ?_
            refine wpO_run rfl rfl rfl (fun K hK => ?r1)
            go_simp
            have hb0 : Below w9.heap.size w9 w9.drew := (Below.refl _ _).drew
            refine ((HPr.out.step (fun j _ hj => hb0.block j hj)).same).mono ?_
            rintro e W1 ⟨rfl, hb1⟩
            have HW1 := Lib.hid (below_here hb0 hb1)
            clear hb0 hb1
            refine ⟨_, rfl, over_of HW1.out, hK _ _ ?_⟩
            clear hK K
            simp only [Act.put, List.setIfInBounds_toArray, List.set_cons_succ, List.set_cons_zero]
            iterate 6
              refine wpO_one (by simp only [List.getElem?_toArray, List.getElem?_cons_zero, List.getElem?_cons_succ]; exact rfl) (by kernel_rfl) ?_
              (first
                | (go_big_quiet_want; refine quiet_load_mid 39 (.tmp 16) rfl x1 0 rfl o1 _ HM1.out Try.underlying39 rfl (by rw [HO1.out]; exact sizeObj) ?_; go_big_quiet_on; simp only [Act.put, List.setIfInBounds_toArray, List.set_cons_succ, List.set_cons_zero])
                | (go_big_quiet_want; refine quiet_load_mid 39 (.tmp 18) rfl x2 0 rfl o2 _ HM2.out Try.underlying39 rfl (by rw [HO2.out]; exact sizeObj) ?_; go_big_quiet_on; simp only [Act.put, List.setIfInBounds_toArray, List.set_cons_succ, List.set_cons_zero])
                | (go_big_quiet_want; refine quiet_load_one 29 (.tmp 129) rfl r 2 rfl (.slice A2 (lst sto2).length c2) _ HMr.out Try.underlying29 rfl ?_; go_big_quiet_on; simp only [Act.put, List.setIfInBounds_toArray, List.set_cons_succ, List.set_cons_zero])
                | (go_big_quiet_want; refine quiet_load_one 29 (.tmp 137) rfl r 2 rfl (.slice A2 (lst sto2).length c2) _ HMr.out Try.underlying29 rfl ?_; go_big_quiet_on; simp only [Act.put, List.setIfInBounds_toArray, List.set_cons_succ, List.set_cons_zero])
                | go_big_quiet_step (fail)
                | (go_big_quiet_want; go_big_quiet_op; refine ⟨_, fun _ _ _ => rfl, ?_⟩; go_big_quiet_on))
              refine wpQuiet_nil ?_
            refine wpO_still (.int .i64 ((lst sto2).length : Int)) (by simp only [List.getElem?_toArray, List.getElem?_cons_zero, List.getElem?_cons_succ]; exact rfl) (by kernel_rfl) rfl (fun W _ => ?q1) ?q2
            case q1 => go_simp
            simp only [Act.put, List.setIfInBounds_toArray, List.set_cons_succ, List.set_cons_zero]
            refine wpO_run rfl rfl rfl (fun K hK => ?r2)
            go_simp
            refine (len_ok (.pointer (some ⟨p, 0, none⟩)) rfl (present st2 HP9.out.is.2 12) (present_le12 _ _) _ (.inr ⟨p, S, I, st2, HP9.out.is.below HW1.out, rfl, rfl⟩)).mono ?_
            rintro e W2 ⟨rfl, hb2⟩
            have HW2 := Lib.hid (below_here HW1.out hb2)
            clear hb2
            refine ⟨_, rfl, over_of HW2.out, hK _ _ ?_⟩
            clear hK K
            simp only [Act.put, List.setIfInBounds_toArray, List.set_cons_succ, List.set_cons_zero]
            have hpl : (present st2 HP9.out.is.2 12).length = (lst sto2).length := (present_tied HP9.out.tie HP9.out.is.2 12 (Nat.le_refl _)).1
            rw [hpl]
            clear hpl
            iterate 6
              refine wpO_one (by simp only [List.getElem?_toArray, List.getElem?_cons_zero, List.getElem?_cons_succ]; exact rfl) (by kernel_rfl) ?_
              (first
                | (go_big_quiet_want; refine quiet_load_mid 39 (.tmp 16) rfl x1 0 rfl o1 _ HM1.out Try.underlying39 rfl (by rw [HO1.out]; exact sizeObj) ?_; go_big_quiet_on; simp only [Act.put, List.setIfInBounds_toArray, List.set_cons_succ, List.set_cons_zero])
                | (go_big_quiet_want; refine quiet_load_mid 39 (.tmp 18) rfl x2 0 rfl o2 _ HM2.out Try.underlying39 rfl (by rw [HO2.out]; exact sizeObj) ?_; go_big_quiet_on; simp only [Act.put, List.setIfInBounds_toArray, List.set_cons_succ, List.set_cons_zero])
                | (go_big_quiet_want; refine quiet_load_one 29 (.tmp 129) rfl r 2 rfl (.slice A2 (lst sto2).length c2) _ HMr.out Try.underlying29 rfl ?_; go_big_quiet_on; simp only [Act.put, List.setIfInBounds_toArray, List.set_cons_succ, List.set_cons_zero])
                | (go_big_quiet_want; refine quiet_load_one 29 (.tmp 137) rfl r 2 rfl (.slice A2 (lst sto2).length c2) _ HMr.out Try.underlying29 rfl ?_; go_big_quiet_on; simp only [Act.put, List.setIfInBounds_toArray, List.set_cons_succ, List.set_cons_zero])
                | go_big_quiet_step (fail)
                | (go_big_quiet_want; go_big_quiet_op; refine ⟨_, fun _ _ _ => rfl, ?_⟩; go_big_quiet_on))
              refine wpQuiet_nil ?_
            refine wpO_run rfl rfl rfl (fun K hK => ?r3)
            go_simp
            refine (allOf_ok (.pointer (some ⟨p, 0, none⟩)) rfl (present st2 HP9.out.is.2 12) (present_le12 _ _) _ (.inr ⟨p, S, I, st2, HP9.out.is.below HW2.out, rfl, rfl⟩)).mono ?_
            rintro e W3 ⟨v3, rfl, hown, hb3⟩
            have HW3 := Lib.hid (below_here HW2.out hb3)
            obtain ⟨A3, c3, rfl, hC3⟩ := all_reads (HP9.out.tie.step (fun j _ hj => HW3.out.block j hj)) HP9.out.is.2 hown
            have HC3 := Lib.hid hC3
            clear hown hC3 hb3
            refine ⟨_, rfl, over_of HW3.out, hK _ _ ?_⟩
            clear hK K
            simp only [Act.put, List.setIfInBounds_toArray, List.set_cons_succ, List.set_cons_zero]
            refine wpO_run rfl rfl rfl (fun K hK => ?r4)
            go_simp
            refine (sameAll_ok A3 A2 c3 c2 (lst sto2) (fun x hx => by obtain ⟨j, _, hj⟩ := HP9.out.tie.mem hx; exact hj.2.2.2) (Nat.le_trans (lst_len _) (by omega)) _ HC3.out (Kd.C_below (Kd.V_reads' HP9.out.v).2.2 HW3.out)).mono ?_
            rintro e W4 ⟨rfl, hb4⟩
            have HW4 := Lib.hid (below_here HW3.out hb4)
            clear hb4
            refine ⟨_, rfl, over_of HW4.out, hK _ _ ?_⟩
            clear hK K
            simp only [Act.put, List.setIfInBounds_toArray, List.set_cons_succ, List.set_cons_zero]
            iterate 2
              refine wpO_one (by simp only [List.getElem?_toArray, List.getElem?_cons_zero, List.getElem?_cons_succ]; exact rfl) (by kernel_rfl) ?_
              (first
                | (go_big_quiet_want; refine quiet_load_mid 39 (.tmp 16) rfl x1 0 rfl o1 _ HM1.out Try.underlying39 rfl (by rw [HO1.out]; exact sizeObj) ?_; go_big_quiet_on; simp only [Act.put, List.setIfInBounds_toArray, List.set_cons_succ, List.set_cons_zero])
                | (go_big_quiet_want; refine quiet_load_mid 39 (.tmp 18) rfl x2 0 rfl o2 _ HM2.out Try.underlying39 rfl (by rw [HO2.out]; exact sizeObj) ?_; go_big_quiet_on; simp only [Act.put, List.setIfInBounds_toArray, List.set_cons_succ, List.set_cons_zero])
                | (go_big_quiet_want; refine quiet_load_one 29 (.tmp 129) rfl r 2 rfl (.slice A2 (lst sto2).length c2) _ HMr.out Try.underlying29 rfl ?_; go_big_quiet_on; simp only [Act.put, List.setIfInBounds_toArray, List.set_cons_succ, List.set_cons_zero])
                | (go_big_quiet_want; refine quiet_load_one 29 (.tmp 137) rfl r 2 rfl (.slice A2 (lst sto2).length c2) _ HMr.out Try.underlying29 rfl ?_; go_big_quiet_on; simp only [Act.put, List.setIfInBounds_toArray, List.set_cons_succ, List.set_cons_zero])
                | go_big_quiet_step (fail)
                | (go_big_quiet_want; go_big_quiet_op; refine ⟨_, fun _ _ _ => rfl, ?_⟩; go_big_quiet_on))
              refine wpQuiet_nil ?_
            refine wpO_nil ?_
            have HPn := Lib.hid (HP9.out.below HW4.out)
            clear HM1 HM2 HMr nb hnd HP9 HR1 HR2 HPr HC3 HW1 HW2 HW3 HW4
            go_wp2_with fail
            go_roundw
            case rel => first | exact ⟨k + 1, A2, c2, st2, sto2, by go_num, by omega, HPn⟩ | ((repeat apply Exists.intro); exact ⟨⟨k + 1, A2, c2, st2, sto2, by go_num, by omega, HPn⟩, rfl⟩)
            case measure => simp [intOf]; omega
end Go.Proofs.Ytaapejhoegeimaa
