/- Graphs of roles as the document has them: what is reached. Policies as the document has them: which roles are seen, what is owned, capabilities. Policies that are changed in place; a policy that may be, of any, as the document has it (R12.Mend). A graph, and a policy, without the roles that are not seen, as the document has it. A policy without the roles that are not seen has the same matrix: the plain law. No conditions. -/
import Derived.Test.YtlmacaenbililaaGreatDoorKc
import Derived.Test.YtlmacaenbililaaGreatDoorKa
import Derived.Test.YtlmacaenbililaaGreatDoorLref
namespace Go.Proofs.YtlmacaenbililaaGreatDoor
open Go.RowKit Go.Shelf
set_option linter.unusedSimpArgs false
set_option linter.unusedVariables false
attribute [local go_sem] cell_over frozen_over

set_option maxRecDepth 100000 in
set_option maxHeartbeats 4000000 in
theorem rgat_ok (g : List Nat) (hg : g.length = 16) (hgl : ∀ a ∈ g, a < 65536) (a b : Nat) (ha : a < 16) (hb : b < 16) (wi : Nat) (hwi : wi < 65536) (w : World) :
    Calls Tryz.prog 174 #[.agg (Pol.u16C g).toArray, .int .i64 (a : Int), .int .i64 (b : Int), .int .u16 (wi : Int)] w fun e w' => e = .returned (.bool (wi.testBit a && wi.testBit b && (g.getD a 0).testBit b)) ∧ Below w.heap.size w w' := by
  have HB0 := Lib.hid (below_fresh w (.cells (Pol.u16C g).toArray 27))
  have hG : GraphIn w.heap.size g (w.alloc (.cells (Pol.u16C g).toArray 27)) := heap_alloc_new w _
  have hc := hG.cell (r := a) (by omega)
  have hxl := getD_lt hgl a
  generalize g.getD a 0 = x at hc hxl ⊢
  have HA := Lib.hid (fun w => hasb_ok wi hwi a ha w)
  have HB := Lib.hid (fun w => hasb_ok wi hwi b hb w)
  have HC := Lib.hid (fun w => hasb_ok x hxl b hb w)
  have hai : (a : Int) < 16 := by omega
  generalize wi.testBit a = p at HA ⊢
  generalize wi.testBit b = q at HB ⊢
  generalize x.testBit b = r at HC ⊢
  clear hG hgl
  go_enter Tryz.func174, Tryz.ntmps174
  cases p with
  | false =>
    go_wp2_with (go_at_call 100; (with_reducible refine (HA.out _).mono ?_); rintro e w1 ⟨rfl, hw1⟩; obtain rfl := hw1.symm)
    go_ret
    exact ⟨rfl, HB0.out⟩
  | true =>
    cases q with
    | false =>
      go_wp2_with (go_at_call 100; first
        | ((with_reducible refine (HA.out _).mono ?_); rintro e w1 ⟨rfl, hw1⟩; obtain rfl := hw1.symm)
        | ((with_reducible refine (HB.out _).mono ?_); rintro e w1 ⟨rfl, hw1⟩; obtain rfl := hw1.symm))
      go_ret
      exact ⟨rfl, HB0.out⟩
    | true =>
      go_wp2_with (go_at_call 100; first
        | ((with_reducible refine (HA.out _).mono ?_); rintro e w1 ⟨rfl, hw1⟩; obtain rfl := hw1.symm)
        | ((with_reducible refine (HB.out _).mono ?_); rintro e w1 ⟨rfl, hw1⟩; obtain rfl := hw1.symm)
        | ((with_reducible refine (HC.out _).mono ?_); rintro e w1 ⟨rfl, hw1⟩; obtain rfl := hw1.symm))
      go_ret
      exact ⟨by cases r <;> rfl, HB0.out⟩
theorem wpList_load_guarded {P : Program} {ops : Array Oper} {rest : List Oper} {op : Oper} {a : Act} {w : World} {Q : Exit → Act → World → Prop} (ty : TypeId) (x : Operand) (ho : op.op = .load ty x) (hgd : Region.wanted op (yielded ops a.tmps) = true)
    (b o : Nat) (hx : a.eval x = .pointer (some ⟨b, o, none⟩)) (cs : List Value) (d : TypeDesc) (hc : w.rangeAt b o cs)
    (hu : P.underlying ty = some d) (hd : d.isRow = true) (hi : (P.info? ty).map (·.size) = some cs.length)
    (h : wpList P ops Q rest (a.put op.dst (.agg cs.toArray)) w) : wpList P ops Q (op :: rest) a w :=
  wpList_step fun K hK => by rw [if_pos hgd]; exact wp_load_mid ty x ho b o hx cs d hc hu hd hi (hK _ _ h)
theorem Gr.downN_succ (g : List Nat) (w S k : Nat) : Gr.downN g w S (k + 1) = Gr.allTo g w (Gr.downN g w S k) 16 := rfl
theorem Gr.allTo_succ (g : List Nat) (w o k : Nat) : Gr.allTo g w o (k + 1) = Gr.rowTo g w (Gr.allTo g w o k) k 16 := rfl
set_option maxRecDepth 100000 in
set_option maxHeartbeats 8000000 in
theorem rgdown_ok (g : List Nat) (hg : g.length = 16) (hgl : ∀ a ∈ g, a < 65536) (S : Nat) (hS : S < 65536) (wi : Nat) (hwi : wi < 65536) (w : World) :
    Calls Tryz.prog 113 #[.agg (Pol.u16C g).toArray, .int .u16 (S : Int), .int .u16 (wi : Int)] w fun e w' => e = .returned (.int .u16 (Gr.down g wi S : Int)) ∧ Below w.heap.size w w' := by
  have HB0 := Lib.hid (below_fresh w (.cells (Pol.u16C g).toArray 27))
  have HG0 := Lib.hid (show GraphIn w.heap.size g (w.alloc (.cells (Pol.u16C g).toArray 27)) from heap_alloc_new w _)
  have HGL := Lib.hid (And.intro hg hgl)
  have hl16 : (Pol.u16C g).length = 16 := by rw [u16C_len, hg]
  have HD := Lib.hid (show Gr.downN g wi S 0 < 65536 from Gr.downN_lt hS 0)
  have HAND := Lib.hid (fun w => rand_ok S wi hS hwi w)
  have HDL := Lib.hid (fun k => Gr.downN_lt (g := g) (w := wi) hS k)
  rw [show S &&& wi = Gr.downN g wi S 0 from rfl] at HAND
  clear hg hgl
  go_enter Tryz.func113, Tryz.ntmps113
  go_wp2_with (go_at_call 101; refine (HAND.out _).mono ?_; rintro e w1 ⟨rfl, hw1⟩; obtain rfl := hw1.symm)
  go_loopw [7, 8, 9, 10] (fun v i _ _ wr => ∃ (k o : Nat), v = .int .u16 (o : Int) ∧ i = .int .i64 (k : Int) ∧ k ≤ 16 ∧ Hid (o = Gr.downN g wi S k) ∧ Hid (GraphIn w.heap.size g wr) ∧ Hid (Below w.heap.size w wr)) (fun _ i _ _ _ => 16 - (intOf i).toNat)
  case atStart => exact ⟨0, _, rfl, rfl, by omega, Lib.hid rfl, HG0, HB0⟩
  case round =>
    obtain ⟨k, o, rfl, rfl, hk, hO, hG, hW⟩ := hrel
    by_cases hk16 : k = 16
    · subst hk16
      have hr := Lib.hid (show o = Gr.down g wi S from hO.out)
      clear hO
      go_wp2_with fail
      go_ret
      exact ⟨by rw [hr.out]; rfl, hW.out⟩
    · have hkl : k < 16 := by omega
      have hki : (k : Int) < 16 := by omega
      clear hk16 HG0 HB0 HAND HD
      go_wp2_with fail
      go_loopw [7, 9, 10] (fun v i _ wr => ∃ (a o1 : Nat), v = .int .u16 (o1 : Int) ∧ i = .int .i64 (a : Int) ∧ a ≤ 16 ∧ Hid (o1 = Gr.allTo g wi o a) ∧ Hid (GraphIn w.heap.size g wr) ∧ Hid (Below w.heap.size w wr)) (fun _ i _ _ => 16 - (intOf i).toNat)
      case atStart => exact ⟨0, o, rfl, rfl, by omega, Lib.hid rfl, hG, hW⟩
      case round =>
        obtain ⟨a, o1, rfl, rfl, ha, hO1, hG1, hW1⟩ := hrel
        by_cases ha16 : a = 16
        · subst ha16
          have hr := Lib.hid (show o1 = Gr.downN g wi S (k + 1) by rw [Gr.downN_succ, ← hO.out]; exact hO1.out)
          clear hO hO1
          go_wp2_with fail
          go_roundw
          case rel => exact ⟨k + 1, o1, rfl, by go_num, by omega, hr, hG1, hW1⟩
          case measure => simp [intOf]; omega
        · have hal : a < 16 := by omega
          have hai : (a : Int) < 16 := by omega
          have hol : o1 < 65536 := by rw [hO1.out]; exact Gr.allTo_lt (by rw [hO.out]; exact HDL.out k) a
          clear ha16
          go_wp2_with fail
          go_loopw [7, 10] (fun v i wr => ∃ (b o2 : Nat), v = .int .u16 (o2 : Int) ∧ i = .int .i64 (b : Int) ∧ b ≤ 16 ∧ Hid (o2 = Gr.rowTo g wi o1 a b) ∧ Hid (GraphIn w.heap.size g wr) ∧ Hid (Below w.heap.size w wr)) (fun _ i _ => 16 - (intOf i).toNat)
          case atStart => exact ⟨0, o1, rfl, rfl, by omega, Lib.hid rfl, hG1, hW1⟩
          case round =>
            obtain ⟨b, o2, rfl, rfl, hb, hO2, hG2, hW2⟩ := hrel
            by_cases hb16 : b = 16
            · subst hb16
              have hr := Lib.hid (show o2 = Gr.allTo g wi o (a + 1) by rw [Gr.allTo_succ, ← hO1.out]; exact hO2.out)
              clear hO1 hO2
              go_wp2_with fail
              go_roundw
              case rel => exact ⟨a + 1, o2, rfl, by go_num, by omega, hr, hG2, hW2⟩
              case measure => simp [intOf]; omega
            · have hbl : b < 16 := by omega
              have hbi : (b : Int) < 16 := by omega
              have ho2 : o2 < 65536 := by rw [hO2.out]; exact Gr.rowTo_lt hol b (by omega)
              have hnx : Gr.rowTo g wi o1 a (b + 1) = if (o2.testBit a && (wi.testBit a && wi.testBit b && (g.getD a 0).testBit b)) = true then o2 ||| 2 ^ b else o2 := by rw [hO2.out]; rfl
              have HNX := Lib.hid hnx
              have HH := Lib.hid (fun w => hasb_ok o2 ho2 a hal w)
              have HWB := Lib.hid (fun w => withb_ok o2 ho2 b hbl w)
              have HAT := Lib.hid (fun w => rgat_ok g HGL.out.1 HGL.out.2 a b hal hbl wi hwi w)
              have hRG := hG2.out.range
              generalize o2.testBit a = p at HH HNX
              generalize (wi.testBit a && wi.testBit b && (g.getD a 0).testBit b) = q at HAT HNX
              clear hnx hb16 hO2
              cases p with
              | false =>
                have HN : Hid (o2 = Gr.rowTo g wi o1 a (b + 1)) := Lib.hid (by rw [HNX.out]; simp)
                clear HNX HWB HAT
                go_wp2_with (go_at_call 100; refine (HH.out _).mono ?_; rintro e w1 ⟨rfl, hw1⟩; obtain rfl := hw1.symm)
                go_roundw
                case rel => exact ⟨b + 1, o2, rfl, by go_num, by omega, HN, hG2, hW2⟩
                case measure => simp [intOf]; omega
              | true =>
                have HN : Hid (Gr.rowTo g wi o1 a (b + 1) = if q = true then o2 ||| 2 ^ b else o2) := Lib.hid (by rw [HNX.out, Bool.true_and])
                clear HNX
                go_wp2_with (first
                  | (go_at_call 100; refine (HH.out _).mono ?_; rintro e w1 ⟨rfl, hw1⟩; obtain rfl := hw1.symm)
                  | (refine wpList_load_guarded 27 (.tmp 3) rfl (by kernel_rfl) w.heap.size 0 rfl (Pol.u16C g) _ hRG Tryz.underlying27 rfl (by rw [hl16]; exact info_u16s) ?_))
                refine (HAT.out _).mono ?_
                rintro e w3 ⟨rfl, hb3⟩
                have hG3 := Lib.hid (show GraphIn w.heap.size g w3 from block_below hb3 hG2.out)
                have hW3 := Lib.hid (below_here hW2.out hb3)
                clear hb3 HAT HH
                cases q with
                | false =>
                  have HN2 := Lib.hid (show o2 = Gr.rowTo g wi o1 a (b + 1) by rw [HN.out]; simp)
                  clear HN
                  go_wp2_with fail
                  go_roundw
                  case rel => exact ⟨b + 1, o2, rfl, by go_num, by omega, HN2, hG3, hW3⟩
                  case measure => simp [intOf]; omega
                | true =>
                  have HN2 := Lib.hid (show o2 ||| 2 ^ b = Gr.rowTo g wi o1 a (b + 1) by rw [HN.out]; simp)
                  clear HN
                  go_wp2_with (go_at_call 103; refine (HWB.out _).mono ?_; rintro e w1 ⟨rfl, hw1⟩; obtain rfl := hw1.symm)
                  go_roundw
                  case rel => exact ⟨b + 1, _, rfl, by go_num, by omega, HN2, hG3, hW3⟩
                  case measure => simp [intOf]; omega
namespace Gr
/-- Those that reach one of a set. -/
def upTo (g : List Nat) (w S : Nat) : Nat → Nat := Pol.setTo fun a => decide (down g w (2 ^ a) &&& S ≠ 0)
theorem and_pow {x r : Nat} : (x &&& 2 ^ r ≠ 0) ↔ x.testBit r = true := by
  constructor
  · intro h
    refine Classical.byContradiction fun hc => h (Nat.eq_of_testBit_eq fun i => ?_)
    rw [Nat.testBit_and, Nat.testBit_two_pow, Nat.zero_testBit]
    by_cases e : r = i
    · subst e; simp at hc; simp [hc]
    · simp [e]
  · intro h e
    have : (x &&& 2 ^ r).testBit r = true := by rw [Nat.testBit_and, h]; simp
    rw [e] at this
    simp at this
theorem up_is' {g : List Nat} {w r : Nat} (hr : r < 16) : upTo g w (2 ^ r) 16 = down (turn g) w (2 ^ r) := by
  refine Tag.ext (Pol.setTo_lt _ 16 (by omega)) (down_lt (p16 hr)) fun i hi => ?_
  unfold upTo
  rw [Pol.setTo_bit _ 16 (by omega), up_bit hr hi, Bool.eq_iff_iff]
  simp [hi, and_pow]
end Gr
set_option maxRecDepth 100000 in
set_option maxHeartbeats 8000000 in
theorem rgup_ok (g : List Nat) (hg : g.length = 16) (hgl : ∀ a ∈ g, a < 65536) (S : Nat) (hS : S < 65536) (wi : Nat) (hwi : wi < 65536) (w : World) :
    Calls Tryz.prog 112 #[.agg (Pol.u16C g).toArray, .int .u16 (S : Int), .int .u16 (wi : Int)] w fun e w' => e = .returned (.int .u16 (Gr.upTo g wi S 16 : Int)) ∧ Below w.heap.size w w' := by
  have HB0 := Lib.hid (below_fresh w (.cells (Pol.u16C g).toArray 27))
  have HG0 := Lib.hid (show GraphIn w.heap.size g (w.alloc (.cells (Pol.u16C g).toArray 27)) from heap_alloc_new w _)
  have HGL := Lib.hid (And.intro hg hgl)
  have hl16 : (Pol.u16C g).length = 16 := by rw [u16C_len, hg]
  clear hg hgl
  go_enter Tryz.func112, Tryz.ntmps112
  go_wp2_with fail
  go_loopw [7, 8] (fun v i wr => ∃ (k o : Nat), v = .int .u16 (o : Int) ∧ i = .int .i64 (k : Int) ∧ k ≤ 16 ∧ Hid (o = Gr.upTo g wi S k) ∧ Hid (GraphIn w.heap.size g wr) ∧ Hid (Below w.heap.size w wr)) (fun _ i _ => 16 - (intOf i).toNat)
  case atStart => exact ⟨0, 0, rfl, rfl, by omega, Lib.hid rfl, HG0, HB0⟩
  case round =>
    obtain ⟨k, o, rfl, rfl, hk, hO, hG, hW⟩ := hrel
    by_cases hk16 : k = 16
    · subst hk16
      go_wp2_with fail
      go_ret
      exact ⟨by rw [hO.out]; rfl, hW.out⟩
    · have hkl : k < 16 := by omega
      have hki : (k : Int) < 16 := by omega
      have hol : o < 65536 := by rw [hO.out]; exact Pol.setTo_lt _ k (by omega)
      have hnx : Gr.upTo g wi S (k + 1) = if decide (Gr.down g wi (2 ^ k) &&& S ≠ 0) = true then o ||| 2 ^ k else o := by rw [hO.out]; rfl
      have HNX := Lib.hid hnx
      have hpk := p16 hkl
      have HWB := Lib.hid (fun w => withb_ok 0 (by omega) k hkl w)
      rw [Nat.zero_or] at HWB
      have HWO := Lib.hid (fun w => withb_ok o hol k hkl w)
      have HDN := Lib.hid (fun w => rgdown_ok g HGL.out.1 HGL.out.2 (2 ^ k) hpk wi hwi w)
      have hdl := Gr.down_lt (g := g) (w := wi) hpk
      generalize Gr.down g wi (2 ^ k) = d at HDN HNX hdl
      obtain ⟨pk, hpk'⟩ : ∃ pk, pk = 2 ^ k := ⟨_, rfl⟩
      rw [← hpk'] at HWB HDN HWO HNX
      have HAND := Lib.hid (fun w => rand_ok d S hdl hS w)
      obtain ⟨x, hx⟩ : ∃ x, x = d &&& S := ⟨_, rfl⟩
      rw [← hx] at HAND HNX
      have HG1 := Lib.hid (show ∀ W : World, (∃ X, W = over wr X) → W.rangeAt w.heap.size 0 (Pol.u16C g) from by
        rintro W ⟨X, rfl⟩
        exact rangeAt_over hG.out.range)
      clear hnx hO hk16 hx hpk hpk'
      have HWO' : Hid (Gr.upTo g wi S (k + 1) = if decide (x ≠ 0) = true then o ||| pk else o) := HNX
      clear HNX
      go_wp2_with fail
      refine wp_region_over (by kernel_rfl) (by kernel_rfl) ?_
      repeat (first
        | (go_big_quiet_want; refine quiet_load_mid 27 (.tmp 3) rfl w.heap.size 0 rfl (Pol.u16C g) _ HG1.out Tryz.underlying27 rfl (by rw [hl16]; exact info_u16s) ?_; go_big_quiet_on; simp only [Act.put, List.setIfInBounds_toArray, List.set_cons_succ, List.set_cons_zero])
        | go_big_quiet_step (first
          | ((go_at_call 103; exact Calls.over_of ((HWB.out _).mono fun e w' h => ⟨h.1, h.2 ▸ Below.refl _ _⟩)))
          | ((go_at_call 113; exact Calls.over_of (HDN.out _)))
          | ((go_at_call 101; exact Calls.over_of ((HAND.out _).mono fun e w' h => ⟨h.1, h.2 ▸ Below.refl _ _⟩)))))
      refine wpQuiet_nil ?_
      intro W7 hW7
      have hb7 := below_of_over hW7
      have hG3 := Lib.hid (show GraphIn w.heap.size g W7 from block_below hb7 hG.out)
      have hW3 := Lib.hid (below_here hW.out hb7)
      clear hW7 hb7 HG1 HDN HAND HWB
      by_cases hx0 : x = 0
      · subst hx0
        have HN2 := Lib.hid (show o = Gr.upTo g wi S (k + 1) by rw [HWO'.out]; rfl)
        clear HWO'
        go_wp2_with fail
        go_roundw
        case rel => exact ⟨k + 1, o, rfl, by go_num, by omega, HN2, hG3, hW3⟩
        case measure => simp [intOf]; omega
      · have HN2 := Lib.hid (show o ||| pk = Gr.upTo g wi S (k + 1) by rw [HWO'.out, if_pos (by simpa using hx0)])
        have hxi : ((x : Int) == 0) = false := by simpa using hx0
        have hxi2 : ¬ (x : Int) = 0 := by omega
        have hx3 : decide ((x : Int) = 0) = false := by simpa using hx0
        clear HWO'
        go_wp2_with (go_at_call 103; refine (HWO.out _).mono ?_; rintro e w1 ⟨rfl, hw1⟩; obtain rfl := hw1.symm)
        go_roundw
        case rel => exact ⟨k + 1, _, rfl, by go_num, by omega, HN2, hG3, hW3⟩
        case measure => simp [intOf]; omega
end Go.Proofs.YtlmacaenbililaaGreatDoor
namespace Go.Proofs.YtlmacaenbililaaGreatDoor
open Go.RowKit Go.Shelf
set_option linter.unusedSimpArgs false
set_option linter.unusedVariables false
attribute [local go_sem] cell_over frozen_over

set_option maxRecDepth 100000 in
set_option maxHeartbeats 8000000 in
theorem rpseen_ok (p : Pol.P) (hp : Pol.Ok p) (la : Lab.L) (hla : Lab.ok la) (w : World) :
    Calls Tryz.prog 111 #[Pol.val p, labV la] w fun e w' => e = .returned (.int .u16 (Pol.seen p la : Int)) ∧ Below w.heap.size w w' := by
  have hE0 : PolIn w.heap.size p ((w.alloc (.cells (Pol.cells p).toArray 30)).alloc (.cells #[.int .u16 (la.1 : Int), .int .u16 (la.2 : Int)] 25)) := block_below (below_fresh _ _) (heap_alloc_new w _)
  have hL0 := heap_alloc_new (w.alloc (.cells (Pol.cells p).toArray 30)) (.cells #[.int .u16 (la.1 : Int), .int .u16 (la.2 : Int)] 25)
  rw [World.size_alloc] at hL0
  have hB0 : Below w.heap.size w ((w.alloc (.cells (Pol.cells p).toArray 30)).alloc (.cells #[.int .u16 (la.1 : Int), .int .u16 (la.2 : Int)] 25)) := below_new (below_fresh _ _) _
  obtain ⟨w9, hw9⟩ : ∃ w9, w9 = ((w.alloc (.cells (Pol.cells p).toArray 30)).alloc (.cells #[.int .u16 (la.1 : Int), .int .u16 (la.2 : Int)] 25)) := ⟨_, rfl⟩
  rw [← hw9] at hE0 hL0 hB0
  have HB0 := Lib.hid hB0
  have HE0 := Lib.hid hE0
  have HL0 := Lib.hid hL0
  have HOK := Lib.hid hp
  have HLA := Lib.hid hla
  have HW9 := Lib.hid hw9
  have HF := Lib.hid (fun r w => rflows_ok (Pol.lab p r) la (Pol.lab_ok hp r) hla w)
  have hlive := hp.live
  obtain ⟨lv, hlv⟩ : ∃ lv, lv = p.live := ⟨_, rfl⟩
  rw [← hlv] at hlive
  have HLV := Lib.hid hlv
  have HCL := Lib.hid (show (Pol.cells p)[0]? = some (.int .u16 (lv : Int)) by rw [hlv]; exact Pol.cell_live p)
  clear hp hla hE0 hL0 hB0 hw9 hlv
  obtain ⟨l1, l2⟩ := la
  unfold Pol.val
  go_enter Tryz.func111, Tryz.ntmps111
  go_wp2_with fail
  rw [← HW9.out]
  go_loopw [5, 6] (fun v i wr => ∃ (k o : Nat), v = .int .u16 (o : Int) ∧ i = .int .i64 (k : Int) ∧ k ≤ 16 ∧ Hid (o = Pol.setTo (fun r => lv.testBit r && Lab.flows (Pol.lab p r) (l1, l2)) k) ∧ Hid (Below w9.heap.size w9 wr)) (fun _ i _ => 16 - (intOf i).toNat)
  case atStart => exact ⟨0, 0, rfl, rfl, by omega, Lib.hid rfl, Lib.hid (Below.refl _ _)⟩
  case round =>
    obtain ⟨k, o, rfl, rfl, hk, hO, hW⟩ := hrel
    by_cases hk16 : k = 16
    · subst hk16
      have hr := Lib.hid (show o = Pol.seen p (l1, l2) by rw [hO.out, HLV.out]; rfl)
      clear hO
      go_wp2_with fail
      go_ret
      exact ⟨by rw [hr.out]; rfl, below_here HB0.out hW.out⟩
    · have hkl : k < 16 := by omega
      have hki : (k : Int) < 16 := by omega
      have hol : o < 65536 := by rw [hO.out]; exact Pol.setTo_lt _ k (by omega)
      have hE := block_below hW.out HE0.out
      have hL := block_below hW.out HL0.out
      have hc0 := PolIn.cell hE 0 HCL.out
      obtain ⟨c1, c2, c3, c4⟩ := pair_cells hL
      have hb1 := PolIn.lab1 hE HOK.out hkl
      have hb2 := PolIn.lab2 hE HOK.out hkl
      have hcl := World.block_lt_of_cell? wr _ c1
      have hcl0 := World.block_lt_of_cell? wr _ hc0
      have hnx : Pol.setTo (fun r => lv.testBit r && Lab.flows (Pol.lab p r) (l1, l2)) (k + 1) = if (lv.testBit k && Lab.flows (Pol.lab p k) (l1, l2)) = true then o ||| 2 ^ k else o := by rw [hO.out]; rfl
      have HNX := Lib.hid hnx
      have HH := Lib.hid (fun w => hasb_ok lv hlive k hkl w)
      have HFX := Lib.hid (HF.out k)
      have HWO := Lib.hid (fun w => withb_ok o hol k hkl w)
      obtain ⟨q, hq⟩ : ∃ q, q = Pol.lab p k := ⟨_, rfl⟩
      rw [← hq] at hb1 hb2 HFX HNX
      obtain ⟨q1, q2⟩ := q
      simp only at hb1 hb2
      unfold labV at HFX
      simp only at HFX
      generalize Lab.flows (q1, q2) (l1, l2) = fl at HFX HNX
      generalize lv.testBit k = b at HH HNX
      clear hnx hE hL hO hk16 hq
      cases b with
      | false =>
        have HN2 := Lib.hid (show o = Pol.setTo (fun r => lv.testBit r && Lab.flows (Pol.lab p r) (l1, l2)) (k + 1) by rw [HNX.out]; simp)
        clear HNX HWO HFX
        go_wp2_with fail
        refine wp_region_over (by kernel_rfl) (by kernel_rfl) ?_
        repeat (go_big_quiet_step (first
          | ((go_at_call 100; exact Calls.over_of ((HH.out _).mono fun e w' h => ⟨h.1, h.2 ▸ Below.refl _ _⟩)))))
        refine wpQuiet_nil ?_
        intro W7 hW7
        have hb7 := below_of_over hW7
        have hW3 := Lib.hid (below_here hW.out hb7)
        clear hW7 hb7
        go_wp2_with fail
        go_roundw
        case rel => exact ⟨k + 1, o, rfl, by go_num, by omega, HN2, hW3⟩
        case measure => simp [intOf]; omega
      | true =>
        have HN : Hid (Pol.setTo (fun r => lv.testBit r && Lab.flows (Pol.lab p r) (l1, l2)) (k + 1) = if fl = true then o ||| 2 ^ k else o) := Lib.hid (by rw [HNX.out, Bool.true_and])
        clear HNX
        go_wp2_with fail
        refine wp_region_over (by kernel_rfl) (by kernel_rfl) ?_
        repeat (go_big_quiet_step (first
          | ((go_at_call 100; exact Calls.over_of ((HH.out _).mono fun e w' h => ⟨h.1, h.2 ▸ Below.refl _ _⟩)))
          | ((go_at_call 173; exact Calls.over_of (HFX.out _)))))
        refine wpQuiet_nil ?_
        intro W7 hW7
        have hb7 := below_of_over hW7
        have hW3 := Lib.hid (below_here hW.out hb7)
        clear hW7 hb7
        cases fl with
        | false =>
          have HN2 := Lib.hid (show o = Pol.setTo (fun r => lv.testBit r && Lab.flows (Pol.lab p r) (l1, l2)) (k + 1) by rw [HN.out]; simp)
          clear HN
          go_wp2_with fail
          go_roundw
          case rel => exact ⟨k + 1, o, rfl, by go_num, by omega, HN2, hW3⟩
          case measure => simp [intOf]; omega
        | true =>
          have HN2 := Lib.hid (show o ||| 2 ^ k = Pol.setTo (fun r => lv.testBit r && Lab.flows (Pol.lab p r) (l1, l2)) (k + 1) by rw [HN.out]; simp)
          clear HN
          go_wp2_with (go_at_call 103; refine (HWO.out _).mono ?_; rintro e w1 ⟨rfl, hw1⟩; obtain rfl := hw1.symm)
          go_roundw
          case rel => exact ⟨k + 1, _, rfl, by go_num, by omega, HN2, hW3⟩
          case measure => simp [intOf]; omega
set_option maxRecDepth 100000 in
set_option maxHeartbeats 8000000 in
theorem rpowned_ok (p : Pol.P) (hp : Pol.Ok p) (s : Nat) (hs : s < 65536) (w : World) :
    Calls Tryz.prog 114 #[Pol.val p, .int .u16 (s : Int)] w fun e w' => e = .returned (.int .u16 (Pol.owned p s : Int)) ∧ Below w.heap.size w w' := by
  have HE0 := Lib.hid (show PolIn w.heap.size p (w.alloc (.cells (Pol.cells p).toArray 30)) from heap_alloc_new w _)
  have HB0 := Lib.hid (below_fresh w (.cells (Pol.cells p).toArray 30))
  have HOK := Lib.hid hp
  have HH := Lib.hid (fun t w => rhas_ok s hs t w)
  clear hp
  unfold Pol.val
  go_enter Tryz.func114, Tryz.ntmps114
  go_wp2_with fail
  go_loopw [5, 6] (fun o i wr => ∃ (k v : Nat), i = .int .i64 (k : Int) ∧ o = .int .u16 (v : Int) ∧ k ≤ 16 ∧ Hid (v = Pol.setTo (fun t => Tag.has s (Pol.own p t : Int)) k) ∧ wr = w.alloc (.cells (Pol.cells p).toArray 30)) (fun _ i _ => 16 - (intOf i).toNat)
  case atStart => exact ⟨0, 0, rfl, rfl, by omega, Lib.hid rfl, rfl⟩
  case round =>
    obtain ⟨k, v, rfl, rfl, hk, hv, rfl⟩ := hrel
    by_cases hk16 : k = 16
    · subst hk16
      have HR := Lib.hid (show v = Pol.owned p s from hv.out)
      clear hv
      go_wp2_with fail
      go_ret
      exact ⟨by rw [HR.out]; rfl, HB0.out⟩
    · have hkl : k < 16 := by omega
      have hki : (k : Int) < 16 := by omega
      have hco := PolIn.cell HE0.out (49 + k) (Pol.cell_own HOK.out hkl)
      have hol := Pol.own_lt HOK.out k
      have hvl : v < 65536 := by rw [hv.out]; exact Pol.setTo_lt _ k (by omega)
      have HT := Lib.hid (fun w => HH.out (Pol.own p k : Int) w)
      have HNX := Lib.hid (show Pol.setTo (fun t => Tag.has s (Pol.own p t : Int)) (k + 1) = if Tag.has s (Pol.own p k : Int) = true then v ||| 2 ^ k else v by rw [hv.out]; rfl)
      have HWO := Lib.hid (fun w => withb_ok v hvl k hkl w)
      obtain ⟨u, hu⟩ : ∃ u, u = Pol.own p k := ⟨_, rfl⟩
      rw [← hu] at hol HT HNX hco
      have hwu : IntKind.i64.wrap (u : Int) = (u : Int) := IntWalk.i64_in _ (by omega)
      clear hv hu hk16
      generalize Tag.has s (u : Int) = d at HT HNX
      cases d with
      | false =>
        have HN : Hid (v = Pol.setTo (fun t => Tag.has s (Pol.own p t : Int)) (k + 1)) := Lib.hid (by rw [HNX.out]; simp)
        clear HNX HWO
        go_wp2_with (go_at_call 100; refine (HT.out _).mono ?_; rintro e w' ⟨rfl, hw'⟩; obtain rfl := hw'.symm)
        go_roundw
        case rel => exact ⟨k + 1, v, by go_num, rfl, by omega, HN, trivial⟩
        case measure => simp [intOf]; omega
      | true =>
        have HN : Hid (v ||| 2 ^ k = Pol.setTo (fun t => Tag.has s (Pol.own p t : Int)) (k + 1)) := Lib.hid (by rw [HNX.out]; simp)
        clear HNX
        go_wp2_with (first
          | (go_at_call 100; refine (HT.out _).mono ?_; rintro e w' ⟨rfl, hw'⟩; obtain rfl := hw'.symm)
          | (go_at_call 103; refine (HWO.out _).mono ?_; rintro e w' ⟨rfl, hw'⟩; obtain rfl := hw'.symm))
        go_roundw
        case rel => exact ⟨k + 1, _, by go_num, rfl, by omega, HN, trivial⟩
        case measure => simp [intOf]; omega
set_option maxRecDepth 100000 in
set_option maxHeartbeats 8000000 in
theorem rpacts_ok (p : Pol.P) (hp : Pol.Ok p) (a b : Nat) (ha : a < 16) (la : Lab.L) (hla : Lab.ok la) (w : World) :
    Calls Tryz.prog 175 #[Pol.val p, .int .i64 (a : Int), .int .i64 (b : Int), labV la] w fun e w' => e = .returned (.bool (Tag.has (Pol.downOf p (a : Int) la) (b : Int))) ∧ Below w.heap.size w w' := by
  have hE0 : PolIn w.heap.size p ((w.alloc (.cells (Pol.cells p).toArray 30)).alloc (.cells #[.int .u16 (la.1 : Int), .int .u16 (la.2 : Int)] 25)) := block_below (below_fresh _ _) (heap_alloc_new w _)
  have hL0 := heap_alloc_new (w.alloc (.cells (Pol.cells p).toArray 30)) (.cells #[.int .u16 (la.1 : Int), .int .u16 (la.2 : Int)] 25)
  rw [World.size_alloc] at hL0
  have hB0 : Below w.heap.size w ((w.alloc (.cells (Pol.cells p).toArray 30)).alloc (.cells #[.int .u16 (la.1 : Int), .int .u16 (la.2 : Int)] 25)) := below_new (below_fresh _ _) _
  obtain ⟨w9, hw9⟩ : ∃ w9, w9 = ((w.alloc (.cells (Pol.cells p).toArray 30)).alloc (.cells #[.int .u16 (la.1 : Int), .int .u16 (la.2 : Int)] 25)) := ⟨_, rfl⟩
  rw [← hw9] at hE0 hL0 hB0
  have HB0 := Lib.hid hB0
  have HA := Lib.hid (show ∀ W : World, (∃ X, W = over w9 X) → W.rangeAt w.heap.size 33 (Pol.u16C p.acts) from by
    rintro W ⟨X, rfl⟩
    exact rangeAt_over (hE0.actsAt hp))
  have HP := Lib.hid (show ∀ W : World, (∃ X, W = over w9 X) → W.rangeAt w.heap.size 0 (Pol.cells p) from by
    rintro W ⟨X, rfl⟩
    exact rangeAt_over hE0.range)
  obtain ⟨c1, c2, c3, c4⟩ := pair_cells hL0
  have hcl := World.block_lt_of_cell? w9 _ c1
  have hl16 : (Pol.u16C p.acts).length = 16 := by rw [u16C_len, hp.nacts]
  have hl66 := Pol.cells_len hp
  have HSN := Lib.hid (fun w => rpseen_ok p hp la hla w)
  have HWB := Lib.hid (fun w => withb_ok 0 (by omega) a ha w)
  rw [Nat.zero_or] at HWB
  have HDN := Lib.hid (fun w => rgdown_ok p.acts hp.nacts hp.acts (2 ^ a) (p16 ha) (Pol.seen p la) (Pol.seen_lt _ _) w)
  have HR : Hid (Pol.downOf p (a : Int) la = Gr.down p.acts (Pol.seen p la) (2 ^ a)) := Lib.hid (Pol.downOf_nat p ha la)
  have HHB := Lib.hid (fun w => rhas_ok (Gr.down p.acts (Pol.seen p la) (2 ^ a)) (Gr.down_lt (p16 ha)) (b : Int) w)
  rw [HR.out]
  have HW9 := Lib.hid hw9
  have ha0 : ¬ (a : Int) < 0 := by omega
  have ha1 : ¬ (15 : Int) < (a : Int) := by omega
  clear hp hla hE0 hL0 hB0 hw9
  obtain ⟨l1, l2⟩ := la
  unfold Pol.val labV at HSN
  unfold Pol.val labV
  simp only at HSN ⊢
  generalize Gr.down p.acts (Pol.seen p (l1, l2)) (2 ^ a) = D at HDN HHB ⊢
  generalize Tag.has D (b : Int) = R at HHB ⊢
  generalize Pol.seen p (l1, l2) = S at HSN HDN
  obtain ⟨pk, hpk'⟩ : ∃ pk, pk = 2 ^ a := ⟨_, rfl⟩
  rw [← hpk'] at HWB HDN
  clear hpk' HR
  go_enter Tryz.func175, Tryz.ntmps175
  go_wp2_with fail
  rw [← HW9.out]
  refine wp_region_over (by kernel_rfl) (by kernel_rfl) ?_
  repeat (first
    | (go_big_quiet_want; refine quiet_load_mid 27 (.tmp 15) rfl w.heap.size 33 rfl (Pol.u16C p.acts) _ HA.out Tryz.underlying27 rfl (by rw [hl16]; exact info_u16s) ?_; go_big_quiet_on; simp only [Act.put, List.setIfInBounds_toArray, List.set_cons_succ, List.set_cons_zero])
    | (go_big_quiet_want; refine quiet_load_mid 30 (.tmp 4) rfl w.heap.size 0 rfl (Pol.cells p) _ HP.out Tryz.underlying30 rfl (by rw [hl66]; exact info_pol) ?_; go_big_quiet_on; simp only [Act.put, List.setIfInBounds_toArray, List.set_cons_succ, List.set_cons_zero])
    | go_big_quiet_step (first
      | ((go_at_call 103; exact Calls.over_of ((HWB.out _).mono fun e w' h => ⟨h.1, h.2 ▸ Below.refl _ _⟩)))
      | ((go_at_call 100; exact Calls.over_of ((HHB.out _).mono fun e w' h => ⟨h.1, h.2 ▸ Below.refl _ _⟩)))
      | (go_at_call 111; exact Calls.over_of (HSN.out _))
      | (go_at_call 113; exact Calls.over_of (HDN.out _))))
  refine wpQuiet_nil ?_
  intro W7 hW7
  have hb7 := below_of_over hW7
  have HB7 := Lib.hid (below_here HB0.out hb7)
  clear hW7 hb7
  go_wp2_with fail
  go_ret
  exact ⟨rfl, HB7.out⟩
/-- Is a tag among a role's capabilities? -/
def Pol.capAt (p : Pol.P) (a : Nat) (la : Lab.L) (t : Nat) : Bool := p.active.testBit t && decide (Pol.own p t < 16) && Tag.has (Pol.downOf p (a : Int) la) (Pol.own p t : Int)
theorem Pol.caps_is (p : Pol.P) (hp : Pol.Ok p) {a : Nat} (ha : a < 16) (la : Lab.L) : Pol.setTo (Pol.capAt p a la) 16 = Pol.caps p (a : Int) la := by
  refine Tag.ext (Pol.setTo_lt _ 16 (by omega)) (Pol.caps_lt _ _ _) fun t ht => ?_
  have hD := Gr.down_lt (g := p.acts) (w := Pol.seen p la) (p16 ha)
  rw [Pol.setTo_bit _ 16 (by omega), Pol.caps_bit p ha ht, Bool.eq_iff_iff]
  unfold Pol.capAt
  rw [Pol.downOf_nat p ha, Pol.has_nat hD]
  simp only [Bool.and_eq_true, decide_eq_true_eq]
  constructor
  · rintro ⟨_, ⟨h1, h2⟩, h3⟩; exact ⟨h3, h1⟩
  · rintro ⟨h1, h2⟩; exact ⟨ht, ⟨h2, Pol.bit_ge hD h1⟩, h1⟩
set_option maxRecDepth 100000 in
set_option maxHeartbeats 8000000 in
theorem rpcaps_ok (p : Pol.P) (hp : Pol.Ok p) (a : Nat) (ha : a < 16) (la : Lab.L) (hla : Lab.ok la) (w : World) :
    Calls Tryz.prog 115 #[Pol.val p, .int .i64 (a : Int), labV la] w fun e w' => e = .returned (.int .u16 (Pol.caps p (a : Int) la : Int)) ∧ Below w.heap.size w w' := by
  have hE0 : PolIn w.heap.size p ((w.alloc (.cells (Pol.cells p).toArray 30)).alloc (.cells #[.int .u16 (la.1 : Int), .int .u16 (la.2 : Int)] 25)) := block_below (below_fresh _ _) (heap_alloc_new w _)
  have hL0 := heap_alloc_new (w.alloc (.cells (Pol.cells p).toArray 30)) (.cells #[.int .u16 (la.1 : Int), .int .u16 (la.2 : Int)] 25)
  rw [World.size_alloc] at hL0
  have hB0 : Below w.heap.size w ((w.alloc (.cells (Pol.cells p).toArray 30)).alloc (.cells #[.int .u16 (la.1 : Int), .int .u16 (la.2 : Int)] 25)) := below_new (below_fresh _ _) _
  obtain ⟨w9, hw9⟩ : ∃ w9, w9 = ((w.alloc (.cells (Pol.cells p).toArray 30)).alloc (.cells #[.int .u16 (la.1 : Int), .int .u16 (la.2 : Int)] 25)) := ⟨_, rfl⟩
  rw [← hw9] at hE0 hL0 hB0
  have HB0 := Lib.hid hB0
  have HE0 := Lib.hid hE0
  have HL0 := Lib.hid hL0
  have HOK := Lib.hid hp
  have HW9 := Lib.hid hw9
  have hl66 := Pol.cells_len hp
  have HAC := Lib.hid (fun b w => rpacts_ok p hp a b ha la hla w)
  obtain ⟨av, hav⟩ : ∃ av, av = p.active := ⟨_, rfl⟩
  have havl : av < 65536 := by rw [hav]; exact hp.active
  have HCA := Lib.hid (show (Pol.cells p)[65]? = some (.int .u16 (av : Int)) by rw [hav]; exact Pol.cell_active hp)
  have HCIS := Lib.hid (Pol.caps_is p hp ha la)
  have HAT : Hid (∀ t, Pol.capAt p a la t = (av.testBit t && decide (Pol.own p t < 16) && Tag.has (Pol.downOf p (a : Int) la) (Pol.own p t : Int))) := Lib.hid (fun t => by rw [hav]; rfl)
  clear hp hla hE0 hL0 hB0 hw9 hav
  rw [← HCIS.out]
  generalize Pol.capAt p a la = F at HAT ⊢
  clear HCIS
  obtain ⟨l1, l2⟩ := la
  unfold Pol.val labV at HAC
  unfold Pol.val labV
  simp only at HAC ⊢
  generalize Pol.downOf p (a : Int) (l1, l2) = D at HAC HAT
  go_enter Tryz.func115, Tryz.ntmps115
  go_wp2_with fail
  rw [← HW9.out]
  go_loopw [7, 8] (fun v i wr => ∃ (k o : Nat), v = .int .u16 (o : Int) ∧ i = .int .i64 (k : Int) ∧ k ≤ 16 ∧ Hid (o = Pol.setTo F k) ∧ Hid (Below w9.heap.size w9 wr)) (fun _ i _ => 16 - (intOf i).toNat)
  case atStart => exact ⟨0, 0, rfl, rfl, by omega, Lib.hid rfl, Lib.hid (Below.refl _ _)⟩
  case round =>
    obtain ⟨k, o, rfl, rfl, hk, hO, hW⟩ := hrel
    by_cases hk16 : k = 16
    · subst hk16
      go_wp2_with fail
      go_ret
      exact ⟨by rw [hO.out]; rfl, below_here HB0.out hW.out⟩
    · have hkl : k < 16 := by omega
      have hki : (k : Int) < 16 := by omega
      have hol : o < 65536 := by rw [hO.out]; exact Pol.setTo_lt _ k (by omega)
      have hE := block_below hW.out HE0.out
      have hL := block_below hW.out HL0.out
      have hc0 := PolIn.cell hE 65 HCA.out
      have hco := PolIn.cell hE (49 + k) (Pol.cell_own HOK.out hkl)
      have hul := Pol.own_lt HOK.out k
      obtain ⟨c1, c2, c3, c4⟩ := pair_cells hL
      have hcl := World.block_lt_of_cell? wr _ c1
      have hcl0 := World.block_lt_of_cell? wr _ hc0
      have HP := Lib.hid (show ∀ W : World, (∃ X, W = over wr X) → W.rangeAt w.heap.size 0 (Pol.cells p) from by
        rintro W ⟨X, rfl⟩
        exact rangeAt_over (PolIn.range hE))
      have hnx : Pol.setTo F (k + 1) = if (av.testBit k && decide (Pol.own p k < 16) && Tag.has D (Pol.own p k : Int)) = true then o ||| 2 ^ k else o := by rw [← HAT.out k, hO.out]; rfl
      have HNX := Lib.hid hnx
      have HH := Lib.hid (fun w => hasb_ok av havl k hkl w)
      have HWO := Lib.hid (fun w => withb_ok o hol k hkl w)
      have HX := Lib.hid (HAC.out (Pol.own p k))
      obtain ⟨u, hu⟩ : ∃ u, u = Pol.own p k := ⟨_, rfl⟩
      rw [← hu] at hul HX HNX hco
      have hwu : IntKind.i64.wrap (u : Int) = (u : Int) := IntWalk.i64_in _ (by omega)
      generalize Tag.has D (u : Int) = d at HX HNX
      generalize av.testBit k = b at HH HNX
      clear hnx hE hL hO hk16 hu
      cases b with
      | false =>
        have HN2 := Lib.hid (show o = Pol.setTo F (k + 1) by rw [HNX.out]; simp)
        clear HNX HWO HX HP
        go_wp2_with fail
        refine wp_region_over (by kernel_rfl) (by kernel_rfl) ?_
        repeat (go_big_quiet_step (first
          | ((go_at_call 100; exact Calls.over_of ((HH.out _).mono fun e w' h => ⟨h.1, h.2 ▸ Below.refl _ _⟩)))))
        refine wpQuiet_nil ?_
        intro W7 hW7
        have hb7 := below_of_over hW7
        have hW3 := Lib.hid (below_here hW.out hb7)
        clear hW7 hb7
        go_wp2_with fail
        go_roundw
        case rel => exact ⟨k + 1, o, rfl, by go_num, by omega, HN2, hW3⟩
        case measure => simp [intOf]; omega
      | true =>
        by_cases hu16 : u < 16
        · have hui : (u : Int) < 16 := by omega
          have hud : decide ((u : Int) < 16) = true := decide_eq_true hui
          have HN : Hid (Pol.setTo F (k + 1) = if d = true then o ||| 2 ^ k else o) := Lib.hid (by rw [HNX.out]; simp [hu16])
          clear HNX
          go_wp2_with fail
          refine wp_region_over (by kernel_rfl) (by kernel_rfl) ?_
          repeat (first
            | (go_big_quiet_want; refine quiet_load_mid 30 (.tmp 3) rfl w.heap.size 0 rfl (Pol.cells p) _ HP.out Tryz.underlying30 rfl (by rw [hl66]; exact info_pol) ?_; go_big_quiet_on; simp only [Act.put, List.setIfInBounds_toArray, List.set_cons_succ, List.set_cons_zero])
            | go_big_quiet_step (first
              | ((go_at_call 100; exact Calls.over_of ((HH.out _).mono fun e w' h => ⟨h.1, h.2 ▸ Below.refl _ _⟩)))
              | ((go_at_call 175; exact Calls.over_of (HX.out _)))))
          refine wpQuiet_nil ?_
          intro W7 hW7
          have hb7 := below_of_over hW7
          have hW3 := Lib.hid (below_here hW.out hb7)
          clear hW7 hb7
          cases d with
          | false =>
            have HN2 := Lib.hid (show o = Pol.setTo F (k + 1) by rw [HN.out]; simp)
            clear HN
            go_wp2_with fail
            go_roundw
            case rel => exact ⟨k + 1, o, rfl, by go_num, by omega, HN2, hW3⟩
            case measure => simp [intOf]; omega
          | true =>
            have HN2 := Lib.hid (show o ||| 2 ^ k = Pol.setTo F (k + 1) by rw [HN.out]; simp)
            clear HN
            go_wp2_with (go_at_call 103; refine (HWO.out _).mono ?_; rintro e w1 ⟨rfl, hw1⟩; obtain rfl := hw1.symm)
            go_roundw
            case rel => exact ⟨k + 1, _, rfl, by go_num, by omega, HN2, hW3⟩
            case measure => simp [intOf]; omega
        · have hui : ¬ (u : Int) < 16 := by omega
          have hud : decide ((u : Int) < 16) = false := decide_eq_false hui
          have HN2 := Lib.hid (show o = Pol.setTo F (k + 1) by rw [HNX.out]; simp [hu16])
          clear HNX HWO HX HP
          go_wp2_with fail
          refine wp_region_over (by kernel_rfl) (by kernel_rfl) ?_
          repeat (go_big_quiet_step (first
            | ((go_at_call 100; exact Calls.over_of ((HH.out _).mono fun e w' h => ⟨h.1, h.2 ▸ Below.refl _ _⟩)))))
          refine wpQuiet_nil ?_
          intro W7 hW7
          have hb7 := below_of_over hW7
          have hW3 := Lib.hid (below_here hW.out hb7)
          clear hW7 hb7
          go_wp2_with fail
          go_roundw
          case rel => exact ⟨k + 1, o, rfl, by go_num, by omega, HN2, hW3⟩
          case measure => simp [intOf]; omega
end Go.Proofs.YtlmacaenbililaaGreatDoor
namespace Go.Proofs.YtlmacaenbililaaGreatDoor
open Go.RowKit Go.Shelf
set_option linter.unusedSimpArgs false
set_option linter.unusedVariables false
attribute [local go_sem] cell_over frozen_over

namespace Pol
def setLab (p : P) (r : Nat) (l : Lab.L) : P := { p with labels := p.labels.set r l }
def setAct (p : P) (r : Nat) (v : Nat) : P := { p with acts := p.acts.set r v }
def setOwn (p : P) (t : Nat) (v : Nat) : P := { p with owner := p.owner.set t v }
theorem setLab_ok {p : P} (h : Ok p) {l : Lab.L} (hl : Lab.ok l) (r : Nat) : Ok (setLab p r l) where
  live := h.live
  nlabels := by simp [setLab, h.nlabels]
  labels := fun a ha => by
    rcases List.mem_or_eq_of_mem_set ha with ha | rfl
    · exact h.labels a ha
    · exact hl
  nacts := h.nacts
  acts := h.acts
  nowner := h.nowner
  owner := h.owner
  active := h.active
theorem setAct_ok {p : P} (h : Ok p) {v : Nat} (hv : v < 65536) (r : Nat) : Ok (setAct p r v) where
  live := h.live
  nlabels := h.nlabels
  labels := h.labels
  nacts := by simp [setAct, h.nacts]
  acts := fun a ha => by
    rcases List.mem_or_eq_of_mem_set ha with ha | rfl
    · exact h.acts a ha
    · exact hv
  nowner := h.nowner
  owner := h.owner
  active := h.active
theorem setOwn_ok {p : P} (h : Ok p) {v : Nat} (hv : v < 256) (r : Nat) : Ok (setOwn p r v) where
  live := h.live
  nlabels := h.nlabels
  labels := h.labels
  nacts := h.nacts
  acts := h.acts
  nowner := by simp [setOwn, h.nowner]
  owner := fun a ha => by
    rcases List.mem_or_eq_of_mem_set ha with ha | rfl
    · exact h.owner a ha
    · exact hv
  active := h.active
theorem labC_set : ∀ (l : List Lab.L) (r : Nat) (a : Lab.L), labC (l.set r a) = ((labC l).set (r * 2) (.int .u16 (a.1 : Int))).set (r * 2 + 1) (.int .u16 (a.2 : Int))
  | [], r, a => rfl
  | x :: l, 0, a => rfl
  | x :: l, r + 1, a => by
    have e : ∀ (y : Lab.L) l, labC (y :: l) = .int .u16 (y.1 : Int) :: .int .u16 (y.2 : Int) :: labC l := fun _ _ => rfl
    rw [List.set_cons_succ, e, e, labC_set l r a, show (r + 1) * 2 = r * 2 + 1 + 1 by omega, show r * 2 + 1 + 1 + 1 = (r * 2 + 1) + 1 + 1 by omega]
    rfl
theorem cells_setLab {p : P} (h : Ok p) {r : Nat} (hr : r < 16) (l : Lab.L) : cells (setLab p r l) = ((cells p).set (1 + r * 2) (.int .u16 (l.1 : Int))).set (1 + r * 2 + 1) (.int .u16 (l.2 : Int)) := by
  unfold cells setLab
  simp only
  rw [labC_set, show 1 + r * 2 = r * 2 + 1 by omega, List.set_cons_succ, List.set_cons_succ]
  have h1 : r * 2 < (labC p.labels).length := by rw [labC_len, h.nlabels]; omega
  have h2 : r * 2 + 1 < (labC p.labels).length := by rw [labC_len, h.nlabels]; omega
  rw [List.set_append, if_pos h1, List.set_append, if_pos (by rw [List.length_set]; exact h2)]
theorem cells_setAct {p : P} (h : Ok p) {r : Nat} (hr : r < 16) (v : Nat) : cells (setAct p r v) = (cells p).set (33 + r) (.int .u16 (v : Int)) := by
  unfold cells setAct u16C
  simp only
  rw [List.map_set, show 33 + r = (32 + r) + 1 by omega, List.set_cons_succ, List.set_append, if_neg (by rw [labC_len, h.nlabels]; omega), labC_len, h.nlabels, show 32 + r - 2 * 16 = r by omega, List.set_append, if_pos (by rw [List.length_map, h.nacts]; exact hr)]
theorem cells_setOwn {p : P} (h : Ok p) {r : Nat} (hr : r < 16) (v : Nat) : cells (setOwn p r v) = (cells p).set (49 + r) (.int .u8 (v : Int)) := by
  unfold cells setOwn u16C u8C
  simp only
  rw [List.map_set, show 49 + r = (48 + r) + 1 by omega, List.set_cons_succ, List.set_append, if_neg (by rw [labC_len, h.nlabels]; omega), labC_len, h.nlabels, show 48 + r - 2 * 16 = 16 + r by omega, List.set_append, if_neg (by rw [List.length_map, h.nacts]; omega), List.length_map, h.nacts, show 16 + r - 16 = r by omega, List.set_append, if_pos (by rw [List.length_map, h.nowner]; exact hr)]
/-- One role, mended. -/
def mend0 (p : P) (k : Nat) : P := if p.live.testBit k = true then p else setAct (setLab p k (0, 0)) k 0
def mend1 (p : P) (k : Nat) : P := setLab p k ((lab p k).1 &&& p.active, (lab p k).2 &&& p.active)
def mend2 (p : P) (k : Nat) : P := setAct p k (Tag.less (act p k &&& p.live) (2 ^ k))
def mendTo (p : P) : Nat → P
  | 0 => p
  | k + 1 => mend2 (mend1 (mend0 (mendTo p k) k) k) k
/-- One tag, mended. -/
def mend3 (p : P) (k : Nat) : P := if (Tag.has p.live (own p k : Int) && p.active.testBit k) = true then p else setOwn p k 16
def mendOwn (p : P) : Nat → P
  | 0 => p
  | k + 1 => mend3 (mendOwn p k) k
def mend (p : P) : P := mendOwn (mendTo p 16) 16
theorem and_lt {a b : Nat} (h : a < 65536) : a &&& b < 65536 := Nat.lt_of_le_of_lt Nat.and_le_left h
theorem mend0_ok {p : P} (h : Ok p) (k : Nat) : Ok (mend0 p k) := by
  unfold mend0
  split
  · exact h
  · exact setAct_ok (setLab_ok h ⟨by decide, by decide⟩ k) (by omega) k
theorem mend1_ok {p : P} (h : Ok p) (k : Nat) : Ok (mend1 p k) := setLab_ok h ⟨and_lt (lab_ok h k).1, and_lt (lab_ok h k).2⟩ k
theorem mend2_ok {p : P} (h : Ok p) (k : Nat) : Ok (mend2 p k) := setAct_ok h (Tag.less_lt _ _) k
theorem mend3_ok {p : P} (h : Ok p) (k : Nat) : Ok (mend3 p k) := by
  unfold mend3
  split
  · exact h
  · exact setOwn_ok h (by omega) k
theorem mendTo_ok {p : P} (h : Ok p) : ∀ k, Ok (mendTo p k)
  | 0 => h
  | k + 1 => mend2_ok (mend1_ok (mend0_ok (mendTo_ok h k) k) k) k
theorem mendOwn_ok {p : P} (h : Ok p) : ∀ k, Ok (mendOwn p k)
  | 0 => h
  | k + 1 => mend3_ok (mendOwn_ok h k) k
theorem mend_ok {p : P} (h : Ok p) : Ok (mend p) := mendOwn_ok (mendTo_ok h 16) 16
end Pol
theorem PolIn.thaw {b : Nat} {p : Pol.P} {W : World} (h : PolIn b p W) (j : Nat) : W.frozen? ⟨b, j, none⟩ = false := by
  unfold PolIn at h
  simp [World.frozen?, h]
theorem PolIn.setLab {b : Nat} {p : Pol.P} {W : World} (h : PolIn b p W) (hp : Pol.Ok p) {r : Nat} (hr : r < 16) (l : Lab.L) : PolIn b (Pol.setLab p r l) (W.setCells b (1 + r * 2) [.int .u16 (l.1 : Int), .int .u16 (l.2 : Int)]) := by
  unfold PolIn at h ⊢
  rw [Pol.cells_setLab hp hr]
  simp [World.setCells, World.setCell, Array.getElem?_modify, h]
theorem PolIn.setAct {b : Nat} {p : Pol.P} {W : World} (h : PolIn b p W) (hp : Pol.Ok p) {r : Nat} (hr : r < 16) (v : Nat) : PolIn b (Pol.setAct p r v) (W.setCell ⟨b, 33 + r, none⟩ (.int .u16 (v : Int))) := by
  unfold PolIn at h ⊢
  rw [Pol.cells_setAct hp hr]
  simp [World.setCell, Array.getElem?_modify, h]
theorem PolIn.setOwn {b : Nat} {p : Pol.P} {W : World} (h : PolIn b p W) (hp : Pol.Ok p) {r : Nat} (hr : r < 16) (v : Nat) : PolIn b (Pol.setOwn p r v) (W.setCell ⟨b, 49 + r, none⟩ (.int .u8 (v : Int))) := by
  unfold PolIn at h ⊢
  rw [Pol.cells_setOwn hp hr]
  simp [World.setCell, Array.getElem?_modify, h]
def Pol.zeroP : Pol.P := ⟨0, List.replicate 16 (0, 0), List.replicate 16 0, List.replicate 16 0, 0⟩
theorem PolIn.there {b : Nat} {p : Pol.P} {W : World} (h : PolIn b p W) (hp : Pol.Ok p) (o n : Nat) (hn : o + n ≤ 66) : W.there b o n := there_of_block h o n (by rw [List.size_toArray, Pol.cells_len hp]; exact hn)
/-- The policy in its block, the result's block, and all that was there before. -/
structure MEnv (w : World) (p : Pol.P) (W : World) : Prop where
  pol : PolIn w.heap.size p W
  res : PolIn (w.heap.size + 1) Pol.zeroP W
  low : Below w.heap.size w W
theorem MEnv.call {w W V : World} {p : Pol.P} (h : MEnv w p W) (hb : Below W.heap.size W V) : MEnv w p V := ⟨block_below hb h.pol, block_below hb h.res, below_here h.low hb⟩
theorem MEnv.setLab {w W : World} {p : Pol.P} (h : MEnv w p W) (hp : Pol.Ok p) {r : Nat} (hr : r < 16) (l : Lab.L) : MEnv w (Pol.setLab p r l) (W.setCells w.heap.size (1 + r * 2) [.int .u16 (l.1 : Int), .int .u16 (l.2 : Int)]) :=
  ⟨h.pol.setLab hp hr l, (heap_setCells_other w.heap.size _ _ W (w.heap.size + 1) (by omega)).trans h.res, below_setCells h.low (Nat.le_refl _) _ _⟩
theorem MEnv.setAct {w W : World} {p : Pol.P} (h : MEnv w p W) (hp : Pol.Ok p) {r : Nat} (hr : r < 16) (v : Nat) : MEnv w (Pol.setAct p r v) (W.setCell ⟨w.heap.size, 33 + r, none⟩ (.int .u16 (v : Int))) :=
  ⟨h.pol.setAct hp hr v, (Below.heap_setCell W ⟨w.heap.size, 33 + r, none⟩ _ (w.heap.size + 1) (by simp)).trans h.res, h.low.setCell (p := ⟨w.heap.size, 33 + r, none⟩) (Nat.le_refl _) _⟩
theorem MEnv.setOwn {w W : World} {p : Pol.P} (h : MEnv w p W) (hp : Pol.Ok p) {r : Nat} (hr : r < 16) (v : Nat) : MEnv w (Pol.setOwn p r v) (W.setCell ⟨w.heap.size, 49 + r, none⟩ (.int .u8 (v : Int))) :=
  ⟨h.pol.setOwn hp hr v, (Below.heap_setCell W ⟨w.heap.size, 49 + r, none⟩ _ (w.heap.size + 1) (by simp)).trans h.res, h.low.setCell (p := ⟨w.heap.size, 49 + r, none⟩) (Nat.le_refl _) _⟩
set_option maxRecDepth 100000 in
set_option maxHeartbeats 16000000 in
theorem rmend_ok (p : Pol.P) (hp : Pol.Ok p) (w : World) :
    Calls Tryz.prog 43 #[Pol.val p] w fun e w' => e = .returned (Pol.val (Pol.mend p)) ∧ Below w.heap.size w w' := by
  have hE0 : PolIn w.heap.size p ((w.alloc (.cells (Pol.cells p).toArray 30)).alloc (.cells Tryz.zeroCells30 30)) := block_below (below_fresh _ _) (heap_alloc_new w _)
  have hR0 : PolIn (w.heap.size + 1) Pol.zeroP ((w.alloc (.cells (Pol.cells p).toArray 30)).alloc (.cells Tryz.zeroCells30 30)) := by
    have h := heap_alloc_new (w.alloc (.cells (Pol.cells p).toArray 30)) (.cells Tryz.zeroCells30 30)
    rw [World.size_alloc] at h
    exact h
  have HM0 := Lib.hid (show MEnv w p _ from ⟨hE0, hR0, below_new (below_fresh w _) _⟩)
  have HOK := Lib.hid hp
  obtain ⟨RES, hRES⟩ : ∃ RES, RES = Pol.mend p := ⟨_, rfl⟩
  rw [← hRES]
  have HRES := Lib.hid hRES
  clear hp hE0 hR0 hRES
  unfold Pol.val
  go_enter Tryz.func43, Tryz.ntmps43
  go_wp2_with fail
  generalize (w.alloc (.cells (Pol.cells p).toArray 30)).alloc (.cells Tryz.zeroCells30 30) = w0 at HM0 ⊢
  go_loopw [3, 4] (fun i _ wr => ∃ (k : Nat), i = .int .i64 (k : Int) ∧ k ≤ 16 ∧ Hid (MEnv w (Pol.mendTo p k) wr)) (fun i _ _ => 16 - (intOf i).toNat)
  case atStart => exact ⟨0, rfl, by omega, HM0⟩
  case round =>
    obtain ⟨k, rfl, hk, hM⟩ := hrel
    by_cases hk16 : k = 16
    · subst hk16
      have HOM := Lib.hid (Pol.mendTo_ok HOK.out 16)
      have HMD : Hid (RES = Pol.mendOwn (Pol.mendTo p 16) 16) := Lib.hid (by rw [HRES.out]; rfl)
      clear HM0 HRES
      generalize Pol.mendTo p 16 = pm at hM HOM HMD
      go_wp2_with fail
      go_loopw [5] (fun i wr => ∃ (k : Nat), i = .int .i64 (k : Int) ∧ k ≤ 16 ∧ Hid (MEnv w (Pol.mendOwn pm k) wr)) (fun i _ => 16 - (intOf i).toNat)
      case atStart => exact ⟨0, rfl, by omega, hM⟩
      case round =>
        obtain ⟨k, rfl, hk, hM⟩ := hrel
        have HPO := Lib.hid (Pol.mendOwn_ok HOM.out k)
        by_cases hk16 : k = 16
        · subst hk16
          rw [← HMD.out] at hM HPO
          obtain ⟨pe, hpe⟩ : ∃ pe, pe = RES := ⟨_, rfl⟩
          subst hpe
          have hl66 := Pol.cells_len HPO.out
          have hre : PolIn (w.heap.size + 1) pe (wr.setCells (w.heap.size + 1) 0 (Pol.cells pe)) := by
            have h := heap_setCells_same (w.heap.size + 1) 30 (Pol.cells pe) 0 wr (Pol.cells Pol.zeroP) hM.out.res (by rw [hl66]; exact Nat.le_refl 66)
            unfold PolIn
            rw [h]
            unfold splice
            rw [List.take_zero, List.nil_append, List.drop_eq_nil_of_le (by rw [hl66]; exact Nat.le_refl 66), List.append_nil]
          have hth : wr.there (w.heap.size + 1) 0 (Pol.cells pe).toArray.size := there_of_block hM.out.res 0 _ (by rw [List.size_toArray, hl66]; exact Nat.le_refl 66)
          have HRE := Lib.hid hre
          have hlo := hM.out.low
          clear hre
          go_wp2_with (first
            | (refine wpList_load_mid rfl 30 (.tmp 1) rfl w.heap.size 0 rfl (Pol.cells pe) _ hM.out.pol.range Tryz.underlying30 rfl (by rw [hl66]; exact info_pol) ?_)
            | (refine wpList_store_mid rfl 30 _ _ rfl (w.heap.size + 1) 0 (Pol.cells pe).toArray rfl rfl hth (by rw [List.size_toArray, hl66]; exact info_pol) (all_oneCell_toArray (Pol.cells_one pe)) ?_))
          exact ret_cell rfl (w.heap.size + 1) 0 rfl (Pol.cells pe) _ HRE.out.range Tryz.underlying30 rfl (by rw [hl66]; exact info_pol) rfl ⟨rfl, below_setCells hlo (Nat.le_succ _) _ _⟩
        · have hkl : k < 16 := by omega
          have hki : (k : Int) < 16 := by omega
          have HNX : Hid (Pol.mendOwn pm (k + 1) = Pol.mend3 (Pol.mendOwn pm k) k) := Lib.hid rfl
          generalize Pol.mendOwn pm k = p0 at hM HPO HNX
          have HM3D : Hid (Pol.mend3 p0 k = if (Tag.has p0.live (Pol.own p0 k : Int) && p0.active.testBit k) = true then p0 else Pol.setOwn p0 k 16) := Lib.hid rfl
          have hcl := hM.out.pol.cell 0 (Pol.cell_live p0)
          have hca := hM.out.pol.cell 65 (Pol.cell_active HPO.out)
          have hco := hM.out.pol.cell (49 + k) (Pol.cell_own HPO.out hkl)
          have hlv := HPO.out.live
          have hav := HPO.out.active
          have hol := Pol.own_lt HPO.out k
          have hwl := hM.out.pol.lt
          generalize p0.live = lv at hcl hlv HM3D
          generalize p0.active = av at hca hav HM3D
          generalize Pol.own p0 k = u at hco hol HM3D
          have hwu : IntKind.i64.wrap (u : Int) = (u : Int) := IntWalk.i64_in _ (by omega)
          have HH1 := Lib.hid (fun w => rhas_ok lv hlv (u : Int) w)
          have HH2 := Lib.hid (fun w => hasb_ok av hav k hkl w)
          generalize Tag.has lv (u : Int) = x at HH1 HM3D
          generalize av.testBit k = y at HH2 HM3D
          clear hk16
          go_wp2_with fail
          refine wp_region_over (by kernel_rfl) (by kernel_rfl) ?_
          cases x with
          | false =>
            repeat (go_big_quiet_step (first
              | ((go_at_call 100; with_reducible exact Calls.over_of ((HH1.out _).mono fun e w' h => ⟨h.1, h.2 ▸ Below.refl _ _⟩)))
              | ((go_at_call 100; with_reducible exact Calls.over_of ((HH2.out _).mono fun e w' h => ⟨h.1, h.2 ▸ Below.refl _ _⟩)))))
            refine wpQuiet_nil ?_
            intro W8 hW8
            have hb8 := below_of_over hW8
            have HE7 := Lib.hid (hM.out.call hb8)
            clear hW8 hb8 hca hcl hco hM HH1 HH2 hwl
            have hca := HE7.out.pol.cell (49 + k) (Pol.cell_own HPO.out hkl)
            have hfz := HE7.out.pol.thaw (49 + k)
            have hwl8 := HE7.out.pol.lt
            have HE8 := Lib.hid (show MEnv w (Pol.mendOwn pm (k + 1)) (W8.setCell ⟨w.heap.size, 49 + k, none⟩ (.int .u8 16)) by rw [HNX.out, HM3D.out, if_neg (by simp)]; exact HE7.out.setOwn HPO.out hkl 16)
            go_wp2_with fail
            go_roundw
            case rel => exact ⟨k + 1, by go_num, by omega, HE8⟩
            case measure => simp [intOf]; omega
          | true =>
            repeat (go_big_quiet_step (first
              | ((go_at_call 100; with_reducible exact Calls.over_of ((HH1.out _).mono fun e w' h => ⟨h.1, h.2 ▸ Below.refl _ _⟩)))
              | ((go_at_call 100; with_reducible exact Calls.over_of ((HH2.out _).mono fun e w' h => ⟨h.1, h.2 ▸ Below.refl _ _⟩)))))
            refine wpQuiet_nil ?_
            intro W8 hW8
            have hb8 := below_of_over hW8
            have HE7 := Lib.hid (hM.out.call hb8)
            clear hW8 hb8 hca hcl hco hM HH1 HH2 hwl
            cases y with
            | true =>
              have HE8 := Lib.hid (show MEnv w (Pol.mendOwn pm (k + 1)) W8 by rw [HNX.out, HM3D.out, if_pos (by simp)]; exact HE7.out)
              go_wp2_with fail
              go_roundw
              case rel => exact ⟨k + 1, by go_num, by omega, HE8⟩
              case measure => simp [intOf]; omega
            | false =>
              have hca := HE7.out.pol.cell (49 + k) (Pol.cell_own HPO.out hkl)
              have hfz := HE7.out.pol.thaw (49 + k)
              have hwl8 := HE7.out.pol.lt
              have HE8 := Lib.hid (show MEnv w (Pol.mendOwn pm (k + 1)) (W8.setCell ⟨w.heap.size, 49 + k, none⟩ (.int .u8 16)) by rw [HNX.out, HM3D.out, if_neg (by simp)]; exact HE7.out.setOwn HPO.out hkl 16)
              go_wp2_with fail
              go_roundw
              case rel => exact ⟨k + 1, by go_num, by omega, HE8⟩
              case measure => simp [intOf]; omega
    · have hkl : k < 16 := by omega
      have hki : (k : Int) < 16 := by omega
      have HPO := Lib.hid (Pol.mendTo_ok HOK.out k)
      have HNX : Hid (Pol.mendTo p (k + 1) = Pol.mend2 (Pol.mend1 (Pol.mend0 (Pol.mendTo p k) k) k) k) := Lib.hid rfl
      generalize Pol.mendTo p k = p0 at hM HPO HNX
      have hcl := hM.out.pol.cell 0 (Pol.cell_live p0)
      have hlv := HPO.out.live
      have hwl := hM.out.pol.lt
      have HH := Lib.hid (fun w => hasb_ok p0.live hlv k hkl w)
      have HMX : Hid (p0.live.testBit k = true → Pol.mend0 p0 k = p0) := Lib.hid (fun h => if_pos h)
      have HMY : Hid (p0.live.testBit k = false → Pol.mend0 p0 k = Pol.setAct (Pol.setLab p0 k (0, 0)) k 0) := Lib.hid (fun h => if_neg (by rw [h]; simp))
      generalize p0.live.testBit k = b at HH HMX HMY
      generalize p0.live = lv at hcl hlv HH
      clear hk16 HM0
      cases b with
      | true =>
        have HMX' := Lib.hid (HMX.out rfl)
        clear HMX HMY
        have HM1 := Lib.hid (show MEnv w (Pol.mend0 p0 k) wr by rw [HMX'.out]; exact hM.out)
        have HO1 := Lib.hid (Pol.mend0_ok HPO.out k)
        generalize Pol.mend0 p0 k = p1 at HM1 HO1 HNX HMX'
        go_wp2_with (go_at_call 100; refine (HH.out _).mono ?_; rintro e w1 ⟨rfl, hw1⟩; obtain rfl := hw1.symm; clear hM HH HPO HMX' hcl; have hb1 := HM1.out.pol.lab1 HO1.out hkl; have hb2 := HM1.out.pol.lab2 HO1.out hkl)
        clear hb1 hb2
        obtain ⟨w3, rfl⟩ : ∃ w3 : World, w3 = wr := ⟨_, rfl⟩
        have HE4 := Lib.hid (HM1.out.call (below_fresh w3 (.cells #[.int .u16 ((Pol.lab p1 k).1 : Int), .int .u16 ((Pol.lab p1 k).2 : Int)] 25)))
        have HL4 := Lib.hid (heap_alloc_new w3 (.cells #[.int .u16 ((Pol.lab p1 k).1 : Int), .int .u16 ((Pol.lab p1 k).2 : Int)] 25))
        have HM1D : Hid (Pol.mend1 p1 k = Pol.setLab p1 k ((Pol.lab p1 k).1 &&& p1.active, (Pol.lab p1 k).2 &&& p1.active)) := Lib.hid rfl
        have hlk := Pol.lab_ok HO1.out k
        have hca := HE4.out.pol.cell 65 (Pol.cell_active HO1.out)
        have hav := HO1.out.active
        generalize p1.active = av at hca hav HM1D
        generalize Pol.lab p1 k = q at HE4 HL4 HM1D hlk hca ⊢
        obtain ⟨q1, q2⟩ := q
        dsimp only at HE4 HL4 HM1D hlk hca ⊢
        have HAN1 := Lib.hid (fun w => rand_ok q1 av hlk.1 hav w)
        have HAN2 := Lib.hid (fun w => rand_ok q2 av hlk.2 hav w)
        have hx1 : q1 &&& av < 65536 := Pol.and_lt hlk.1
        have hx2 : q2 &&& av < 65536 := Pol.and_lt hlk.2
        generalize q1 &&& av = x1 at HAN1 HM1D hx1
        generalize q2 &&& av = x2 at HAN2 HM1D hx2
        clear hlk
        generalize w3.heap.size = BX at HL4 ⊢
        generalize w3.alloc (.cells #[.int .u16 (q1 : Int), .int .u16 (q2 : Int)] 25) = w4 at HE4 HL4 hca ⊢
        obtain ⟨c1, c2, c3, c4⟩ := pair_cells HL4.out
        have hcl := World.block_lt_of_cell? w4 _ c1
        have hcl2 := World.block_lt_of_cell? w4 _ hca
        try simp only [Act.put]
        refine wp_region_over_tail 14 (by kernel_rfl) (by kernel_rfl) ?_
        simp only [List.take_succ_cons, List.take_zero, List.drop_succ_cons, List.drop_zero]
        repeat (go_big_quiet_step (first
          | ((go_at_call 101; with_reducible exact Calls.over_of ((HAN1.out _).mono fun e w' h => ⟨h.1, h.2 ▸ Below.refl _ _⟩)))
          | ((go_at_call 101; with_reducible exact Calls.over_of ((HAN2.out _).mono fun e w' h => ⟨h.1, h.2 ▸ Below.refl _ _⟩)))))
        refine wpQuiet_nil ?_
        intro W7 hW7
        have hb7 := below_of_over hW7
        have HE5 := Lib.hid (HE4.out.call hb7)
        have hth := HE5.out.pol.there HO1.out (1 + k * 2) 2 (by omega)
        clear hW7 hb7 c1 c2 c3 c4 hcl hcl2 hca HL4 HE4 HM1 HAN1 HAN2
        have hO2 := Pol.mend1_ok HO1.out k
        have HO2 := Lib.hid hO2
        clear hO2
        go_wp2_with (refine wpList_store_mid rfl 25 (.tmp 39) (.tmp 37) rfl w.heap.size (1 + k * 2) #[.int .u16 (x1 : Int), .int .u16 (x2 : Int)] rfl rfl hth info_lab (by simp [Value.oneCell']) ?_; have HE6 := Lib.hid (show MEnv w (Pol.mend1 p1 k) (W7.setCells w.heap.size (1 + k * 2) [.int .u16 (x1 : Int), .int .u16 (x2 : Int)]) by rw [HM1D.out]; exact (HE5.out.setLab HO1.out hkl (x1, x2))); show wpList _ _ _ _ _ (W7.setCells w.heap.size (1 + k * 2) [.int .u16 (x1 : Int), .int .u16 (x2 : Int)]); generalize W7.setCells w.heap.size (1 + k * 2) [.int .u16 (x1 : Int), .int .u16 (x2 : Int)] = w6 at HE6 ⊢)
        clear hth HE5 HM1D
        simp only [Act.put]
        generalize Pol.mend1 p1 k = p2 at HE6 HO2 HNX
        have HM2D : Hid (Pol.mend2 p2 k = Pol.setAct p2 k (Tag.less (Pol.act p2 k &&& p2.live) (2 ^ k))) := Lib.hid rfl
        have hca := HE6.out.pol.cell (33 + k) (Pol.cell_act HO2.out hkl)
        have hcl := HE6.out.pol.cell 0 (Pol.cell_live p2)
        have hal := Pol.act_lt HO2.out k
        have hll := HO2.out.live
        generalize Pol.act p2 k = x at hca hal HM2D
        generalize p2.live = l2 at hcl hll HM2D
        have HAN3 := Lib.hid (fun w => rand_ok x l2 hal hll w)
        have hy : x &&& l2 < 65536 := Pol.and_lt hal
        generalize x &&& l2 = y at HAN3 hy HM2D
        have HWB := Lib.hid (fun w => withb_ok 0 (by omega) k hkl w)
        rw [Nat.zero_or] at HWB
        have HLE := Lib.hid (fun w => rless_ok y (2 ^ k) hy (p16 hkl) w)
        obtain ⟨pk, hpk⟩ : ∃ pk, pk = 2 ^ k := ⟨_, rfl⟩
        rw [← hpk] at HWB HLE HM2D
        generalize Tag.less y pk = z at HLE HM2D
        clear hpk
        have hwl6 := HE6.out.pol.lt
        refine wp_region_over_tail 13 (by kernel_rfl) (by kernel_rfl) ?_
        simp only [List.take_succ_cons, List.take_zero, List.drop_succ_cons, List.drop_zero]
        repeat (go_big_quiet_step (first
          | ((go_at_call 101; exact Calls.over_of ((HAN3.out _).mono fun e w' h => ⟨h.1, h.2 ▸ Below.refl _ _⟩)))
          | ((go_at_call 103; exact Calls.over_of ((HWB.out _).mono fun e w' h => ⟨h.1, h.2 ▸ Below.refl _ _⟩)))
          | ((go_at_call 102; exact Calls.over_of ((HLE.out _).mono fun e w' h => ⟨h.1, h.2 ▸ Below.refl _ _⟩)))))
        refine wpQuiet_nil ?_
        intro W8 hW8
        have hb8 := below_of_over hW8
        have HE7 := Lib.hid (HE6.out.call hb8)
        clear hW8 hb8 hca hcl HE6 HAN3 HWB HLE hwl6
        have hca := HE7.out.pol.cell (33 + k) (Pol.cell_act HO2.out hkl)
        have hfz := HE7.out.pol.thaw (33 + k)
        have hwl8 := HE7.out.pol.lt
        have HE8 := Lib.hid (show MEnv w (Pol.mend2 p2 k) (W8.setCell ⟨w.heap.size, 33 + k, none⟩ (.int .u16 (z : Int))) by rw [HM2D.out]; exact HE7.out.setAct HO2.out hkl z)
        rw [← HNX.out] at HE8
        go_wp2_with fail
        go_roundw
        case rel => exact ⟨k + 1, by go_num, by omega, HE8⟩
        case measure => simp [intOf]; omega
      | false =>
        have HMY' := Lib.hid (HMY.out rfl)
        clear HMX HMY
        have HO1 := Lib.hid (Pol.mend0_ok HPO.out k)
        have hth := hM.out.pol.there HPO.out (1 + k * 2) 2 (by omega)
        have HOA := Lib.hid (Pol.setLab_ok HPO.out (show Lab.ok (0, 0) from ⟨by decide, by decide⟩) k)
        go_wp2_with (first
          | (go_at_call 100; refine (HH.out _).mono ?_; rintro e w1 ⟨rfl, hw1⟩; obtain rfl := hw1.symm)
          | (refine wpList_store_mid rfl 25 (.tmp 18) (.tmp 16) rfl w.heap.size (1 + k * 2) #[.int .u16 0, .int .u16 0] rfl rfl hth info_lab (by simp [Value.oneCell']) ?_; have HMA := Lib.hid (show MEnv w (Pol.setLab p0 k (0, 0)) (wr.setCells w.heap.size (1 + k * 2) [.int .u16 0, .int .u16 0]) from hM.out.setLab HPO.out hkl (0, 0)); show wpList _ _ _ _ _ (wr.setCells w.heap.size (1 + k * 2) [.int .u16 0, .int .u16 0]); generalize wr.setCells w.heap.size (1 + k * 2) [.int .u16 0, .int .u16 0] = w2 at HMA ⊢; have HMB := Lib.hid (show MEnv w (Pol.mend0 p0 k) (w2.setCell ⟨w.heap.size, 33 + k, none⟩ (.int .u16 0)) by rw [HMY'.out]; exact HMA.out.setAct HOA.out hkl 0); have hca := HMA.out.pol.cell (33 + k) (Pol.cell_act HOA.out hkl); have hfz := HMA.out.pol.thaw (33 + k); have hb1 := HMB.out.pol.lab1 HO1.out hkl; have hb2 := HMB.out.pol.lab2 HO1.out hkl; have hwl2 := HMA.out.pol.lt))
        have HM1 := HMB
        clear HMB HMA hca hfz hb1 hb2 hth HOA HMY' hM HH HPO hcl hwl2
        have hz : (w2.setCell ⟨w.heap.size, 33 + k, none⟩ (.int .u16 0)).heap.size = w2.heap.size := by simp [World.setCell]
        generalize w2.setCell ⟨w.heap.size, 33 + k, none⟩ (.int .u16 0) = w3 at HM1 hz ⊢
        rw [← hz]
        clear hz
        generalize Pol.mend0 p0 k = p1 at HM1 HO1 HNX ⊢
        have HE4 := Lib.hid (HM1.out.call (below_fresh w3 (.cells #[.int .u16 ((Pol.lab p1 k).1 : Int), .int .u16 ((Pol.lab p1 k).2 : Int)] 25)))
        have HL4 := Lib.hid (heap_alloc_new w3 (.cells #[.int .u16 ((Pol.lab p1 k).1 : Int), .int .u16 ((Pol.lab p1 k).2 : Int)] 25))
        have HM1D : Hid (Pol.mend1 p1 k = Pol.setLab p1 k ((Pol.lab p1 k).1 &&& p1.active, (Pol.lab p1 k).2 &&& p1.active)) := Lib.hid rfl
        have hlk := Pol.lab_ok HO1.out k
        have hca := HE4.out.pol.cell 65 (Pol.cell_active HO1.out)
        have hav := HO1.out.active
        generalize p1.active = av at hca hav HM1D
        generalize Pol.lab p1 k = q at HE4 HL4 HM1D hlk hca ⊢
        obtain ⟨q1, q2⟩ := q
        dsimp only at HE4 HL4 HM1D hlk hca ⊢
        have HAN1 := Lib.hid (fun w => rand_ok q1 av hlk.1 hav w)
        have HAN2 := Lib.hid (fun w => rand_ok q2 av hlk.2 hav w)
        have hx1 : q1 &&& av < 65536 := Pol.and_lt hlk.1
        have hx2 : q2 &&& av < 65536 := Pol.and_lt hlk.2
        generalize q1 &&& av = x1 at HAN1 HM1D hx1
        generalize q2 &&& av = x2 at HAN2 HM1D hx2
        clear hlk
        generalize w3.heap.size = BX at HL4 ⊢
        generalize w3.alloc (.cells #[.int .u16 (q1 : Int), .int .u16 (q2 : Int)] 25) = w4 at HE4 HL4 hca ⊢
        obtain ⟨c1, c2, c3, c4⟩ := pair_cells HL4.out
        have hcl := World.block_lt_of_cell? w4 _ c1
        have hcl2 := World.block_lt_of_cell? w4 _ hca
        try simp only [Act.put]
        refine wp_region_over_tail 14 (by kernel_rfl) (by kernel_rfl) ?_
        simp only [List.take_succ_cons, List.take_zero, List.drop_succ_cons, List.drop_zero]
        repeat (go_big_quiet_step (first
          | ((go_at_call 101; with_reducible exact Calls.over_of ((HAN1.out _).mono fun e w' h => ⟨h.1, h.2 ▸ Below.refl _ _⟩)))
          | ((go_at_call 101; with_reducible exact Calls.over_of ((HAN2.out _).mono fun e w' h => ⟨h.1, h.2 ▸ Below.refl _ _⟩)))))
        refine wpQuiet_nil ?_
        intro W7 hW7
        have hb7 := below_of_over hW7
        have HE5 := Lib.hid (HE4.out.call hb7)
        have hth := HE5.out.pol.there HO1.out (1 + k * 2) 2 (by omega)
        clear hW7 hb7 c1 c2 c3 c4 hcl hcl2 hca HL4 HE4 HM1 HAN1 HAN2
        have hO2 := Pol.mend1_ok HO1.out k
        have HO2 := Lib.hid hO2
        clear hO2
        go_wp2_with (refine wpList_store_mid rfl 25 (.tmp 39) (.tmp 37) rfl w.heap.size (1 + k * 2) #[.int .u16 (x1 : Int), .int .u16 (x2 : Int)] rfl rfl hth info_lab (by simp [Value.oneCell']) ?_; have HE6 := Lib.hid (show MEnv w (Pol.mend1 p1 k) (W7.setCells w.heap.size (1 + k * 2) [.int .u16 (x1 : Int), .int .u16 (x2 : Int)]) by rw [HM1D.out]; exact (HE5.out.setLab HO1.out hkl (x1, x2))); show wpList _ _ _ _ _ (W7.setCells w.heap.size (1 + k * 2) [.int .u16 (x1 : Int), .int .u16 (x2 : Int)]); generalize W7.setCells w.heap.size (1 + k * 2) [.int .u16 (x1 : Int), .int .u16 (x2 : Int)] = w6 at HE6 ⊢)
        clear hth HE5 HM1D
        simp only [Act.put]
        generalize Pol.mend1 p1 k = p2 at HE6 HO2 HNX
        have HM2D : Hid (Pol.mend2 p2 k = Pol.setAct p2 k (Tag.less (Pol.act p2 k &&& p2.live) (2 ^ k))) := Lib.hid rfl
        have hca := HE6.out.pol.cell (33 + k) (Pol.cell_act HO2.out hkl)
        have hcl := HE6.out.pol.cell 0 (Pol.cell_live p2)
        have hal := Pol.act_lt HO2.out k
        have hll := HO2.out.live
        generalize Pol.act p2 k = x at hca hal HM2D
        generalize p2.live = l2 at hcl hll HM2D
        have HAN3 := Lib.hid (fun w => rand_ok x l2 hal hll w)
        have hy : x &&& l2 < 65536 := Pol.and_lt hal
        generalize x &&& l2 = y at HAN3 hy HM2D
        have HWB := Lib.hid (fun w => withb_ok 0 (by omega) k hkl w)
        rw [Nat.zero_or] at HWB
        have HLE := Lib.hid (fun w => rless_ok y (2 ^ k) hy (p16 hkl) w)
        obtain ⟨pk, hpk⟩ : ∃ pk, pk = 2 ^ k := ⟨_, rfl⟩
        rw [← hpk] at HWB HLE HM2D
        generalize Tag.less y pk = z at HLE HM2D
        clear hpk
        have hwl6 := HE6.out.pol.lt
        refine wp_region_over_tail 13 (by kernel_rfl) (by kernel_rfl) ?_
        simp only [List.take_succ_cons, List.take_zero, List.drop_succ_cons, List.drop_zero]
        repeat (go_big_quiet_step (first
          | ((go_at_call 101; exact Calls.over_of ((HAN3.out _).mono fun e w' h => ⟨h.1, h.2 ▸ Below.refl _ _⟩)))
          | ((go_at_call 103; exact Calls.over_of ((HWB.out _).mono fun e w' h => ⟨h.1, h.2 ▸ Below.refl _ _⟩)))
          | ((go_at_call 102; exact Calls.over_of ((HLE.out _).mono fun e w' h => ⟨h.1, h.2 ▸ Below.refl _ _⟩)))))
        refine wpQuiet_nil ?_
        intro W8 hW8
        have hb8 := below_of_over hW8
        have HE7 := Lib.hid (HE6.out.call hb8)
        clear hW8 hb8 hca hcl HE6 HAN3 HWB HLE hwl6
        have hca := HE7.out.pol.cell (33 + k) (Pol.cell_act HO2.out hkl)
        have hfz := HE7.out.pol.thaw (33 + k)
        have hwl8 := HE7.out.pol.lt
        have HE8 := Lib.hid (show MEnv w (Pol.mend2 p2 k) (W8.setCell ⟨w.heap.size, 33 + k, none⟩ (.int .u16 (z : Int))) by rw [HM2D.out]; exact HE7.out.setAct HO2.out hkl z)
        rw [← HNX.out] at HE8
        go_wp2_with fail
        go_roundw
        case rel => exact ⟨k + 1, by go_num, by omega, HE8⟩
        case measure => simp [intOf]; omega
end Go.Proofs.YtlmacaenbililaaGreatDoor
namespace Go.Proofs.YtlmacaenbililaaGreatDoor
open Go.RowKit Go.Shelf
set_option linter.unusedSimpArgs false
set_option linter.unusedVariables false
attribute [local go_sem] cell_over frozen_over

namespace Gr
def cutF (g : List Nat) (w x b : Nat) : Bool := w.testBit x && w.testBit b && (g.getD x 0).testBit b
def cutAt (g : List Nat) (w a k x : Nat) : Nat := if x < a then Pol.setTo (cutF g w x) 16 else if x = a then Pol.setTo (cutF g w a) k else 0
def cutRow (g : List Nat) (w a k : Nat) : List Nat := (List.range 16).map (cutAt g w a k)
def cut (g : List Nat) (w : Nat) : List Nat := (List.range 16).map fun x => Pol.setTo (cutF g w x) 16
theorem cutRow_len (g : List Nat) (w a k : Nat) : (cutRow g w a k).length = 16 := by simp [cutRow]
theorem cutRow_zero (g : List Nat) (w : Nat) : cutRow g w 0 0 = zero16 := by
  have : cutRow g w 0 0 = (List.range 16).map fun _ => 0 := List.map_congr_left fun x _ => by
    unfold cutAt
    rw [if_neg (by omega)]
    split <;> rfl
  rw [this]
  rfl
theorem cutRow_next (g : List Nat) (w a : Nat) : cutRow g w a 16 = cutRow g w (a + 1) 0 := List.map_congr_left fun x _ => by
  unfold cutAt
  by_cases h1 : x < a
  · rw [if_pos h1, if_pos (by omega)]
  · rw [if_neg h1]
    by_cases h2 : x = a
    · subst h2
      rw [if_pos rfl, if_pos (by omega)]
    · rw [if_neg h2, if_neg (by omega)]
      split <;> rfl
theorem cutRow_all (g : List Nat) (w : Nat) : cutRow g w 16 0 = cut g w := List.map_congr_left fun x hx => by
  unfold cutAt
  rw [if_pos (by simpa using hx)]
theorem cutAt_self (g : List Nat) (w a k : Nat) : cutAt g w a k a = Pol.setTo (cutF g w a) k := by
  unfold cutAt
  rw [if_neg (by omega), if_pos rfl]
theorem cutRow_get (g : List Nat) (w a k : Nat) {x : Nat} (hx : x < 16) : (cutRow g w a k).getD x 0 = cutAt g w a k x := by
  unfold cutRow
  rw [List.getD_eq_getElem?_getD, List.getElem?_map, List.getElem?_range hx]; rfl
theorem cutRow_yes {g : List Nat} {w a k : Nat} (ha : a < 16) (h : cutF g w a k = true) : (cutRow g w a k).set a (Pol.setTo (cutF g w a) k ||| 2 ^ k) = cutRow g w a (k + 1) := by
  refine List.ext_getElem? fun i => ?_
  rw [List.getElem?_set]
  unfold cutRow
  by_cases e : a = i
  · subst e
    rw [if_pos rfl, if_pos (by simp; exact ha), List.getElem?_map, List.getElem?_range ha, Option.map_some, cutAt_self]
    congr 1
    show _ = if cutF g w a k = true then _ else _
    rw [if_pos h]
  · rw [if_neg e, List.getElem?_map, List.getElem?_map]
    rcases Nat.lt_or_ge i 16 with h1 | h1
    · rw [List.getElem?_range h1, Option.map_some, Option.map_some]
      congr 1
      unfold cutAt
      rw [if_neg (Ne.symm e), if_neg (Ne.symm e)]
    · rw [List.getElem?_eq_none (by simpa using h1)]
      rfl
theorem cutRow_no {g : List Nat} {w a k : Nat} (h : cutF g w a k = false) : cutRow g w a k = cutRow g w a (k + 1) := List.map_congr_left fun x _ => by
  unfold cutAt
  split
  · rfl
  · split
    · show _ = if cutF g w a k = true then _ else _
      rw [h]; rfl
    · rfl
theorem cut_bit (g : List Nat) (w : Nat) {x b : Nat} (hx : x < 16) (hb : b < 16) : ((cut g w).getD x 0).testBit b = cutF g w x b := by
  rw [← cutRow_all, cutRow_get _ _ _ _ hx]
  unfold cutAt
  rw [if_pos hx, Pol.setTo_bit _ 16 (by omega)]
  simp [hb]
theorem cut_lt (g : List Nat) (w : Nat) : ∀ a ∈ cut g w, a < 65536 := fun a ha => by
  obtain ⟨x, _, rfl⟩ := List.mem_map.1 ha
  exact Pol.setTo_lt _ 16 (by omega)
theorem cut_len (g : List Nat) (w : Nat) : (cut g w).length = 16 := by simp [cut]
end Gr
structure CEnv (w : World) (g l : List Nat) (W : World) : Prop where
  gr : GraphIn w.heap.size g W
  res : GraphIn (w.heap.size + 1) zero16 W
  out : GraphIn (w.heap.size + 1 + 1) l W
  low : Below w.heap.size w W
theorem CEnv.call {w W V : World} {g l : List Nat} (h : CEnv w g l W) (hb : Below W.heap.size W V) : CEnv w g l V := ⟨block_below hb h.gr, block_below hb h.res, block_below hb h.out, below_here h.low hb⟩
theorem CEnv.set {w W : World} {g l : List Nat} (h : CEnv w g l W) (x v : Nat) : CEnv w g (l.set x v) (W.setCell ⟨w.heap.size + 1 + 1, x, none⟩ (.int .u16 (v : Int))) :=
  ⟨(Below.heap_setCell W ⟨w.heap.size + 1 + 1, x, none⟩ _ w.heap.size (by simp; omega)).trans h.gr, (Below.heap_setCell W ⟨w.heap.size + 1 + 1, x, none⟩ _ (w.heap.size + 1) (by simp)).trans h.res, h.out.set x v, h.low.setCell (p := ⟨w.heap.size + 1 + 1, x, none⟩) (show w.heap.size ≤ w.heap.size + 1 + 1 by omega) _⟩
theorem GraphIn.thaw {b : Nat} {g : List Nat} {W : World} (h : GraphIn b g W) (j : Nat) : W.frozen? ⟨b, j, none⟩ = false := by
  unfold GraphIn at h
  simp [World.frozen?, h]
theorem GraphIn.lt {b : Nat} {g : List Nat} {W : World} (h : GraphIn b g W) : b < W.heap.size := (Array.getElem?_eq_some_iff.1 h).1
set_option maxRecDepth 100000 in
set_option maxHeartbeats 8000000 in
theorem rgcut_ok (g : List Nat) (hg : g.length = 16) (hgl : ∀ a ∈ g, a < 65536) (wi : Nat) (hwi : wi < 65536) (w : World) :
    Calls Tryz.prog 128 #[.agg (Pol.u16C g).toArray, .int .u16 (wi : Int)] w fun e w' => e = .returned (.agg (Pol.u16C (Gr.cut g wi)).toArray) ∧ Below w.heap.size w w' := by
  have hl16 : (Pol.u16C g).length = 16 := by rw [u16C_len, hg]
  have hW3 : CEnv w g (Gr.cutRow g wi 0 0) (((w.alloc (.cells (Pol.u16C g).toArray 27)).alloc (.cells (Pol.u16C zero16).toArray 27)).alloc (.cells (Pol.u16C zero16).toArray 27)) := by
    refine ⟨block_below (below_fresh _ _) (block_below (below_fresh _ _) (heap_alloc_new w _)), ?_, ?_, below_new (below_new (below_fresh _ _) _) _⟩
    · have h := block_below (below_fresh _ (.cells (Pol.u16C zero16).toArray 27)) (heap_alloc_new (w.alloc (.cells (Pol.u16C g).toArray 27)) (.cells (Pol.u16C zero16).toArray 27))
      rw [World.size_alloc] at h
      exact h
    · have h := heap_alloc_new ((w.alloc (.cells (Pol.u16C g).toArray 27)).alloc (.cells (Pol.u16C zero16).toArray 27)) (.cells (Pol.u16C zero16).toArray 27)
      rw [World.size_alloc, World.size_alloc] at h
      rw [Gr.cutRow_zero]
      exact h
  have HE0 := Lib.hid hW3
  have HGL := Lib.hid (And.intro hg hgl)
  obtain ⟨RES, hRES⟩ : ∃ RES, RES = Gr.cut g wi := ⟨_, rfl⟩
  rw [← hRES]
  have HRES := Lib.hid hRES
  clear hW3 hg hgl hRES
  go_enter Tryz.func128, Tryz.ntmps128
  go_wp2_with fail
  go_loopw [6, 7] (fun i _ wr => ∃ (a : Nat), i = .int .i64 (a : Int) ∧ a ≤ 16 ∧ Hid (CEnv w g (Gr.cutRow g wi a 0) wr)) (fun i _ _ => 16 - (intOf i).toNat)
  case atStart => exact ⟨0, rfl, by omega, HE0⟩
  case round =>
    obtain ⟨a, rfl, ha, hE⟩ := hrel
    by_cases ha16 : a = 16
    · subst ha16
      rw [Gr.cutRow_all, ← HRES.out] at hE
      have hl : (Pol.u16C RES).length = 16 := by rw [u16C_len, HRES.out, Gr.cut_len]
      have hl' : (Pol.u16C RES).toArray.size = 16 := hl
      have HR := Lib.hid (show GraphIn (w.heap.size + 1) RES (wr.setCells (w.heap.size + 1) 0 (Pol.u16C RES)) from by
        have h := heap_setCells_same (w.heap.size + 1) 27 (Pol.u16C RES) 0 wr (Pol.u16C zero16) hE.out.res (by rw [hl]; simp [zero16, Pol.u16C])
        rw [splice_full (by rw [hl]; simp [zero16, Pol.u16C])] at h
        exact h)
      have HB := Lib.hid (below_setCells hE.out.low (show w.heap.size ≤ w.heap.size + 1 by omega) 0 (Pol.u16C RES))
      go_wp2_with (first
        | (refine wpList_load_mid rfl 27 (.tmp 5) rfl (w.heap.size + 1 + 1) 0 rfl (Pol.u16C RES) _ hE.out.out.range Tryz.underlying27 rfl (by rw [hl]; exact info_u16s) ?_)
        | (refine wpList_store_mid rfl 27 _ _ rfl (w.heap.size + 1) 0 (Pol.u16C RES).toArray rfl rfl (by rw [hl']; exact there_of_block hE.out.res 0 16 (by simp [zero16, Pol.u16C])) (by rw [hl']; exact info_u16s) (all_oneCell_toArray (u16C_one _)) ?_))
      exact ret_cell rfl (w.heap.size + 1) 0 rfl (Pol.u16C RES) _ HR.out.range Tryz.underlying27 rfl (by rw [hl]; exact info_u16s) rfl ⟨rfl, HB.out⟩
    · have hal : a < 16 := by omega
      have hai : (a : Int) < 16 := by omega
      clear ha16 HE0
      go_wp2_with fail
      go_loopw [7] (fun i wr => ∃ (k : Nat), i = .int .i64 (k : Int) ∧ k ≤ 16 ∧ Hid (CEnv w g (Gr.cutRow g wi a k) wr)) (fun i _ => 16 - (intOf i).toNat)
      case atStart => exact ⟨0, rfl, by omega, hE⟩
      case round =>
        obtain ⟨k, rfl, hk, hE⟩ := hrel
        by_cases hk16 : k = 16
        · subst hk16
          rw [Gr.cutRow_next] at hE
          go_wp2_with fail
          go_roundw
          case rel => exact ⟨a + 1, by go_num, by omega, hE⟩
          case measure => simp [intOf]; omega
        · have hkl : k < 16 := by omega
          have hki : (k : Int) < 16 := by omega
          have HAT := Lib.hid (fun w => rgat_ok g HGL.out.1 HGL.out.2 a k hal hkl wi hwi w)
          have HY : Hid (Gr.cutF g wi a k = true → (Gr.cutRow g wi a k).set a (Pol.setTo (Gr.cutF g wi a) k ||| 2 ^ k) = Gr.cutRow g wi a (k + 1)) := Lib.hid (Gr.cutRow_yes hal)
          have HN : Hid (Gr.cutF g wi a k = false → Gr.cutRow g wi a k = Gr.cutRow g wi a (k + 1)) := Lib.hid Gr.cutRow_no
          have hrg := hE.out.gr.range
          have hxl : Pol.setTo (Gr.cutF g wi a) k < 65536 := Pol.setTo_lt _ k (by omega)
          have hgd : (Gr.cutRow g wi a k).getD a 0 = Pol.setTo (Gr.cutF g wi a) k := by rw [Gr.cutRow_get _ _ _ _ hal, Gr.cutAt_self]
          have HC : Hid (∀ W, CEnv w g (Gr.cutRow g wi a k) W → W.cell? ⟨w.heap.size + 1 + 1, a, none⟩ = some (.int .u16 (Pol.setTo (Gr.cutF g wi a) k : Int))) := Lib.hid (fun W h => by
            have := h.out.cell (r := a) (by rw [Gr.cutRow_len]; exact hal)
            rw [hgd] at this
            exact this)
          change Hid (∀ w, Calls _ _ _ w fun e w' => e = .returned (.bool (Gr.cutF g wi a k)) ∧ _) at HAT
          clear hgd hk16
          generalize Pol.setTo (Gr.cutF g wi a) k = v at HY HC hxl
          generalize Gr.cutF g wi a k = b at HAT HY HN
          have HWB := Lib.hid (fun w => withb_ok v hxl k hkl w)
          cases b with
          | false =>
            rw [HN.out rfl] at hE
            go_wp2_with (refine wpList_load_mid rfl 27 (.tmp 2) rfl w.heap.size 0 rfl (Pol.u16C g) _ hrg Tryz.underlying27 rfl (by rw [hl16]; exact info_u16s) ?_)
            refine (HAT.out _).mono ?_
            rintro e w3 ⟨rfl, hb3⟩
            have hE3 := Lib.hid (hE.out.call hb3)
            clear hb3
            go_wp2_with fail
            go_roundw
            case rel => exact ⟨k + 1, by go_num, by omega, hE3⟩
            case measure => simp [intOf]; omega
          | true =>
            have HYT := Lib.hid (HY.out rfl)
            go_wp2_with (refine wpList_load_mid rfl 27 (.tmp 2) rfl w.heap.size 0 rfl (Pol.u16C g) _ hrg Tryz.underlying27 rfl (by rw [hl16]; exact info_u16s) ?_)
            refine (HAT.out _).mono ?_
            rintro e w3 ⟨rfl, hb3⟩
            have hE3 := Lib.hid (hE.out.call hb3)
            have hc := HC.out _ hE3.out
            have hfz := hE3.out.out.thaw a
            have hlo := hE3.out.out.lt
            have HE4 := Lib.hid (hE3.out.set a (v ||| 2 ^ k))
            rw [HYT.out] at HE4
            clear hb3
            go_wp2_with (go_at_call 103; refine (HWB.out _).mono ?_; rintro e w1 ⟨rfl, hw1⟩; obtain rfl := hw1.symm)
            go_roundw
            case rel => exact ⟨k + 1, by go_num, by omega, HE4⟩
            case measure => simp [intOf]; omega
namespace Pol
def setActs (p : P) (l : List Nat) : P := { p with acts := l }
def setLive (p : P) (s : Nat) : P := { p with live := s }
theorem setActs_ok {p : P} (h : Ok p) {l : List Nat} (h1 : l.length = 16) (h2 : ∀ a ∈ l, a < 65536) : Ok (setActs p l) where
  live := h.live
  nlabels := h.nlabels
  labels := h.labels
  nacts := h1
  acts := h2
  nowner := h.nowner
  owner := h.owner
  active := h.active
theorem setLive_ok {p : P} (h : Ok p) {s : Nat} (hs : s < 65536) : Ok (setLive p s) where
  live := hs
  nlabels := h.nlabels
  labels := h.labels
  nacts := h.nacts
  acts := h.acts
  nowner := h.nowner
  owner := h.owner
  active := h.active
def cutLab (s : Nat) (p : P) (k : Nat) : P := if s.testBit k = true then p else setLab p k (0, 0)
def cutLabs (s : Nat) (p : P) : Nat → P
  | 0 => p
  | k + 1 => cutLab s (cutLabs s p k) k
def cutOwn (s : Nat) (p : P) (k : Nat) : P := if Tag.has s (own p k : Int) = true then p else setOwn p k 16
def cutOwns (s : Nat) (p : P) : Nat → P
  | 0 => p
  | k + 1 => cutOwn s (cutOwns s p k) k
def cut (p : P) (l : Lab.L) : P := setLive (cutOwns (seen p l) (cutLabs (seen p l) (setActs p (Gr.cut p.acts (seen p l))) 16) 16) (seen p l)
theorem cutLab_ok {s : Nat} {p : P} (h : Ok p) (k : Nat) : Ok (cutLab s p k) := by
  unfold cutLab
  split
  · exact h
  · exact setLab_ok h ⟨by decide, by decide⟩ k
theorem cutOwn_ok {s : Nat} {p : P} (h : Ok p) (k : Nat) : Ok (cutOwn s p k) := by
  unfold cutOwn
  split
  · exact h
  · exact setOwn_ok h (by omega) k
theorem cutLabs_ok {s : Nat} {p : P} (h : Ok p) : ∀ k, Ok (cutLabs s p k)
  | 0 => h
  | k + 1 => cutLab_ok (cutLabs_ok h k) k
theorem cutOwns_ok {s : Nat} {p : P} (h : Ok p) : ∀ k, Ok (cutOwns s p k)
  | 0 => h
  | k + 1 => cutOwn_ok (cutOwns_ok h k) k
theorem cut_ok {p : P} (h : Ok p) (l : Lab.L) : Ok (cut p l) := setLive_ok (cutOwns_ok (cutLabs_ok (setActs_ok h (Gr.cut_len _ _) (Gr.cut_lt _ _)) 16) 16) (seen_lt _ _)
theorem cells_setActs {p : P} (h : Ok p) {l : List Nat} (h1 : l.length = 16) : cells (setActs p l) = splice (cells p) 33 (u16C l) := by
  unfold cells setActs splice
  simp only
  have e1 : (labC p.labels).length = 32 := by rw [labC_len, h.nlabels]
  have e2 : (u16C p.acts).length = 16 := by rw [u16C_len, h.nacts]
  have e3 : (u16C l).length = 16 := by rw [u16C_len, h1]
  rw [e3, List.take_succ_cons, List.take_append_of_le_length (by omega), List.take_of_length_le (by omega), List.drop_succ_cons, List.drop_append, List.drop_of_length_le (by omega), List.nil_append, e1, List.drop_append, List.drop_of_length_le (by omega), List.nil_append, e2]
  simp
theorem cells_setLive {p : P} (h : Ok p) (s : Nat) : cells (setLive p s) = (cells p).set 0 (.int .u16 (s : Int)) := rfl
end Pol
theorem PolIn.setActs {b : Nat} {p : Pol.P} {W : World} (h : PolIn b p W) (hp : Pol.Ok p) {l : List Nat} (hl : l.length = 16) : PolIn b (Pol.setActs p l) (W.setCells b 33 (Pol.u16C l)) := by
  have h' := heap_setCells_same b 30 (Pol.u16C l) 33 W (Pol.cells p) h (by rw [Pol.cells_len hp, u16C_len, hl]; omega)
  unfold PolIn
  rw [h', Pol.cells_setActs hp hl]
theorem PolIn.setLive {b : Nat} {p : Pol.P} {W : World} (h : PolIn b p W) (hp : Pol.Ok p) (s : Nat) : PolIn b (Pol.setLive p s) (W.setCell ⟨b, 0, none⟩ (.int .u16 (s : Int))) := by
  unfold PolIn at h ⊢
  rw [Pol.cells_setLive hp]
  simp [World.setCell, Array.getElem?_modify, h]
/-- The policy in its block, the label, the result's block, and all that was there before. -/
structure UEnv (w : World) (l1 l2 : Nat) (p : Pol.P) (W : World) : Prop where
  pol : PolIn w.heap.size p W
  lab : W.heap[w.heap.size + 1]? = some (.cells #[.int .u16 (l1 : Int), .int .u16 (l2 : Int)] 25 (0, 0))
  res : PolIn (w.heap.size + 1 + 1) Pol.zeroP W
  low : Below w.heap.size w W
theorem UEnv.call {w W V : World} {l1 l2 : Nat} {p : Pol.P} (h : UEnv w l1 l2 p W) (hb : Below W.heap.size W V) : UEnv w l1 l2 p V := ⟨block_below hb h.pol, block_below hb h.lab, block_below hb h.res, below_here h.low hb⟩
theorem UEnv.setLab {w W : World} {l1 l2 : Nat} {p : Pol.P} (h : UEnv w l1 l2 p W) (hp : Pol.Ok p) {r : Nat} (hr : r < 16) (l : Lab.L) : UEnv w l1 l2 (Pol.setLab p r l) (W.setCells w.heap.size (1 + r * 2) [.int .u16 (l.1 : Int), .int .u16 (l.2 : Int)]) :=
  ⟨h.pol.setLab hp hr l, (heap_setCells_other w.heap.size _ _ W (w.heap.size + 1) (by omega)).trans h.lab, (heap_setCells_other w.heap.size _ _ W (w.heap.size + 1 + 1) (by omega)).trans h.res, below_setCells h.low (Nat.le_refl _) _ _⟩
theorem UEnv.setActs {w W : World} {l1 l2 : Nat} {p : Pol.P} (h : UEnv w l1 l2 p W) (hp : Pol.Ok p) {l : List Nat} (hl : l.length = 16) : UEnv w l1 l2 (Pol.setActs p l) (W.setCells w.heap.size 33 (Pol.u16C l)) :=
  ⟨h.pol.setActs hp hl, (heap_setCells_other w.heap.size _ _ W (w.heap.size + 1) (by omega)).trans h.lab, (heap_setCells_other w.heap.size _ _ W (w.heap.size + 1 + 1) (by omega)).trans h.res, below_setCells h.low (Nat.le_refl _) _ _⟩
theorem UEnv.setOwn {w W : World} {l1 l2 : Nat} {p : Pol.P} (h : UEnv w l1 l2 p W) (hp : Pol.Ok p) {r : Nat} (hr : r < 16) (v : Nat) : UEnv w l1 l2 (Pol.setOwn p r v) (W.setCell ⟨w.heap.size, 49 + r, none⟩ (.int .u8 (v : Int))) :=
  ⟨h.pol.setOwn hp hr v, (Below.heap_setCell W ⟨w.heap.size, 49 + r, none⟩ _ (w.heap.size + 1) (by simp)).trans h.lab, (Below.heap_setCell W ⟨w.heap.size, 49 + r, none⟩ _ (w.heap.size + 1 + 1) (by simp; omega)).trans h.res, h.low.setCell (p := ⟨w.heap.size, 49 + r, none⟩) (Nat.le_refl _) _⟩
theorem UEnv.setLive {w W : World} {l1 l2 : Nat} {p : Pol.P} (h : UEnv w l1 l2 p W) (hp : Pol.Ok p) (s : Nat) : UEnv w l1 l2 (Pol.setLive p s) (W.setCell ⟨w.heap.size, 0, none⟩ (.int .u16 (s : Int))) :=
  ⟨h.pol.setLive hp s, (Below.heap_setCell W ⟨w.heap.size, 0, none⟩ _ (w.heap.size + 1) (by simp)).trans h.lab, (Below.heap_setCell W ⟨w.heap.size, 0, none⟩ _ (w.heap.size + 1 + 1) (by simp; omega)).trans h.res, h.low.setCell (p := ⟨w.heap.size, 0, none⟩) (Nat.le_refl _) _⟩
theorem PolIn.setFull {b : Nat} {p q : Pol.P} {W : World} (h : PolIn b p W) (hp : (Pol.cells p).length = 66) (hq : (Pol.cells q).length = 66) : PolIn b q (W.setCells b 0 (Pol.cells q)) := by
  have h' := heap_setCells_same b 30 (Pol.cells q) 0 W (Pol.cells p) h (by rw [hp, hq]; exact Nat.le_refl 66)
  unfold PolIn
  rw [h']
  unfold splice
  rw [List.take_zero, List.nil_append, List.drop_eq_nil_of_le (by rw [hp, hq]; exact Nat.le_refl 66), List.append_nil]
set_option maxRecDepth 100000 in
set_option maxHeartbeats 16000000 in
theorem rcut_ok (p : Pol.P) (hp : Pol.Ok p) (la : Lab.L) (hla : Lab.ok la) (w : World) :
    Calls Tryz.prog 57 #[Pol.val p, labV la] w fun e w' => e = .returned (Pol.val (Pol.cut p la)) ∧ Below w.heap.size w w' := by
  obtain ⟨l1, l2⟩ := la
  have hW0 : UEnv w l1 l2 p (((w.alloc (.cells (Pol.cells p).toArray 30)).alloc (.cells #[.int .u16 (l1 : Int), .int .u16 (l2 : Int)] 25)).alloc (.cells Tryz.zeroCells30 30)) := by
    refine ⟨block_below (below_fresh _ _) (block_below (below_fresh _ _) (heap_alloc_new w _)), ?_, ?_, below_new (below_new (below_fresh _ _) _) _⟩
    · have h := block_below (below_fresh _ (.cells Tryz.zeroCells30 30)) (heap_alloc_new (w.alloc (.cells (Pol.cells p).toArray 30)) (.cells #[.int .u16 (l1 : Int), .int .u16 (l2 : Int)] 25))
      rw [World.size_alloc] at h
      exact h
    · have h := heap_alloc_new ((w.alloc (.cells (Pol.cells p).toArray 30)).alloc (.cells #[.int .u16 (l1 : Int), .int .u16 (l2 : Int)] 25)) (.cells Tryz.zeroCells30 30)
      rw [World.size_alloc, World.size_alloc] at h
      exact h
  have HE0 := Lib.hid hW0
  have HOK := Lib.hid hp
  have hl66 := Pol.cells_len hp
  have HSN := Lib.hid (fun w => rpseen_ok p hp (l1, l2) hla w)
  obtain ⟨sv, hsv⟩ : ∃ sv, sv = Pol.seen p (l1, l2) := ⟨_, rfl⟩
  have hsl : sv < 65536 := by rw [hsv]; exact Pol.seen_lt _ _
  have HGC := Lib.hid (fun w => rgcut_ok p.acts hp.nacts hp.acts sv hsl w)
  have hl16 : (Pol.u16C p.acts).length = 16 := by rw [u16C_len, hp.nacts]
  obtain ⟨RES, hRES⟩ : ∃ RES, RES = Pol.cut p (l1, l2) := ⟨_, rfl⟩
  have HRES : Hid (RES = Pol.setLive (Pol.cutOwns sv (Pol.cutLabs sv (Pol.setActs p (Gr.cut p.acts sv)) 16) 16) sv) := Lib.hid (by rw [hRES, hsv]; rfl)
  rw [← hRES]
  rw [← hsv] at HSN
  have hgl := Gr.cut_len p.acts sv
  have HGT := Lib.hid (Gr.cut_lt p.acts sv)
  clear hp hla hW0 hsv hRES
  unfold Pol.val labV at HSN
  unfold Pol.val labV
  simp only at HSN ⊢
  generalize Gr.cut p.acts sv = gc at HGC HRES hgl HGT
  have hgc16 : (Pol.u16C gc).length = 16 := by rw [u16C_len, hgl]
  have hgc' : (Pol.u16C gc).toArray.size = 16 := hgc16
  go_enter Tryz.func57, Tryz.ntmps57
  go_wp2_with (first
    | (refine wpList_load_mid rfl 30 (.tmp 2) rfl w.heap.size 0 rfl (Pol.cells p) _ HE0.out.pol.range Tryz.underlying30 rfl (by rw [hl66]; exact info_pol) ?_)
    | (refine wpList_load_mid rfl 25 (.tmp 3) rfl (w.heap.size + 1) 0 rfl [.int .u16 (l1 : Int), .int .u16 (l2 : Int)] _ (range_of_block HE0.out.lab 0 _ (fun j hj => by rw [Nat.zero_add])) Tryz.underlying25 rfl info_lab ?_))
  refine (HSN.out _).mono ?_
  rintro e w1 ⟨rfl, hb1⟩
  have HE1 := Lib.hid (HE0.out.call hb1)
  have hra := HE1.out.pol.actsAt HOK.out
  clear hb1 HE0
  go_wp2_with (refine wpList_load_mid rfl 27 (.tmp 11) rfl w.heap.size 33 rfl (Pol.u16C p.acts) _ hra Tryz.underlying27 rfl (by rw [hl16]; exact info_u16s) ?_)
  refine (HGC.out _).mono ?_
  rintro e w2 ⟨rfl, hb2⟩
  have HE2 := Lib.hid (HE1.out.call hb2)
  clear hb2 HE1 hra
  have HE3 := Lib.hid (show UEnv w l1 l2 (Pol.setActs p gc) (w2.setCells w.heap.size 33 (Pol.u16C gc)) from HE2.out.setActs HOK.out hgl)
  have HO3 := Lib.hid (Pol.setActs_ok HOK.out hgl HGT.out)
  have hth := HE2.out.pol.there HOK.out 33 16 (by omega)
  go_wp2_with (refine wpList_store_mid rfl 27 _ _ rfl w.heap.size 33 (Pol.u16C gc).toArray rfl rfl (by rw [hgc']; exact hth) (by rw [hgc']; exact info_u16s) (all_oneCell_toArray (u16C_one _)) ?_; show wpList _ _ _ _ _ (w2.setCells w.heap.size 33 (Pol.u16C gc)); generalize w2.setCells w.heap.size 33 (Pol.u16C gc) = w3 at HE3 ⊢; simp only [Act.put])
  clear hth HE2 HGC HSN
  generalize Pol.setActs p gc = p3 at HE3 HO3 HRES
  clear hl16 hl66 hgc16 hgc' hgl HGT
  go_loopw [6] (fun i wr => ∃ (k : Nat), i = .int .i64 (k : Int) ∧ k ≤ 16 ∧ Hid (UEnv w l1 l2 (Pol.cutLabs sv p3 k) wr)) (fun i _ => 16 - (intOf i).toNat)
  case atStart => exact ⟨0, rfl, by omega, HE3⟩
  case round =>
    obtain ⟨k, rfl, hk, hM⟩ := hrel
    by_cases hk16 : k = 16
    · rw [hk16] at hM
      have hkn : ¬ (k : Int) < 16 := by omega
      clear hk16 hk
      have HOM := Lib.hid (Pol.cutLabs_ok (s := sv) HO3.out 16)
      generalize Pol.cutLabs sv p3 16 = pm at hM HOM HRES
      clear HE3
      go_wp2_with fail
      go_loopw [7] (fun i wr => ∃ (k : Nat), i = .int .i64 (k : Int) ∧ k ≤ 16 ∧ Hid (UEnv w l1 l2 (Pol.cutOwns sv pm k) wr)) (fun i _ => 16 - (intOf i).toNat)
      case atStart => exact ⟨0, rfl, by omega, hM⟩
      case round =>
        obtain ⟨k, rfl, hk, hM⟩ := hrel
        have HPO := Lib.hid (Pol.cutOwns_ok (s := sv) HOM.out k)
        by_cases hk16 : k = 16
        · subst hk16
          generalize Pol.cutOwns sv pm 16 = p4 at hM HPO HRES
          have hcl := hM.out.pol.cell 0 (Pol.cell_live p4)
          have hfz := hM.out.pol.thaw 0
          have hlt := hM.out.pol.lt
          have HE5 := Lib.hid (show UEnv w l1 l2 RES (wr.setCell ⟨w.heap.size, 0, none⟩ (.int .u16 (sv : Int))) by rw [HRES.out]; exact hM.out.setLive HPO.out sv)
          have hr66 : (Pol.cells RES).length = 66 := by rw [HRES.out]; exact Pol.cells_len (Pol.setLive_ok HPO.out hsl)
          have HRR := Lib.hid (show PolIn (w.heap.size + 1 + 1) RES ((wr.setCell ⟨w.heap.size, 0, none⟩ (.int .u16 (sv : Int))).setCells (w.heap.size + 1 + 1) 0 (Pol.cells RES)) from HE5.out.res.setFull rfl hr66)
          have hth := there_of_block HE5.out.res 0 66 (by rw [List.size_toArray]; exact Nat.le_refl 66)
          have hr66' : (Pol.cells RES).toArray.size = 66 := hr66
          have hlo := HE5.out.low
          go_wp2_with (first
            | (refine wpList_load_mid rfl 30 (.tmp 2) rfl w.heap.size 0 rfl (Pol.cells RES) _ HE5.out.pol.range Tryz.underlying30 rfl (by rw [hr66]; exact info_pol) ?_)
            | (refine wpList_store_mid rfl 30 _ _ rfl (w.heap.size + 1 + 1) 0 (Pol.cells RES).toArray rfl rfl (by rw [hr66']; exact hth) (by rw [hr66']; exact info_pol) (all_oneCell_toArray (Pol.cells_one RES)) ?_))
          exact ret_cell rfl (w.heap.size + 1 + 1) 0 rfl (Pol.cells RES) _ HRR.out.range Tryz.underlying30 rfl (by rw [hr66]; exact info_pol) rfl ⟨rfl, below_setCells hlo (by omega) _ _⟩
        · have hkl : k < 16 := by omega
          have hki : (k : Int) < 16 := by omega
          have HNX : Hid (Pol.cutOwns sv pm (k + 1) = Pol.cutOwn sv (Pol.cutOwns sv pm k) k) := Lib.hid rfl
          generalize Pol.cutOwns sv pm k = p0 at hM HPO HNX
          have HD : Hid (Pol.cutOwn sv p0 k = if Tag.has sv (Pol.own p0 k : Int) = true then p0 else Pol.setOwn p0 k 16) := Lib.hid rfl
          have hco := hM.out.pol.cell (49 + k) (Pol.cell_own HPO.out hkl)
          have hol := Pol.own_lt HPO.out k
          have hwl := hM.out.pol.lt
          have hfz := hM.out.pol.thaw (49 + k)
          generalize Pol.own p0 k = u at hco hol HD
          have hwu : IntKind.i64.wrap (u : Int) = (u : Int) := IntWalk.i64_in _ (by omega)
          have HH1 := Lib.hid (fun w => rhas_ok sv hsl (u : Int) w)
          generalize Tag.has sv (u : Int) = x at HH1 HD
          clear hk16
          cases x with
          | true =>
            have HE8 := Lib.hid (show UEnv w l1 l2 (Pol.cutOwns sv pm (k + 1)) wr by rw [HNX.out, HD.out, if_pos rfl]; exact hM.out)
            go_wp2_with (go_at_call 100; refine (HH1.out _).mono ?_; rintro e w1 ⟨rfl, hw1⟩; obtain rfl := hw1.symm)
            go_roundw
            case rel => exact ⟨k + 1, by go_num, by omega, HE8⟩
            case measure => simp [intOf]; omega
          | false =>
            have HE8 := Lib.hid (show UEnv w l1 l2 (Pol.cutOwns sv pm (k + 1)) (wr.setCell ⟨w.heap.size, 49 + k, none⟩ (.int .u8 16)) by rw [HNX.out, HD.out, if_neg (by simp)]; exact hM.out.setOwn HPO.out hkl 16)
            go_wp2_with (go_at_call 100; refine (HH1.out _).mono ?_; rintro e w1 ⟨rfl, hw1⟩; obtain rfl := hw1.symm)
            go_roundw
            case rel => exact ⟨k + 1, by go_num, by omega, HE8⟩
            case measure => simp [intOf]; omega
    · have hkl : k < 16 := by omega
      have hki : (k : Int) < 16 := by omega
      have HPO := Lib.hid (Pol.cutLabs_ok (s := sv) HO3.out k)
      have HNX : Hid (Pol.cutLabs sv p3 (k + 1) = Pol.cutLab sv (Pol.cutLabs sv p3 k) k) := Lib.hid rfl
      generalize Pol.cutLabs sv p3 k = p0 at hM HPO HNX
      have HD : Hid (Pol.cutLab sv p0 k = if sv.testBit k = true then p0 else Pol.setLab p0 k (0, 0)) := Lib.hid rfl
      have HH1 := Lib.hid (fun w => hasb_ok sv hsl k hkl w)
      have hth := hM.out.pol.there HPO.out (1 + k * 2) 2 (by omega)
      generalize sv.testBit k = x at HH1 HD
      clear hk16 HE3
      cases x with
      | true =>
        have HE8 := Lib.hid (show UEnv w l1 l2 (Pol.cutLabs sv p3 (k + 1)) wr by rw [HNX.out, HD.out, if_pos rfl]; exact hM.out)
        go_wp2_with (go_at_call 100; refine (HH1.out _).mono ?_; rintro e w1 ⟨rfl, hw1⟩; obtain rfl := hw1.symm)
        go_roundw
        case rel => exact ⟨k + 1, by go_num, by omega, HE8⟩
        case measure => simp [intOf]; omega
      | false =>
        have HE8 := Lib.hid (show UEnv w l1 l2 (Pol.cutLabs sv p3 (k + 1)) (wr.setCells w.heap.size (1 + k * 2) [.int .u16 0, .int .u16 0]) by rw [HNX.out, HD.out, if_neg (by simp)]; exact hM.out.setLab HPO.out hkl (0, 0))
        go_wp2_with (first
          | (go_at_call 100; refine (HH1.out _).mono ?_; rintro e w1 ⟨rfl, hw1⟩; obtain rfl := hw1.symm)
          | (refine wpList_store_mid rfl 25 (.tmp 27) (.tmp 25) rfl w.heap.size (1 + k * 2) #[.int .u16 0, .int .u16 0] rfl rfl hth info_lab (by simp [Value.oneCell']) ?_; show wpList _ _ _ _ _ (wr.setCells w.heap.size (1 + k * 2) [.int .u16 0, .int .u16 0]); generalize wr.setCells w.heap.size (1 + k * 2) [.int .u16 0, .int .u16 0] = w5 at HE8 ⊢; simp only [Act.put]))
        go_roundw
        case rel => exact ⟨k + 1, by go_num, by omega, HE8⟩
        case measure => simp [intOf]; omega
end Go.Proofs.YtlmacaenbililaaGreatDoor
namespace Go.Proofs.YtlmacaenbililaaGreatDoor
open Go.RowKit Go.Shelf
set_option linter.unusedSimpArgs false
set_option linter.unusedVariables false

namespace Pol
theorem lab_set (p : P) (h : p.labels.length = 16) {k : Nat} (hk : k < 16) (l : Lab.L) (r : Nat) : lab (setLab p k l) r = if r = k then l else lab p r := by
  unfold lab setLab
  simp only
  rw [List.getD_eq_getElem?_getD, List.getD_eq_getElem?_getD, List.getElem?_set]
  by_cases e : r = k
  · subst e
    rw [if_pos rfl, if_pos rfl, if_pos (by omega)]; rfl
  · rw [if_neg (Ne.symm e), if_neg e]
theorem own_set (p : P) (h : p.owner.length = 16) {k : Nat} (hk : k < 16) (v : Nat) (t : Nat) : own (setOwn p k v) t = if t = k then v else own p t := by
  unfold own setOwn
  simp only
  rw [List.getD_eq_getElem?_getD, List.getD_eq_getElem?_getD, List.getElem?_set]
  by_cases e : t = k
  · subst e
    rw [if_pos rfl, if_pos rfl, if_pos (by omega)]; rfl
  · rw [if_neg (Ne.symm e), if_neg e]
structure CutL (s : Nat) (p q : P) (k : Nat) : Prop where
  len : q.labels.length = 16
  acts : q.acts = p.acts
  owner : q.owner = p.owner
  active : q.active = p.active
  live : q.live = p.live
  labs : ∀ r, r < 16 → lab q r = if r < k ∧ s.testBit r = false then (0, 0) else lab p r
theorem cutLabs_is (s : Nat) (p : P) (h : p.labels.length = 16) : ∀ k, k ≤ 16 → CutL s p (cutLabs s p k) k
  | 0, _ => ⟨h, rfl, rfl, rfl, rfl, fun r _ => by rw [if_neg (by omega)]; rfl⟩
  | k + 1, hk => by
    have ih := cutLabs_is s p h k (by omega)
    show CutL s p (cutLab s (cutLabs s p k) k) (k + 1)
    unfold cutLab
    by_cases hs : s.testBit k = true
    · rw [if_pos hs]
      refine ⟨ih.len, ih.acts, ih.owner, ih.active, ih.live, fun r hr => ?_⟩
      rw [ih.labs r hr]
      by_cases e : r = k
      · subst e
        rw [if_neg (by omega), if_neg (by rw [hs]; simp)]
      · by_cases h1 : r < k
        · simp [h1, show r < k + 1 by omega]
        · simp [h1, show ¬ r < k + 1 by omega]
    · rw [if_neg hs]
      refine ⟨by simp [setLab, ih.len], ih.acts, ih.owner, ih.active, ih.live, fun r hr => ?_⟩
      rw [lab_set _ ih.len (by omega), ih.labs r hr]
      by_cases e : r = k
      · subst e
        rw [if_pos rfl, if_pos ⟨by omega, by simpa using hs⟩]
      · rw [if_neg e]
        by_cases h1 : r < k
        · simp [h1, show r < k + 1 by omega]
        · simp [h1, show ¬ r < k + 1 by omega]
structure CutO (s : Nat) (p q : P) (k : Nat) : Prop where
  len : q.owner.length = 16
  acts : q.acts = p.acts
  labels : q.labels = p.labels
  active : q.active = p.active
  live : q.live = p.live
  owns : ∀ t, t < 16 → own q t = if t < k ∧ Tag.has s (own p t : Int) = false then 16 else own p t
theorem cutOwns_is (s : Nat) (p : P) (h : p.owner.length = 16) : ∀ k, k ≤ 16 → CutO s p (cutOwns s p k) k
  | 0, _ => ⟨h, rfl, rfl, rfl, rfl, fun r _ => by rw [if_neg (by omega)]; rfl⟩
  | k + 1, hk => by
    have ih := cutOwns_is s p h k (by omega)
    have hk' : own (cutOwns s p k) k = own p k := by rw [ih.owns k (by omega), if_neg (by omega)]
    show CutO s p (cutOwn s (cutOwns s p k) k) (k + 1)
    unfold cutOwn
    rw [hk']
    by_cases hs : Tag.has s (own p k : Int) = true
    · rw [if_pos hs]
      refine ⟨ih.len, ih.acts, ih.labels, ih.active, ih.live, fun r hr => ?_⟩
      rw [ih.owns r hr]
      by_cases e : r = k
      · subst e
        rw [if_neg (by omega), if_neg (by rw [hs]; simp)]
      · by_cases h1 : r < k
        · simp [h1, show r < k + 1 by omega]
        · simp [h1, show ¬ r < k + 1 by omega]
    · rw [if_neg hs]
      refine ⟨by simp [setOwn, ih.len], ih.acts, ih.labels, ih.active, ih.live, fun r hr => ?_⟩
      rw [own_set _ ih.len (by omega), ih.owns r hr]
      by_cases e : r = k
      · subst e
        rw [if_pos rfl, if_pos ⟨by omega, by simpa using hs⟩]
      · rw [if_neg e]
        by_cases h1 : r < k
        · simp [h1, show r < k + 1 by omega]
        · simp [h1, show ¬ r < k + 1 by omega]
theorem lab_live (q : P) (s r : Nat) : lab (setLive q s) r = lab q r := rfl
theorem own_live (q : P) (s r : Nat) : own (setLive q s) r = own q r := rfl
theorem acts_live (q : P) (s : Nat) : (setLive q s).acts = q.acts := rfl
theorem active_live (q : P) (s : Nat) : (setLive q s).active = q.active := rfl
theorem lab_of {q p : P} (h : q.labels = p.labels) (r : Nat) : lab q r = lab p r := by unfold lab; rw [h]
theorem own_of {q p : P} (h : q.owner = p.owner) (r : Nat) : own q r = own p r := by unfold own; rw [h]
theorem cut_lab {p : P} (h : Ok p) (l : Lab.L) {r : Nat} (hr : r < 16) : lab (cut p l) r = if (seen p l).testBit r = true then lab p r else (0, 0) := by
  have h1 := cutLabs_is (seen p l) (setActs p (Gr.cut p.acts (seen p l))) h.nlabels 16 (by omega)
  have h2 := cutOwns_is (seen p l) (cutLabs (seen p l) (setActs p (Gr.cut p.acts (seen p l))) 16) (by rw [h1.owner]; exact h.nowner) 16 (by omega)
  have e : lab (cut p l) r = lab (cutLabs (seen p l) (setActs p (Gr.cut p.acts (seen p l))) 16) r := by
    unfold cut
    rw [lab_live, lab_of h2.labels]
  rw [e, h1.labs r hr]
  cases hs : (seen p l).testBit r with
  | true => rw [if_neg (by simp), if_pos rfl]; exact lab_of rfl r
  | false => rw [if_pos ⟨hr, rfl⟩, if_neg (by simp)]
theorem cut_own {p : P} (h : Ok p) (l : Lab.L) {t : Nat} (ht : t < 16) : own (cut p l) t = if Tag.has (seen p l) (own p t : Int) = true then own p t else 16 := by
  have h1 := cutLabs_is (seen p l) (setActs p (Gr.cut p.acts (seen p l))) h.nlabels 16 (by omega)
  have h2 := cutOwns_is (seen p l) (cutLabs (seen p l) (setActs p (Gr.cut p.acts (seen p l))) 16) (by rw [h1.owner]; exact h.nowner) 16 (by omega)
  have e : own (cutLabs (seen p l) (setActs p (Gr.cut p.acts (seen p l))) 16) t = own p t := by
    rw [own_of h1.owner]
    exact own_of rfl t
  unfold cut
  rw [own_live, h2.owns t ht, e]
  cases hs : Tag.has (seen p l) (own p t : Int) with
  | true => simp
  | false => simp [ht]
theorem cut_acts {p : P} (h : Ok p) (l : Lab.L) : (cut p l).acts = Gr.cut p.acts (seen p l) := by
  have h1 := cutLabs_is (seen p l) (setActs p (Gr.cut p.acts (seen p l))) h.nlabels 16 (by omega)
  have h2 := cutOwns_is (seen p l) (cutLabs (seen p l) (setActs p (Gr.cut p.acts (seen p l))) 16) (by rw [h1.owner]; exact h.nowner) 16 (by omega)
  unfold cut
  rw [acts_live, h2.acts, h1.acts]; rfl
theorem cut_active {p : P} (h : Ok p) (l : Lab.L) : (cut p l).active = p.active := by
  have h1 := cutLabs_is (seen p l) (setActs p (Gr.cut p.acts (seen p l))) h.nlabels 16 (by omega)
  have h2 := cutOwns_is (seen p l) (cutLabs (seen p l) (setActs p (Gr.cut p.acts (seen p l))) 16) (by rw [h1.owner]; exact h.nowner) 16 (by omega)
  unfold cut
  rw [active_live, h2.active, h1.active]; rfl
theorem live_live (q : P) (s : Nat) : (setLive q s).live = s := rfl
theorem live_cut (p : P) (l : Lab.L) : (cut p l).live = seen p l := by
  unfold cut
  rw [live_live]
theorem seen_bit (p : P) (l : Lab.L) {r : Nat} (hr : r < 16) : (seen p l).testBit r = (p.live.testBit r && Lab.flows (lab p r) l) := setOf_bit _ hr
theorem cut_seen {p : P} (h : Ok p) (l : Lab.L) : seen (cut p l) l = seen p l := by
  refine Tag.ext (seen_lt _ _) (seen_lt _ _) fun r hr => ?_
  rw [seen_bit _ _ hr, cut_lab h l hr]
  rw [show (cut p l).live = seen p l from live_cut p l]
  cases hs : (seen p l).testBit r with
  | false => rfl
  | true =>
    rw [if_pos rfl, Bool.true_and]
    rw [seen_bit _ _ hr, Bool.and_eq_true] at hs
    exact hs.2
theorem cut_down {p : P} (h : Ok p) (l : Lab.L) {r : Nat} (hr : r < 16) : Gr.down (cut p l).acts (seen p l) (2 ^ r) = Gr.down p.acts (seen p l) (2 ^ r) := by
  rw [cut_acts h]
  refine Gr.down_cut (p16 hr) fun a b ha hb h1 h2 => ?_
  rw [Gr.cut_bit _ _ ha hb]
  unfold Gr.cutF
  rw [h1, h2]; rfl
theorem cut_owned {p : P} (h : Ok p) (l : Lab.L) {D : Nat} (hD : D < 65536) (hs : ∀ i, i < 16 → D.testBit i = true → (seen p l).testBit i = true) : owned (cut p l) D = owned p D := by
  refine Tag.ext (owned_lt _ _) (owned_lt _ _) fun t ht => ?_
  rw [owned_bit _ hD ht, owned_bit _ hD ht, cut_own h l ht, has_nat (seen_lt _ _)]
  by_cases hx : (seen p l).testBit (own p t) = true
  · rw [if_pos hx]
  · rw [if_neg hx]
    have e1 : D.testBit 16 = false := by
      rw [Bool.eq_false_iff]
      intro hc
      exact absurd (bit_ge hD hc) (by omega)
    have e2 : D.testBit (own p t) = false := by
      rw [Bool.eq_false_iff]
      intro hc
      exact hx (hs _ (bit_ge hD hc) hc)
    rw [e1, e2]
theorem cut_row {p : P} (h : Ok p) (l : Lab.L) {k : Nat} (hk : k < 16) (hs : (seen p l).testBit k = true) : row (cut p l) l k = row p l k := by
  unfold row
  have h1 : lab (cut p l) k = lab p k := by rw [cut_lab h l hk, if_pos hs]
  have h2 : Gr.down (Gr.turn (cut p l).acts) (seen p l) (2 ^ k) = Gr.down (Gr.turn p.acts) (seen p l) (2 ^ k) := Tag.ext (Gr.down_lt (p16 hk)) (Gr.down_lt (p16 hk)) fun i hi => by
    rw [Gr.up_bit hk hi, Gr.up_bit hk hi, cut_down h l hi]
  have h3 : owned (cut p l) (2 ^ k) = owned p (2 ^ k) := cut_owned h l (p16 hk) fun i hi hb => by
    obtain rfl : k = i := by rw [Nat.testBit_two_pow] at hb; simpa using hb
    exact hs
  have h4 : caps (cut p l) (k : Int) l = caps p (k : Int) l := by
    unfold caps
    rw [downOf_nat _ hk, downOf_nat _ hk, cut_seen h, cut_down h l hk, cut_active h, cut_owned h l (Gr.down_lt (p16 hk)) fun i hi hb => Gr.down_in hk hi hb]
  rw [h1, cut_seen h, h2, cut_down h l hk, h3, cut_active h, h4]
theorem cut_rows {p : P} (h : Ok p) (l : Lab.L) : rows (cut p l) l = rows p l := by
  unfold rows
  rw [cut_seen h]
  refine List.map_congr_left fun k hk => ?_
  obtain ⟨h1, h2⟩ := Tag.tags_lt _ k hk
  exact cut_row h l h1 h2
end Pol
end Go.Proofs.YtlmacaenbililaaGreatDoor
