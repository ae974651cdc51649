/- The document's names: which name a text is. No conditions. -/
import Derived.Test.YtdjndnoiankicaaGreatDoorRidc
import Derived.Test.YtdjndnoiankicaaGreatDoorLrefd
import Derived.Test.YtdjndnoiankicaaGreatDoorLtexts
namespace Go.Proofs.YtdjndnoiankicaaGreatDoor
open Go.RowKit Go.Shelf
set_option linter.unusedSimpArgs false
set_option linter.unusedVariables false
attribute [local go_sem] cell_over frozen_over

namespace Idn
/-- The label that is tried at a dot. -/
def labAt (s : List UInt8) (i : Nat) : Lab.L := (Lab.parse ((s.take (max 1 i)).drop 1)).1
theorem labAt_ok (s : List UInt8) (i : Nat) : Lab.ok (labAt s i) := Lab.parse_lt _
theorem parse_hit {s : List UInt8} {i n : Nat} (hn : n < 12) (h : text (mk (labAt s i) (n : Int)) = s) : parse s = (mk (labAt s i) (n : Int), 0) := by
  have := parse_text (x := mk (labAt s i) (n : Int)) (by rw [mk_in _ (by omega) (by omega)]; exact labAt_ok s i) (fine_mk _ (by omega) (by omega))
  rw [h] at this
  exact this
theorem parse_zero (s : List UInt8) : (parse s).2 = 0 ∨ parse s = (zero, 3) := by
  unfold parse
  split
  · exact .inr rfl
  · split
    · exact .inr rfl
    · split
      · exact .inl rfl
      · exact .inr rfl
theorem parse_miss {s : List UInt8} (h : ∀ i, i < s.length → s.getD i 0 = 46 → ∀ n, n < 12 → text (mk (labAt s i) ((n : Nat) : Int)) ≠ s) : parse s = (zero, 3) := by
  rcases parse_zero s with h0 | h0
  · exfalso
    obtain ⟨h1, h2, h3⟩ := parse_fine h0
    generalize (parse s).1 = x at h1 h2 h3
    have ht := h1
    rw [text_fine h2] at ht
    have hlen : s.length = (Lab.text x.1).length + 3 := by rw [← ht]; simp
    have hi : (Lab.text x.1).length + 1 < s.length := by omega
    have hdot : s.getD ((Lab.text x.1).length + 1) 0 = 46 := by
      rw [← ht, List.getD_cons_succ, List.getD_eq_getElem?_getD, List.getElem?_append_right (Nat.le_refl _)]; simp
    have hlab : labAt s ((Lab.text x.1).length + 1) = x.1 := by
      unfold labAt
      have e : (s.take (max 1 ((Lab.text x.1).length + 1))).drop 1 = Lab.text x.1 := by
        rw [← ht, show max 1 ((Lab.text x.1).length + 1) = (Lab.text x.1).length + 1 by omega, List.take_succ_cons, List.drop_one, List.tail_cons, List.take_left]
      rw [e, Lab.parse_text _ h3]
    obtain ⟨l1, l2, l3, l4⟩ := fine_iff.1 h2
    have hl := lane_fine h2
    have hm := mk_lane h2
    have hn : (lane x).toNat < 12 := by omega
    refine h _ hi hdot (lane x).toNat hn ?_
    rw [hlab, show (((lane x).toNat : Nat) : Int) = lane x by omega, hm, h1]
  · exact h0
end Idn
set_option maxRecDepth 100000 in
set_option maxHeartbeats 4000000 in
theorem ridparse_ok (s : ByteArray) (hs : s.size ≤ 1000) (w : World) : Calls Tryz.prog 23 #[.string s] w fun e w' => e = .returned (.tuple #[idV (Idn.parse s.data.toList).1, .bool (decide ((Idn.parse s.data.toList).2 = 0))]) ∧ Below w.heap.size w w' := by
  have hl : s.data.toList.length = s.size := by rw [Array.length_toList]; rfl
  obtain ⟨RES, hRES⟩ : ∃ RES, RES = Idn.parse s.data.toList := ⟨_, rfl⟩
  rw [← hRES]
  have HRES := Lib.hid hRES
  have HR0 := Lib.hid (show IdIn w.heap.size Idn.zero (w.alloc (.cells #[.int .u16 0, .int .u16 0, .int .i64 0, .int .i64 0] 26)) from heap_alloc_new w _)
  have HB0 := Lib.hid (below_fresh w (.cells #[.int .u16 0, .int .u16 0, .int .i64 0, .int .i64 0] 26))
  clear hRES
  go_enter Tryz.func23, Tryz.ntmps23
  go_wp2_with fail
  go_loopw [4] (fun i wr => ∃ (k : Nat), i = .int .i64 (k : Int) ∧ k ≤ s.size ∧ Hid (∀ i, i < k → s.data.toList.getD i 0 = 46 → ∀ n, n < 12 → Idn.text (Idn.mk (Idn.labAt s.data.toList i) ((n : Nat) : Int)) ≠ s.data.toList) ∧ Hid (IdIn w.heap.size Idn.zero wr) ∧ Hid (Below w.heap.size w wr)) (fun i _ => s.size - (intOf i).toNat)
  case atStart => exact ⟨0, rfl, Nat.zero_le _, Lib.hid (fun i hi => absurd hi (Nat.not_lt_zero _)), HR0, HB0⟩
  case round =>
    obtain ⟨k, rfl, hk, hT, hr, hW⟩ := hrel
    by_cases hks : k = s.size
    · have hres : RES = (Idn.zero, 3) := by rw [HRES.out]; exact Idn.parse_miss (fun i hi => hT.out i (by omega))
      subst hres
      have hki : ¬ (k : Int) < (s.size : Int) := by omega
      clear hT HRES hks HR0 HB0
      obtain ⟨⟨x0, x1, x2, x3⟩, x4, x5, x6, x7, x8⟩ := quad_cells hr.out
      go_wp2_with fail
      exact id_ret2 Tryz.results23 w.heap.size rfl Idn.zero (set_quad' _ _ _ _ _ _ _ _ _ _ _ hr.out) rfl ⟨rfl, below_quad hW.out (Nat.le_refl _) _ _ _ _⟩
    · have hlt : k < s.size := by omega
      have hki : (k : Int) < (s.size : Int) := by omega
      have hx0 := index_string s (k : Int) k rfl hlt
      obtain ⟨c, hcd⟩ : ∃ c, c = s.data.toList.getD k 0 := ⟨_, rfl⟩
      rw [← hcd] at hx0
      have HNX : Hid ((c = 46 → ∀ n, n < 12 → Idn.text (Idn.mk (Idn.labAt s.data.toList k) ((n : Nat) : Int)) ≠ s.data.toList) → ∀ i, i < k + 1 → s.data.toList.getD i 0 = 46 → ∀ n, n < 12 → Idn.text (Idn.mk (Idn.labAt s.data.toList i) ((n : Nat) : Int)) ≠ s.data.toList) := Lib.hid (fun h i hi hd n hn => by
        by_cases e : i = k
        · subst e; exact h (hcd.trans hd) n hn
        · exact hT.out i (by omega) hd n hn)
      clear hcd
      by_cases hc : c = 46
      · have hcb : ((c.toNat : Int) != 46) = false := by rw [hc]; rfl
        have hcb2 : ((c.toNat : Int) == 46) = true := by rw [hc]; rfl
        have hmx : max (1 : Int) (k : Int) = ((max 1 k : Nat) : Int) := by omega
        have hsl : ∀ W, (Instr.slice 9 (.string s) (some (.int .i64 1)) (some (.int .i64 ((max 1 k : Nat) : Int))) none).run Tryz.prog W = .ok (.string (s.extract 1 (max 1 k))) W := fun W => by
          rw [run_slice_string W 9 s .i64 .i64 1 ((max 1 k : Nat) : Int) Tryz.underlying9 (by omega) (by omega) (by omega), Int.toNat_natCast]; rfl
        have hex : (s.extract 1 (max 1 k)).data.toList = (s.data.toList.take (max 1 k)).drop 1 := by
          rw [ByteArray.data_extract, Array.toList_extract]
          show (s.data.toList.drop 1).take (max 1 k - 1) = _
          rw [List.drop_take]
        have HP0 := rlparse_ok (s.extract 1 (max 1 k)) (by rw [ByteArray.size_extract]; omega)
        have HP : Hid (∀ w : World, Calls Tryz.prog 84 #[.string (s.extract 1 (max 1 k))] w fun e w' => ∃ b, e = .returned (.tuple #[labV (Idn.labAt s.data.toList k), .bool b]) ∧ Below w.heap.size w w') := Lib.hid (fun w => by
          refine (HP0 w).mono ?_
          rintro e w' ⟨rfl, hb⟩
          rw [hex]
          unfold Idn.labAt Lab.parse
          cases Lab.rparse ((s.data.toList.take (max 1 k)).drop 1) with
          | none => exact ⟨_, rfl, hb⟩
          | some a => exact ⟨_, rfl, hb⟩)
        have HOK := Lib.hid (Idn.labAt_ok s.data.toList k)
        have HHIT : Hid (∀ n : Nat, n < 12 → Idn.text (Idn.mk (Idn.labAt s.data.toList k) (n : Int)) = s.data.toList → RES = (Idn.mk (Idn.labAt s.data.toList k) (n : Int), 0)) := Lib.hid (fun n hn h => by rw [HRES.out]; exact Idn.parse_hit hn h)
        generalize Idn.labAt s.data.toList k = lb at HP HOK HHIT HNX
        clear HP0 hex hT HRES hks HR0 HB0 hc
        generalize s.extract 1 (max 1 k) = sx at hsl HP
        generalize max 1 k = mk' at hmx hsl
        generalize c.toNat = cn at hx0 hcb hcb2
        go_wp2_with fail
        refine (HP.out _).mono ?_
        rintro r w1 ⟨bb, rfl, hb1⟩
        have hr1 := hr.out.below hb1
        have HW1 := Lib.hid (below_here hW.out hb1)
        clear hr hW hb1
        have HB5 := Lib.hid (below_new HW1.out (.cells #[.int .u16 (lb.1 : Int), .int .u16 (lb.2 : Int)] 24))
        have HL5 := Lib.hid (LabIn.new w1 lb)
        have HR5 := Lib.hid (hr1.below (below_fresh w1 (.cells #[.int .u16 (lb.1 : Int), .int .u16 (lb.2 : Int)] 24)))
        clear hr1
        go_wp2_with fail
        generalize hW5 : w1.alloc (.cells #[.int .u16 (lb.1 : Int), .int .u16 (lb.2 : Int)] 24) = w5 at HB5 HL5 HR5 ⊢
        clear hW5
        generalize w1.heap.size = p at HL5 ⊢
        go_loopw [7] (fun i wr => ∃ (n : Nat), i = .int .i64 (n : Int) ∧ n ≤ 12 ∧ Hid (∀ m, m < n → Idn.text (Idn.mk lb ((m : Nat) : Int)) ≠ s.data.toList) ∧ Hid (Below w5.heap.size w5 wr)) (fun i _ => 12 - (intOf i).toNat)
        case atStart => exact ⟨0, rfl, by omega, Lib.hid (fun m hm => absurd hm (Nat.not_lt_zero _)), Lib.hid (Below.refl _ _)⟩
        case round =>
          obtain ⟨n, rfl, hn, hT, hW⟩ := hrel
          by_cases hn12 : n = 12
          · subst hn12
            have HN := Lib.hid (HNX.out (fun _ => hT.out))
            have HR6 := Lib.hid (HR5.out.below hW.out)
            have HB6 := Lib.hid (below_here HB5.out hW.out)
            clear HNX hT hW
            go_wp2_with fail
            go_roundw
            case rel => exact ⟨k + 1, by go_num, by omega, HN, HR6, HB6⟩
            case measure => simp [intOf]; omega
          · have hnl : n < 12 := by omega
            have hni : (n : Int) < 12 := by omega
            have HA := Lib.hid (fun w => rat_ok lb (n : Int) (by omega) w)
            have HTX := Lib.hid (fun w => ridtext_ok (Idn.mk lb (n : Int)) (by rw [Idn.mk_in _ (by omega) (by omega)]; exact HOK.out) w)
            have HBI := Lib.hid (bytes_of_list (s := s) (l := Idn.text (Idn.mk lb (n : Int))))
            have HH := Lib.hid (HHIT.out n hnl)
            have HNE : Hid (Idn.text (Idn.mk lb (n : Int)) ≠ s.data.toList → ∀ m, m < n + 1 → Idn.text (Idn.mk lb ((m : Nat) : Int)) ≠ s.data.toList) := Lib.hid (fun h m hm => by
              by_cases e : m = n
              · subst e; exact h
              · exact hT.out m (by omega))
            generalize Idn.text (Idn.mk lb (n : Int)) = tx at HTX HBI HH HNE
            generalize Idn.mk lb (n : Int) = x at HA HTX HH
            obtain ⟨c1, c2, c3⟩ := (HL5.out.below hW.out).cells
            by_cases he : tx = s.data.toList
            · have hts := HBI.out.2 he
              have hres := HH.out he
              subst hres
              rw [hts] at HTX
              clear hts he HBI HNE HH hn12 HNX
              go_wp2_with fail
              refine (HA.out _).mono ?_
              rintro r w6 ⟨rfl, hb6⟩
              go_wp2_with fail
              refine (HTX.out _).mono ?_
              rintro r w7 ⟨rfl, hb7⟩
              have hW7 := below_here (below_here hW.out hb6) hb7
              obtain ⟨d1, d2, d3⟩ := (HL5.out.below hW7).cells
              go_wp2_with fail
              refine (HA.out _).mono ?_
              rintro r w8 ⟨rfl, hb8⟩
              have hW8 := below_here hW7 hb8
              have hr8 := HR5.out.below hW8
              have HB8 := Lib.hid (below_here HB5.out hW8)
              have HR8 := Lib.hid hr8
              obtain ⟨⟨x0, x1, x2, x3⟩, x4, x5, x6, x7, x8⟩ := quad_cells hr8
              clear hW7 hW8 hr8 hb6 hb7 hb8 c1 c2 c3 d1 d2 d3
              go_wp2_with fail
              exact id_ret2 Tryz.results23 w.heap.size rfl x (set_quad' _ _ _ _ _ _ _ _ _ _ _ HR8.out) rfl ⟨rfl, below_quad HB8.out (Nat.le_refl _) _ _ _ _⟩
            · have hts := mt HBI.out.1 he
              have HN1 := Lib.hid (HNE.out he)
              generalize (⟨tx.toArray⟩ : ByteArray) = tb at HTX hts
              have hcmp : (tb.toList == s.toList) = false := (Lib.bytes_beq_false_iff _ _).2 hts
              clear hts he HBI HNE HH hn12 HNX
              go_wp2_with fail
              refine (HA.out _).mono ?_
              rintro r w6 ⟨rfl, hb6⟩
              go_wp2_with fail
              refine (HTX.out _).mono ?_
              rintro r w7 ⟨rfl, hb7⟩
              have HW7 := Lib.hid (below_here (below_here hW.out hb6) hb7)
              clear hb6 hb7 c1 c2 c3
              go_wp2_with fail
              go_roundw
              case rel => exact ⟨n + 1, by go_num, by omega, HN1, HW7⟩
              case measure => simp [intOf]; omega
      · have hcb : ((c.toNat : Int) != 46) = true := by
          rw [bne_iff_ne]; intro h; exact hc (UInt8.toNat_inj.1 (by have : (46 : UInt8).toNat = 46 := rfl; omega))
        have hcb2 : ((c.toNat : Int) == 46) = false := by
          rw [beq_eq_false_iff_ne]; intro h; exact hc (UInt8.toNat_inj.1 (by have : (46 : UInt8).toNat = 46 := rfl; omega))
        have HN := Lib.hid (HNX.out (fun h => absurd h hc))
        clear HNX hT hks hc
        go_wp2_with fail
        go_roundw
        case rel => exact ⟨k + 1, by go_num, by omega, HN, hr, hW⟩
        case measure => simp [intOf]; omega
end Go.Proofs.YtdjndnoiankicaaGreatDoor
