/- The image of a set of tags under a map, in plain words. Maps of tags (package forepeakref04): the image of a set, and of a label. Maps of tags: the image of a label, as the document has it and as the program has it. A map of tags held against the one in which no tag is moved. Maps of tags (package relabel): the image of a set, and of a label; what a name's label became. Maps of tags (package relabel): the image of a label; what a name's label became. No conditions. -/
import Derived.Test.YtlmacaenbililaaGreatDoorTlawb
import Derived.Test.YtlmacaenbililaaGreatDoorMap
import Derived.Test.YtlmacaenbililaaGreatDoorLtexts
import Derived.Test.YtlmacaenbililaaGreatDoorTlaid
import Derived.ChangeKeysEq
import Derived.Test.YtlmacaenbililaaGreatDoorTtext
namespace Go.Proofs.YtlmacaenbililaaGreatDoor
set_option linter.unusedSimpArgs false
set_option linter.unusedVariables false

namespace Tag
/-- The image of some tags. -/
def img (m : List Nat) (l : List Nat) : Nat := l.foldl (fun o t => o ||| 2 ^ m.getD t 0) 0
def image (m : List Nat) (s : Nat) : Nat := img m (tags s)
theorem img_snoc (m l : List Nat) (x : Nat) : img m (l ++ [x]) = img m l ||| 2 ^ m.getD x 0 := by simp [img, List.foldl_append]
theorem foldm_bit (m : List Nat) : ∀ (l : List Nat) (o i : Nat), (l.foldl (fun o t => o ||| 2 ^ m.getD t 0) o).testBit i = (o.testBit i || l.any (fun t => decide (m.getD t 0 = i)))
  | [], o, i => by simp
  | t :: l, o, i => by
    rw [List.foldl_cons, foldm_bit m l, Nat.testBit_or, Nat.testBit_two_pow, List.any_cons, Bool.or_assoc]
theorem img_bit (m l : List Nat) (i : Nat) : (img m l).testBit i = l.any (fun t => decide (m.getD t 0 = i)) := by rw [img, foldm_bit]; simp
theorem foldm_lt {m : List Nat} (hm : ∀ t, m.getD t 0 < 16) : ∀ (l : List Nat) (o : Nat), o < 65536 → l.foldl (fun o t => o ||| 2 ^ m.getD t 0) o < 65536
  | [], o, h => h
  | t :: l, o, h => foldm_lt hm l _ (Nat.or_lt_two_pow (n := 16) h (Nat.pow_lt_pow_right (by omega) (hm t)))
theorem img_lt {m : List Nat} (hm : ∀ t, m.getD t 0 < 16) (l : List Nat) : img m l < 65536 := foldm_lt hm l 0 (by omega)
/-- Does a tag below t that is in the set go to u? -/
def hit (m : List Nat) (s u t : Nat) : Bool := (List.range t).any fun t => s.testBit t && decide (m.getD t 0 = u)
theorem hit_succ (m : List Nat) (s u t : Nat) : hit m s u (t + 1) = (hit m s u t || (s.testBit t && decide (m.getD t 0 = u))) := by
  unfold hit
  rw [List.range_succ, List.any_append]
  simp
theorem image_bit (m : List Nat) (s i : Nat) : (image m s).testBit i = hit m s i 16 := by
  rw [image, img_bit, tags, List.any_filter]; rfl
theorem image_same {s : Nat} (h : s < 65536) : image (List.range 16) s = s := by
  refine ext (img_lt (fun t => ?_) _) h fun i hi => ?_
  · rw [List.getD_eq_getElem?_getD]
    by_cases ht : t < 16
    · rw [List.getElem?_eq_getElem (by simpa using ht)]; simpa using ht
    · rw [List.getElem?_eq_none (by simpa using ht)]; simp
  · rw [image_bit, Bool.eq_iff_iff, hit, List.any_eq_true]
    constructor
    · rintro ⟨t, ht, h1⟩
      have ht := List.mem_range.1 ht
      rw [List.getD_eq_getElem?_getD, List.getElem?_eq_getElem (by simpa using ht)] at h1
      simp at h1
      rw [← h1.2]; exact h1.1
    · intro h1
      refine ⟨i, List.mem_range.2 hi, ?_⟩
      rw [List.getD_eq_getElem?_getD, List.getElem?_eq_getElem (by simpa using hi)]
      simpa using h1
/-- What the document's loops have made so far. -/
def part (m : List Nat) (s u t out : Nat) : Prop := out < 65536 ∧ ∀ v, out.testBit v = ((decide (v < u) && hit m s v 16) || (decide (v = u) && hit m s u t))
theorem part_zero (m : List Nat) (s : Nat) : part m s 0 0 0 := ⟨by omega, fun v => by simp [hit]⟩
theorem part_yes {m : List Nat} {s u t out : Nat} (h : part m s u t out) (hu : u < 16) (hs : s.testBit t = true) (hm : m.getD t 0 = u) : part m s u (t + 1) (out ||| 2 ^ u) :=
  ⟨Nat.or_lt_two_pow (n := 16) h.1 (Nat.pow_lt_pow_right (by omega) hu), fun v => by
    rw [Nat.testBit_or, Nat.testBit_two_pow, h.2 v, hit_succ m s u t, hs, hm]
    by_cases e : v = u
    · subst e; simp
    · have e' : ¬ u = v := fun x => e x.symm
      simp [e, e']⟩
theorem part_no {m : List Nat} {s u t out : Nat} (h : part m s u t out) (hs : (s.testBit t && decide (m.getD t 0 = u)) = false) : part m s u (t + 1) out :=
  ⟨h.1, fun v => by rw [h.2 v, hit_succ m s u t, hs, Bool.or_false]⟩
theorem part_next {m : List Nat} {s u out : Nat} (h : part m s u 16 out) : part m s (u + 1) 0 out :=
  ⟨h.1, fun v => by
    rw [h.2 v]
    have h0 : hit m s (u + 1) 0 = false := by simp [hit]
    rw [h0, Bool.and_false, Bool.or_false]
    by_cases e : v = u
    · subst e; simp
    · have e1 : (decide (v < u + 1)) = decide (v < u) := by
        rw [decide_eq_decide]; omega
      simp [e, e1]⟩
theorem part_end {m : List Nat} (hm : ∀ t, m.getD t 0 < 16) {s out : Nat} (h : part m s 16 0 out) : out = image m s := by
  refine ext h.1 (img_lt hm _) fun i hi => ?_
  rw [h.2 i, image_bit]
  have h0 : ¬ i = 16 := by omega
  simp [hi, h0]
end Tag
theorem MapOk.getD {m : List Nat} (h : MapOk m) (t : Nat) : m.getD t 0 < 16 := by
  rw [List.getD_eq_getElem?_getD]
  by_cases ht : t < m.length
  · rw [List.getElem?_eq_getElem ht]; exact h.get t ht
  · rw [List.getElem?_eq_none (by omega)]; simp
theorem getD_of {m : List Nat} {t : Nat} (ht : t < m.length) : m.getD t 0 = m[t] := by rw [List.getD_eq_getElem?_getD, List.getElem?_eq_getElem ht]; rfl
end Go.Proofs.YtlmacaenbililaaGreatDoor
namespace Go.Proofs.YtlmacaenbililaaGreatDoor
open Go.RowKit Go.Shelf
set_option linter.unusedSimpArgs false
set_option linter.unusedVariables false
attribute [local go_sem] cell_over frozen_over

set_option maxRecDepth 100000 in
set_option maxHeartbeats 4000000 in
theorem r04set_ok (m : List Nat) (hm : MapOk m) (s : Nat) (hs : s < 65536) (w : World) : Calls Tryz.prog 96 #[mapV m, .int .u16 (s : Int)] w fun e w' => e = .returned (.int .u16 (Tag.image m s : Int)) ∧ Below w.heap.size w w' := by
  have HM := Lib.hid hm
  have HI := Lib.hid (show MapIn w.heap.size m (w.alloc (.cells (mapC m).toArray 31)) from heap_alloc_new w _)
  have HB := Lib.hid (below_fresh w (.cells (mapC m).toArray 31))
  clear hm
  unfold mapV
  go_enter Tryz.func96, Tryz.ntmps96
  go_wp2_with fail
  go_loopw [5, 6, 7] (fun v i _ wr => ∃ (u out : Nat), v = .int .u16 (out : Int) ∧ i = .int .i64 (u : Int) ∧ u ≤ 16 ∧ Hid (Tag.part m s u 0 out) ∧ Hid (MapIn w.heap.size m wr) ∧ Hid (Below w.heap.size w wr)) (fun _ i _ _ => 16 - (intOf i).toNat)
  case atStart => exact ⟨0, 0, rfl, rfl, by omega, Lib.hid (Tag.part_zero m s), HI, HB⟩
  case round =>
    obtain ⟨u, out, rfl, rfl, hu, hP, hI, hW⟩ := hrel
    by_cases hu16 : u = 16
    · subst hu16
      have hr := Lib.hid (Tag.part_end HM.out.getD hP.out)
      go_wp2_with fail
      go_ret
      exact ⟨by rw [hr.out]; rfl, hW.out⟩
    · have hul : u < 16 := by omega
      have hui : (u : Int) < 16 := by omega
      obtain ⟨wo, rfl⟩ : ∃ wo : World, wo = wr := ⟨_, rfl⟩
      clear hu16 HI HB
      go_wp2_with fail
      go_loopw [5, 7] (fun v i wr => ∃ (t out : Nat), v = .int .u16 (out : Int) ∧ i = .int .i64 (t : Int) ∧ t ≤ 16 ∧ Hid (Tag.part m s u t out) ∧ Hid (MapIn w.heap.size m wr) ∧ Hid (Below w.heap.size w wr)) (fun _ i _ => 16 - (intOf i).toNat)
      case atStart => exact ⟨0, out, rfl, rfl, by omega, hP, hI, hW⟩
      case round =>
        obtain ⟨t, o2, rfl, rfl, ht, hP2, hI2, hW2⟩ := hrel
        by_cases ht16 : t = 16
        · subst ht16
          have hr := Lib.hid (Tag.part_next hP2.out)
          go_wp2_with fail
          go_roundw
          case rel => exact ⟨u + 1, o2, rfl, by go_num, by omega, hr, hI2, hW2⟩
          case measure => simp [intOf]; omega
        · have htl : t < 16 := by omega
          have hti : (t : Int) < 16 := by omega
          have htm : t < m.length := by rw [HM.out.1]; exact htl
          have hc := hI2.out.cell t htm
          have hgd : m.getD t 0 = m[t] := getD_of htm
          have HH := Lib.hid (fun w => hasb_ok s hs t htl w)
          have HY : Hid (s.testBit t = true → m[t] = u → Tag.part m s u (t + 1) (o2 ||| 2 ^ u)) := Lib.hid (fun h1 h2 => Tag.part_yes hP2.out hul h1 (hgd.trans h2))
          have HN : Hid ((s.testBit t = true → m[t] = u → False) → Tag.part m s u (t + 1) o2) := Lib.hid (fun h => Tag.part_no hP2.out (by
            cases hb : s.testBit t with
            | false => rfl
            | true => rw [hgd]; simpa using h hb))
          have HW := Lib.hid (fun w => withb_ok o2 hP2.out.1 u hul w)
          obtain ⟨x, hx⟩ : ∃ x, x = m[t] := ⟨_, rfl⟩
          have hx16 : x < 16 := by rw [hx]; exact HM.out.get t htm
          rw [← hx] at hc HY HN
          generalize s.testBit t = b at HH HY HN
          have hw64 : wrap64 (x : Int) = (x : Int) := by unfold wrap64; omega
          clear hgd hx ht16 hP2
          cases b with
          | false =>
            have hn := Lib.hid (HN.out (fun h => by cases h))
            go_wp2_with (go_at_call 100; refine (HH.out _).mono ?_; rintro e w1 ⟨rfl, hw1⟩; obtain rfl := hw1.symm)
            go_roundw
            case rel => exact ⟨t + 1, o2, rfl, by go_num, by omega, hn, hI2, hW2⟩
            case measure => simp [intOf]; omega
          | true =>
            by_cases he : x = u
            · have hg : ((x : Int) == (u : Int)) = true := by simpa using (show (x : Int) = (u : Int) by omega)
              have he1 : (x : Int) = (u : Int) := by omega
              have hn := Lib.hid (HY.out rfl he)
              clear HY HN he
              go_wp2_with (first
                | (go_at_call 100; refine (HH.out _).mono ?_; rintro e w1 ⟨rfl, hw1⟩; obtain rfl := hw1.symm)
                | (go_at_call 103; refine (HW.out _).mono ?_; rintro e w1 ⟨rfl, hw1⟩; obtain rfl := hw1.symm))
              go_roundw
              case rel => exact ⟨t + 1, _, rfl, by go_num, by omega, hn, hI2, hW2⟩
              case measure => simp [intOf]; omega
            · have he1 : ¬ (x : Int) = (u : Int) := by omega
              have hg : ((x : Int) == (u : Int)) = false := by simpa using he1
              have hn := Lib.hid (HN.out (fun _ h => he h))
              clear HY HN he
              go_wp2_with (go_at_call 100; refine (HH.out _).mono ?_; rintro e w1 ⟨rfl, hw1⟩; obtain rfl := hw1.symm)
              go_roundw
              case rel => exact ⟨t + 1, o2, rfl, by go_num, by omega, hn, hI2, hW2⟩
              case measure => simp [intOf]; omega
theorem setsOf_lt {m : List Nat} (hm : MapOk m) (a : Lab.L) : Lab.ok (Tag.image m a.1, Tag.image m a.2) := ⟨Tag.img_lt hm.getD _, Tag.img_lt hm.getD _⟩
end Go.Proofs.YtlmacaenbililaaGreatDoor
namespace Go.Proofs.YtlmacaenbililaaGreatDoor
open Go.RowKit Go.Shelf
set_option linter.unusedSimpArgs false
set_option linter.unusedVariables false
attribute [local go_sem] cell_over frozen_over Oper.semAt_some

theorem heap_alloc2_old' (w : World) (o p q : Obj) : ((w.alloc o).alloc p |>.alloc q).heap[w.heap.size]? = some o := by
  rw [Below.heap_alloc _ _ _ (by rw [World.size_alloc, World.size_alloc]; omega), Below.heap_alloc _ _ _ (by rw [World.size_alloc]; omega)]; exact heap_alloc_new _ _
/-- The image of a label. -/
def imageL (m : List Nat) (a : Lab.L) : Lab.L := (Tag.image m a.1, Tag.image m a.2)
theorem imageL_ok {m : List Nat} (hm : MapOk m) (a : Lab.L) : Lab.ok (imageL m a) := setsOf_lt hm a
set_option maxRecDepth 100000 in
set_option maxHeartbeats 2000000 in
theorem r04label_ok (m : List Nat) (hm : MapOk m) (a : Lab.L) (ha : Lab.ok a) (w : World) : Calls Tryz.prog 40 #[mapV m, labV a] w fun e w' => e = .returned (labV (imageL m a)) ∧ Below w.heap.size w w' := by
  have HS1 := Lib.hid (fun w => r04set_ok m hm a.1 ha.1 w)
  have HS2 := Lib.hid (fun w => r04set_ok m hm a.2 ha.2 w)
  have hlm : (mapC m).length = 16 := (mapC_len m).trans hm.1
  unfold imageL
  obtain ⟨a1, a2⟩ := a
  have HMC := Lib.hid (show ∀ W : World, (∃ X, W = over (((w.alloc (.cells (mapC m).toArray 31)).alloc (.cells #[.int .u16 (a1 : Int), .int .u16 (a2 : Int)] 25)).alloc (.cells #[.int .u16 0, .int .u16 0] 25)) X) → W.rangeAt w.heap.size 0 (mapC m) from by
    rintro W ⟨X, rfl⟩
    exact rangeAt_over (MapIn.range (heap_alloc2_old' w _ _ _)))
  have HB := Lib.hid (below_new (below_new (below_fresh w (.cells (mapC m).toArray 31)) (.cells #[.int .u16 (a1 : Int), .int .u16 (a2 : Int)] 25)) (.cells #[.int .u16 0, .int .u16 0] 25))
  simp only at HS1 HS2 ⊢
  generalize Tag.image m a1 = s1 at HS1 ⊢
  generalize Tag.image m a2 = s2 at HS2 ⊢
  clear hm ha
  unfold mapV at HS1 HS2 ⊢
  go_enter Tryz.func40, Tryz.ntmps40
  go_wp2_with fail
  refine wp_region_over_tail 9 (by kernel_rfl) (by kernel_rfl) ?_
  simp only [List.take_succ_cons, List.take_zero, List.drop_succ_cons, List.drop_zero]
  repeat (first
    | (go_big_quiet_want; refine quiet_load_mid 31 (.tmp 2) rfl w.heap.size 0 rfl (mapC m) _ HMC.out Tryz.underlying31 rfl (by rw [hlm]; exact map_size) ?_; go_big_quiet_on; simp only [Act.put, List.setIfInBounds_toArray, List.set_cons_succ, List.set_cons_zero])
    | go_big_quiet_step (first
      | ((go_at_call 96; with_reducible exact Calls.over_of (HS1.out _)))
      | ((go_at_call 96; with_reducible exact Calls.over_of (HS2.out _)))))
  refine wpQuiet_nil ?_
  intro W7 hW7
  have hb7 := below_of_over hW7
  have hr7 := block_below hb7 (heap_alloc_new ((w.alloc (.cells (mapC m).toArray 31)).alloc (.cells #[.int .u16 (a1 : Int), .int .u16 (a2 : Int)] 25)) (.cells #[.int .u16 0, .int .u16 0] 25))
  rw [World.size_alloc, World.size_alloc] at hr7
  obtain ⟨c0, c1, f0, f1⟩ := pair_cells hr7
  have HR7 := Lib.hid hr7
  have HB7 := Lib.hid (below_here HB.out hb7)
  clear hr7 hW7 hb7
  go_wp2_with fail
  exact ret_cell rfl (w.heap.size + 1 + 1) 0 rfl [.int .u16 (s1 : Int), .int .u16 (s2 : Int)] _ (range_of_block (heap_setCells_same _ _ [.int .u16 (s1 : Int), .int .u16 (s2 : Int)] 0 W7 [.int .u16 0, .int .u16 0] HR7.out (by simp)) 0 _ (fun j _ => by rw [Nat.zero_add]; rfl)) Tryz.underlying25 rfl info_lab rfl ⟨rfl, below_setCells HB7.out (g := w.heap.size + 1 + 1) (by omega) 0 [.int .u16 (s1 : Int), .int .u16 (s2 : Int)]⟩
set_option maxRecDepth 100000 in
set_option maxHeartbeats 2000000 in
theorem same4_ok (w : World) : Calls Tryz.prog 148 #[] w fun e w' => e = .returned (mapV (List.range 16)) ∧ Below w.heap.size w w' := by
  have HB := Lib.hid (below_new (below_fresh w (.cells (mapC (List.replicate 16 0)).toArray 31)) (.cells (mapC (List.replicate 16 0)).toArray 31))
  have HM := Lib.hid (show MapIn (w.heap.size + 1) (List.range 0 ++ List.replicate 16 0) ((w.alloc (.cells (mapC (List.replicate 16 0)).toArray 31)).alloc (.cells (mapC (List.replicate 16 0)).toArray 31)) from by
    have := heap_alloc_new (w.alloc (.cells (mapC (List.replicate 16 0)).toArray 31)) (.cells (mapC (List.replicate 16 0)).toArray 31)
    rw [World.size_alloc] at this
    exact this)
  have HR := Lib.hid (show MapIn w.heap.size (List.replicate 16 0) ((w.alloc (.cells (mapC (List.replicate 16 0)).toArray 31)).alloc (.cells (mapC (List.replicate 16 0)).toArray 31)) from heap_alloc2_old w _ _)
  go_enter Tryz.func148, Tryz.ntmps148
  go_wp2_with fail
  go_loopw [2, 3] (fun _ i wr => ∃ (k : Nat), i = .int .i64 (k : Int) ∧ k ≤ 16 ∧ Hid (MapIn (w.heap.size + 1) (List.range k ++ List.replicate (16 - k) 0) wr) ∧ Hid (MapIn w.heap.size (List.replicate 16 0) wr) ∧ Hid (Below w.heap.size w wr)) (fun _ i _ => 16 - (intOf i).toNat)
  case atStart => exact ⟨0, rfl, by omega, HM, HR, HB⟩
  case round =>
    clear HM HR HB
    obtain ⟨k, rfl, hk, hM, hR, hW⟩ := hrel
    by_cases hk16 : k = 16
    · subst hk16
      have hM' : Hid (MapIn (w.heap.size + 1) (List.range 16) wr) := Lib.hid (by have := hM.out; simpa using this)
      have HE := Lib.hid (MapIn.setCells hR.out rfl (show (List.range 16).length = 16 by simp)).range
      have hth := hR.out.there rfl
      go_wp2_with (first
        | (refine wpList_load_want 31 (.tmp 1) rfl (by kernel_rfl) (w.heap.size + 1) 0 rfl (mapC (List.range 16)) _ hM'.out.range Tryz.underlying31 rfl map_size ?_)
        | (refine wpList_store_mid rfl 31 _ _ rfl w.heap.size 0 (mapC (List.range 16)).toArray rfl rfl hth map_size (all_oneCell_toArray (mapC_one _)) ?_))
      exact ret_cell rfl w.heap.size 0 rfl (mapC (List.range 16)) _ HE.out Tryz.underlying31 rfl map_size rfl ⟨rfl, below_setCells hW.out (Nat.le_refl _) _ _⟩
    · have hkl : k < 16 := by omega
      have hki : (k : Int) < 16 := by omega
      have hlen : (List.range k ++ List.replicate (16 - k) 0).length = 16 := by simp; omega
      obtain ⟨z, hc⟩ : ∃ z : Nat, wr.cell? ⟨w.heap.size + 1, k, none⟩ = some (.int .u8 (z : Int)) := ⟨_, hM.out.cell k (by rw [hlen]; exact hkl)⟩
      have hfz := (hM.out.there hlen k hkl).2
      rw [Nat.zero_add] at hfz
      have hset : (List.range k ++ List.replicate (16 - k) 0).set k k = List.range (k + 1) ++ List.replicate (16 - (k + 1)) 0 := by
        rw [List.set_append_right _ _ (by simp), List.length_range, Nat.sub_self, show 16 - k = (16 - (k + 1)) + 1 by omega, List.replicate_succ, List.set_cons_zero, List.range_succ, List.append_assoc]
        rfl
      have HN := Lib.hid (hM.out.set k k)
      rw [hset] at HN
      have HO := Lib.hid (hR.out.other (w.heap.size + 1) k (.int .u8 (k : Int)) (by omega))
      have HQ := Lib.hid (hW.out.setCell (p := ⟨w.heap.size + 1, k, none⟩) (by show w.heap.size ≤ w.heap.size + 1; omega) (.int .u8 (k : Int)))
      have hw8 : IntKind.u8.wrap (k : Int) = (k : Int) := by simp [IntKind.wrap, IntKind.bits, IntKind.signed]; omega
      clear hk16 hlen hset
      go_wp2_with fail
      go_roundw
      case rel => exact ⟨k + 1, by go_num, by omega, HN, HO, HQ⟩
      case measure => simp [intOf]; omega
end Go.Proofs.YtlmacaenbililaaGreatDoor
namespace Go.Proofs.YtlmacaenbililaaGreatDoor
open Go.RowKit Go.Shelf
set_option linter.unusedSimpArgs false
set_option linter.unusedVariables false

theorem list16 {m : List Nat} (h : m.length = 16) : ∃ a0 a1 a2 a3 a4 a5 a6 a7 a8 a9 a10 a11 a12 a13 a14 a15, m = [a0, a1, a2, a3, a4, a5, a6, a7, a8, a9, a10, a11, a12, a13, a14, a15] := by
  match m, h with
  | [a0, a1, a2, a3, a4, a5, a6, a7, a8, a9, a10, a11, a12, a13, a14, a15], _ => exact ⟨a0, a1, a2, a3, a4, a5, a6, a7, a8, a9, a10, a11, a12, a13, a14, a15, rfl⟩
theorem run_u8_eql (d : Nat) (x y : Int) (W : World) : (Op.equalIn (d + 1) 5 (.int .u8 x) (.int .u8 y)).run Tryz.prog W = .ok (x == y) W := by go_simp
theorem run_items_u8 (d : Nat) (m k : List Nat) (W : World) : ∀ (is : List Nat), (∀ i ∈ is, i < m.length ∧ i < k.length) → (Op.eqItems (d + 1) 5 (Tryz.prog.cellsOf 5) (mapC m).toArray (mapC k).toArray is).run Tryz.prog W = .ok (is.all fun i => decide (m.getD i 0 = k.getD i 0)) W
  | [], _ => rfl
  | i :: is, h => by
    obtain ⟨h1, h2⟩ := h i List.mem_cons_self
    have hc : Tryz.prog.cellsOf 5 = 1 := by kernel_rfl
    have e1 : ((mapC m).toArray)[i]? = some (.int .u8 ((m.getD i 0 : Nat) : Int)) := by simp [mapC, h1]
    have e2 : ((mapC k).toArray)[i]? = some (.int .u8 ((k.getD i 0 : Nat) : Int)) := by simp [mapC, h2]
    have ih := run_items_u8 d m k W is (fun j hj => h j (List.mem_cons_of_mem _ hj))
    have hp1 : (part 5 (mapC m).toArray (i * Tryz.prog.cellsOf 5)).run Tryz.prog W = .ok (.int .u8 ((m.getD i 0 : Nat) : Int)) W := by rw [hc, Nat.mul_one]; unfold part; go_simp
    have hp2 : (part 5 (mapC k).toArray (i * Tryz.prog.cellsOf 5)).run Tryz.prog W = .ok (.int .u8 ((k.getD i 0 : Nat) : Int)) W := by rw [hc, Nat.mul_one]; unfold part; go_simp
    simp only [Op.eqItems, Sem.run_bind, hp1, hp2, Result.andThen_ok, run_u8_eql]
    by_cases e : m.getD i 0 = k.getD i 0
    · have hb : (((m.getD i 0 : Nat) : Int) == ((k.getD i 0 : Nat) : Int)) = true := by rw [e]; exact beq_self_eq_true _
      rw [hb]
      simp only [Bool.not_true, Bool.false_eq_true, if_false]
      rw [ih, List.all_cons, decide_eq_true e, Bool.true_and]
    · have hb : (((m.getD i 0 : Nat) : Int) == ((k.getD i 0 : Nat) : Int)) = false := beq_eq_false_iff_ne.2 (by omega)
      rw [hb]
      simp only [Bool.not_false, if_true, Sem.run_pure]
      rw [List.all_cons, decide_eq_false e, Bool.false_and]
theorem all_same {m k : List Nat} (hm : m.length = 16) (hk : k.length = 16) (h : ((List.range 16).all fun i => decide (m.getD i 0 = k.getD i 0)) = true) : m = k := by
  refine List.ext_getElem (by omega) fun i h1 h2 => ?_
  have := List.all_eq_true.1 h i (List.mem_range.2 (by omega))
  have e := of_decide_eq_true this
  rw [List.getD_eq_getElem?_getD, List.getD_eq_getElem?_getD, List.getElem?_eq_getElem h1, List.getElem?_eq_getElem h2] at e
  simpa using e
theorem info_u8m : ∃ i, Tryz.prog.info? 5 = some i := by
  cases h : Tryz.prog.info? 5 with
  | none => exact absurd (show (Tryz.prog.info? 5).isSome = true by kernel_rfl) (by rw [h]; simp)
  | some i => exact ⟨i, rfl⟩
theorem eql_map {m : List Nat} (hm : m.length = 16) : ∃ d : Bool, (d = true → m = List.range 16) ∧ ∀ (a : Act) (o : Oper) (X Y : Operand), o.op = .binOp .eql 31 X Y 31 → a.eval X = mapV m → a.eval Y = mapV (List.range 16) → ∀ W : World, (execOp a.eval o).run Tryz.prog W = .ok (.value (.bool d)) W := by
  refine ⟨(List.range 16).all fun i => decide (m.getD i 0 = (List.range 16).getD i 0), fun h => all_same hm (by simp) h, fun a o X Y ho hx hy W => ?_⟩
  obtain ⟨i0, hi0⟩ := info_u8m
  have h1 : (Op.equal 31 (mapV m) (mapV (List.range 16))).run Tryz.prog W = .ok ((List.range 16).all fun i => decide (m.getD i 0 = (List.range 16).getD i 0)) W := by
    unfold Op.equal mapV
    rw [show Op.maxDepth = (9998 + 1) + 1 from rfl]
    rw [run_equalIn_array W _ _ _ Tryz.underlying31 hi0]
    exact run_items_u8 _ m (List.range 16) W (List.range 16) (fun i hi => ⟨by have := List.mem_range.1 hi; omega, by simpa using hi⟩)
  have hg : (eqGuard .eql 31 X Y (mapV m) (mapV (List.range 16))).run Tryz.prog W = .ok () W := by unfold eqGuard mapV; go_simp
  unfold execOp
  simp only [ho, hx, hy]
  unfold mapV at h1 hg ⊢
  unfold binOp
  simp only [Sem.run_bind, hg, h1, Result.andThen_ok, Sem.run_pure]
end Go.Proofs.YtlmacaenbililaaGreatDoor
namespace Go.Proofs.YtlmacaenbililaaGreatDoor
open Go.RowKit Go.Shelf
set_option linter.unusedSimpArgs false
set_option linter.unusedVariables false
attribute [local go_sem] cell_over frozen_over Oper.semAt_some

theorem ints_new (W : World) (t : TypeId) (u : Int) : IntsAt ((W.alloc (.cells #[.int .i64 u] t)).drew) (some ⟨W.heap.size, 0, none⟩) [u] := .inr ⟨W.heap.size, 0, rfl, fun i hi => by
  obtain rfl : i = 0 := by simp at hi; omega
  exact cell_of_row (W.alloc (.cells #[.int .i64 u] t)) _ 0 _ _ _ (heap_alloc_new W _)⟩
set_option maxRecDepth 100000 in
set_option maxHeartbeats 4000000 in
theorem set4_ok (m : List Nat) (hm : MapOk m) (s : Nat) (hs : s < 65536) (w : World) (hT : TabAt w) : Calls Tryz.prog 165 #[mapV m, .int .u16 (s : Int)] w fun e w' => e = .returned (.int .u16 (Tag.image m s : Int)) ∧ Below w.heap.size w w' := by
  refine (callsIn_wide (n := 9)).1 ?_
  refine callsIn_of_wp_marks Tryz.func165 rfl trivial ?_ rfl
  refine wpIn_wide.2 ?_
  simp only [Tryz.ntmps165, List.size_toArray, List.length_cons, List.length_nil, Nat.reduceAdd, Nat.reduceSub, Array.replicate_succ, Array.replicate_zero, List.push_toArray, List.append_toArray, List.nil_append, List.cons_append]
  have HM := Lib.hid hm
  have hlm : (mapC m).length = 16 := (mapC_len m).trans hm.1
  have HI0 := Lib.hid (show MapIn w.heap.size m (w.alloc (.cells (mapC m).toArray 31)) from heap_alloc_new w _)
  have HB0 := Lib.hid (below_fresh w (.cells (mapC m).toArray 31))
  have HT := Lib.hid hT
  obtain ⟨d, hd, hE⟩ := eql_map hm.1
  obtain ⟨RES, hRES⟩ : ∃ RES, RES = Tag.image m s := ⟨_, rfl⟩
  rw [← hRES]
  have HD := Lib.hid (fun h : d = true => show RES = s by rw [hRES, hd h]; exact Tag.image_same hs)
  have HRES := Lib.hid hRES
  have HE := Lib.hid hE
  have HMC := Lib.hid (show ∀ W : World, (∃ X, W = over (w.alloc (.cells (mapC m).toArray 31)) X) → W.rangeAt w.heap.size 0 (mapC m) from by
    rintro W ⟨X, rfl⟩
    exact rangeAt_over HI0.out.range)
  clear hT hd hE hm hRES
  unfold mapV at HE ⊢
  go_wp2_with fail
  refine wp_region_over (by kernel_rfl) (by kernel_rfl) ?_
  repeat (first
    | (go_big_quiet_want; refine quiet_load_mid 31 (.tmp 2) rfl w.heap.size 0 rfl (mapC m) _ HMC.out Tryz.underlying31 rfl (by rw [hlm]; exact map_size) ?_; go_big_quiet_on; simp only [Act.put, List.setIfInBounds_toArray, List.set_cons_succ, List.set_cons_zero])
    | go_big_quiet_step ((go_at_call 148; exact Calls.over_of (same4_ok _)))
    | (go_big_quiet_want; refine quiet_value (.bool d) (fun W' _ => HE.out _ _ _ _ rfl rfl rfl W') ?_; simp only [Act.put, List.setIfInBounds_toArray, List.set_cons_succ, List.set_cons_zero]; rename_i K hK; refine hK _ ?_; clear hK K))
  refine wpQuiet_nil ?_
  intro W7 hW7
  have hb7 := below_of_over hW7
  have hB7 := below_here HB0.out hb7
  have hI7 := HI0.out.below hb7 (by rw [World.size_alloc]; omega)
  have hsz7 : w.heap.size < W7.heap.size := World.block_lt_of_cell? W7 _ (hI7.cell 0 (by rw [HM.out.1]; omega))
  clear hW7 hb7 HMC HE HI0
  cases d with
  | true =>
    have hr := Lib.hid (HD.out rfl)
    have HB7 := Lib.hid hB7
    clear hB7 hI7
    go_wp2_with fail
    refine ⟨_, results_tmp rfl _ _ _, by rw [hr.out]; rfl, HB7.out⟩
  | false =>
    go_wp2_with (go_at_call 105; refine (each_ok s _).mono ?_; rintro e w2 ⟨rfl, rfl⟩)
    have hT7 : TabAt W7 := HT.out.below hB7
    have HI7 := Lib.hid hI7
    have HB7 := Lib.hid hB7
    clear hI7 hB7
    have hBa : Below W7.heap.size W7 ((W7.alloc (.cells #[.int .u16 0] 23)).alloc (.cells #[.int .u16 (s : Int)] 23)) := below_new (below_new (Below.refl _ _) _) _
    have b1 : Boxed ((W7.alloc (.cells #[.int .u16 0] 23)).alloc (.cells #[.int .u16 (s : Int)] 23)) W7.heap.size 23 (.int .u16 0) := (Boxed.new W7 _ _).alloc _
    have b2 : Boxed ((W7.alloc (.cells #[.int .u16 0] 23)).alloc (.cells #[.int .u16 (s : Int)] 23)) (W7.heap.size + 1) 23 (.int .u16 (s : Int)) := by
      have := Boxed.new (W7.alloc (.cells #[.int .u16 0] 23)) 23 (.int .u16 (s : Int))
      rw [World.size_alloc] at this
      exact this
    have hseq := each_seqF 8 (W7.heap.size + 1) s W7.heap.size hs _ hT7.lt b2 (hT7.below hBa)
    refine (wpIn_wide (n := 9)).1 (wpIn_rangeFunc_ownH rfl (by omega) (gf := 168) (lb := #[.pointer (some ⟨W7.heap.size + 1, 0, none⟩)]) rfl trivial (enters_of Tryz.func168 (by kernel_rfl) rfl)
      hseq keepsLow_t (keepsLow_b (by simp; omega)) (Below.refl _ _) (fun _ => rfl)
      (fun pre W => Boxed W W7.heap.size 23 (.int .u16 (Tag.img m (pre.map (·.val)) : Int)) ∧ Below W7.heap.size W7 W)
      (fun _ _ _ => False)
      (OwnFrom.and (Own.from (boxed_own W7.heap.size 23 (fun pre : List (Fin 16) => .int .u16 (Tag.img m (pre.map (·.val)) : Int))) _) (ownFrom_below (Nat.le_refl _) (by simp; omega)))
      (fun _ _ _ _ _ hs _ _ => hs)
      ⟨b1, hBa⟩
      (fun x a' W => a' = { tmps := #[.agg (mapC m).toArray, .int .u16 (s : Int), .pointer (some ⟨w.heap.size, 0, none⟩), undef, .int .u16 0, .pointer (some ⟨W7.heap.size, 0, none⟩), .int .i64 (x.val : Int), .agg (mapC m).toArray, mapV (List.range 16), .bool false, undef, .int .u16 (s : Int), .func (.func 168) #[] #[.pointer (some ⟨W7.heap.size + 1, 0, none⟩)], .int .i64 (x.val : Int), undef, undef, undef, undef, undef, undef, undef, undef, undef], defers := [] })
      (fun x a' _ A B row hs hg hr => hs) ?assign ?body ?done ?stop)
    case assign =>
      rintro l pre x W K ⟨hv, hB⟩ hK
      simp only [List.zip_toArray, List.zip_cons_cons, List.zip_nil_right, List.foldl_toArray', List.foldl_cons, List.foldl_nil, List.setIfInBounds_toArray, List.set_cons_succ, List.set_cons_zero]
      gi_wp2
      exact hK _ _ ((KeepsOthers.refl _).from _) (fun _ _ => rfl) ⟨hv, hB⟩ rfl
    case body =>
      rintro l pre x a' W hl _ ⟨hv, hB⟩ rfl hlen
      obtain ⟨x, hx⟩ := x
      dsimp only
      have hcv := hv.cell
      have hfv := hv.frozen
      have hxm : x < m.length := by rw [HM.out.1]; exact hx
      have hcm := (HI7.out.below hB hsz7).cell x hxm
      have hu16 : m[x] < 16 := HM.out.get x hxm
      have hnext : Tag.img m ((pre ++ [(⟨x, hx⟩ : Fin 16)]).map (fun z : Fin 16 => z.val)) = Tag.img m (pre.map (fun z : Fin 16 => z.val)) ||| 2 ^ m[x] := by
        rw [List.map_append, List.map_singleton, Tag.img_snoc, getD_of hxm]
      have HN := Lib.hid hnext
      generalize m[x] = u at hcm hu16 HN
      have ho := Tag.img_lt HM.out.getD (pre.map (fun z : Fin 16 => z.val))
      have HO := Lib.hid ho
      obtain ⟨o, hoe⟩ : ∃ o, o = Tag.img m (pre.map (fun z : Fin 16 => z.val)) := ⟨_, rfl⟩
      have h2u : 2 ^ u < 65536 := Nat.pow_lt_pow_right (n := 16) (by omega) hu16
      rw [← hoe] at ho hv hcv HN
      obtain ⟨q, hq⟩ : ∃ q, q = 2 ^ u := ⟨_, rfl⟩
      have HOF := Lib.hid (fun W' (hA : IntsAt W' (some ⟨W.heap.size, 0, none⟩) [(u : Int)]) => of_ok (some ⟨W.heap.size, 0, none⟩) 1 [(u : Int)] (by simp) W' hA)
      rw [Tag.of_one hu16, ← hq] at HOF
      rw [← hq] at h2u HN
      have hor := u16_or o q ho h2u
      have hszW := hB.size
      have hlv := hv.lt
      have hlm2 : w.heap.size < W.heap.size := by omega
      have hwi : IntKind.i64.wrap (u : Int) = (u : Int) := IntWalk.i64_in _ (by omega)
      have hxi : (0 : Int) ≤ (x : Int) := by omega
      have hxj : (x : Int) < 16 := by omega
      clear hnext hoe hq
      have HEND : Hid (KeepsFrom ((W7.alloc (.cells #[.int .u16 0] 23)).alloc (.cells #[.int .u16 (s : Int)] 23)).heap.size W (((W.setCell ⟨W7.heap.size, 0, none⟩ (.int .u16 ((o ||| q : Nat) : Int))).alloc (.cells #[.int .i64 (u : Int)] 3)).drew) ∧ KeepsLow W7.heap.size W (((W.setCell ⟨W7.heap.size, 0, none⟩ (.int .u16 ((o ||| q : Nat) : Int))).alloc (.cells #[.int .i64 (u : Int)] 3)).drew) ∧
          Boxed (((W.setCell ⟨W7.heap.size, 0, none⟩ (.int .u16 ((o ||| q : Nat) : Int))).alloc (.cells #[.int .i64 (u : Int)] 3)).drew) W7.heap.size 23 (.int .u16 (Tag.img m ((pre ++ [(⟨x, hx⟩ : Fin 16)]).map (fun z : Fin 16 => z.val)) : Int)) ∧ Below W7.heap.size W7 (((W.setCell ⟨W7.heap.size, 0, none⟩ (.int .u16 ((o ||| q : Nat) : Int))).alloc (.cells #[.int .i64 (u : Int)] 3)).drew)) := Lib.hid (by
        refine ⟨KeepsOthers.from (((KeepsOthers.setCell W _ _).trans (KeepsOthers.alloc _ _)).trans (KeepsOthers.drew _)) _, ?_, ?_, ?_⟩
        · exact keepsLow_t (keepsLow_t (keepsLow_set W W7.heap.size 0 _ (Nat.le_refl _)) (keepsLow_below (by simp [World.setCell]; omega) (below_fresh _ _))) (fun k hk => rfl)
        · rw [HN.out]
          exact (hv.set _).alloc _
        · exact (below_new (hB.setCell (p := ⟨W7.heap.size, 0, none⟩) (Nat.le_refl _) _) _).drew)
      gi_wp2_with fail
      gi_region_with (refine ⟨trivial, ?_⟩; refine (CallsIn.inRound l (callsIn_wide.2 (HOF.out _ (ints_new W _ _)))).mono ?_; rintro e w3 ⟨rfl, rfl⟩)
      all_goals exact HEND.out
    case done =>
      rintro D ys W hD hys ⟨hv, hB⟩ hK
      have hr := Lib.hid (show RES = Tag.img m (ys.map (fun z : Fin 16 => z.val)) by rw [HRES.out, hys]; rfl)
      have hcv := hv.cell
      have HKD := Lib.hid hK
      have HB9 := Lib.hid (below_here HB7.out hB)
      have hDw : w.heap.size ≤ D := by simp at hD; omega
      clear hK hB b1 b2 hBa hseq hys
      generalize Tag.img m (ys.map (fun z : Fin 16 => z.val)) = o at hv hr hcv
      simp only
      go_wp2_with fail
      exact ⟨by simp, .inl ⟨_, _, rfl, run_takeDeferred HKD.out, _, results_tmp rfl _ _ _, by rw [hr.out]; rfl, HB9.out.trans (belowK_b (w := w) (Nat.le_refl _) W D _ _ hDw HKD.out rfl rfl)⟩⟩
    case stop =>
      rintro D c pre W _ _ h _
      exact h.elim
end Go.Proofs.YtlmacaenbililaaGreatDoor
namespace Go.Proofs.YtlmacaenbililaaGreatDoor
open Go.RowKit Go.Shelf
set_option linter.unusedSimpArgs false
set_option linter.unusedVariables false
attribute [local go_sem] cell_over frozen_over

set_option maxRecDepth 100000 in
set_option maxHeartbeats 2000000 in
theorem label4_ok (m : List Nat) (hm : MapOk m) (a : Lab.L) (ha : Lab.ok a) (w : World) (hT : TabAt w) : Calls Tryz.prog 95 #[mapV m, labV a] w fun e w' => e = .returned (labV (imageL m a)) ∧ Below w.heap.size w w' := by
  have HS1 := Lib.hid (fun w h => set4_ok m hm a.1 ha.1 w h)
  have HS2 := Lib.hid (fun w h => set4_ok m hm a.2 ha.2 w h)
  have hlm : (mapC m).length = 16 := (mapC_len m).trans hm.1
  unfold imageL
  obtain ⟨a1, a2⟩ := a
  have HMC := Lib.hid (show ∀ W : World, (∃ X, W = over (((w.alloc (.cells (mapC m).toArray 31)).alloc (.cells #[.int .u16 (a1 : Int), .int .u16 (a2 : Int)] 25)).alloc (.cells #[.int .u16 0, .int .u16 0] 25)) X) → W.rangeAt w.heap.size 0 (mapC m) from by
    rintro W ⟨X, rfl⟩
    exact rangeAt_over (MapIn.range (heap_alloc2_old' w _ _ _)))
  have HB := Lib.hid (below_new (below_new (below_fresh w (.cells (mapC m).toArray 31)) (.cells #[.int .u16 (a1 : Int), .int .u16 (a2 : Int)] 25)) (.cells #[.int .u16 0, .int .u16 0] 25))
  have HTW := Lib.hid (hT.below HB.out)
  simp only at HS1 HS2 ⊢
  generalize Tag.image m a1 = s1 at HS1 ⊢
  generalize Tag.image m a2 = s2 at HS2 ⊢
  clear hm ha hT
  unfold mapV at HS1 HS2 ⊢
  go_enter Tryz.func95, Tryz.ntmps95
  go_wp2_with fail
  refine wp_region_over_tail 9 (by kernel_rfl) (by kernel_rfl) ?_
  simp only [List.take_succ_cons, List.take_zero, List.drop_succ_cons, List.drop_zero]
  repeat (first
    | (go_big_quiet_want; refine quiet_load_mid 31 (.tmp 2) rfl w.heap.size 0 rfl (mapC m) _ HMC.out Tryz.underlying31 rfl (by rw [hlm]; exact map_size) ?_; go_big_quiet_on; simp only [Act.put, List.setIfInBounds_toArray, List.set_cons_succ, List.set_cons_zero])
    | go_big_quiet_step (first
      | ((go_at_call 165; with_reducible exact Calls.over_of (HS1.out _ (HTW.out.below (over_below _ _)))))
      | ((go_at_call 165; with_reducible exact Calls.over_of (HS2.out _ (HTW.out.below (over_below _ _)))))))
  refine wpQuiet_nil ?_
  intro W7 hW7
  have hb7 := below_of_over hW7
  have hr7 := block_below hb7 (heap_alloc_new ((w.alloc (.cells (mapC m).toArray 31)).alloc (.cells #[.int .u16 (a1 : Int), .int .u16 (a2 : Int)] 25)) (.cells #[.int .u16 0, .int .u16 0] 25))
  rw [World.size_alloc, World.size_alloc] at hr7
  obtain ⟨c0, c1, f0, f1⟩ := pair_cells hr7
  have HR7 := Lib.hid hr7
  have HB7 := Lib.hid (below_here HB.out hb7)
  clear hr7 hW7 hb7
  go_wp2_with fail
  exact ret_cell rfl (w.heap.size + 1 + 1) 0 rfl [.int .u16 (s1 : Int), .int .u16 (s2 : Int)] _ (range_of_block (heap_setCells_same _ _ [.int .u16 (s1 : Int), .int .u16 (s2 : Int)] 0 W7 [.int .u16 0, .int .u16 0] HR7.out (by simp)) 0 _ (fun j _ => by rw [Nat.zero_add]; rfl)) Tryz.underlying25 rfl info_lab rfl ⟨rfl, below_setCells HB7.out (g := w.heap.size + 1 + 1) (by omega) 0 [.int .u16 (s1 : Int), .int .u16 (s2 : Int)]⟩
set_option maxRecDepth 100000 in
set_option maxHeartbeats 2000000 in
theorem now_ok (m : List Nat) (hm : MapOk m) (x : Idn.I) (hx : Lab.ok x.1) (w : World) (hT : TabAt w) : Calls Tryz.prog 39 #[mapV m, idV x] w fun e w' => e = .returned (labV (imageL m x.1)) ∧ Below w.heap.size w w' := by
  have HL := Lib.hid (fun w h => label4_ok m hm x.1 hx w h)
  have hlm : (mapC m).length = 16 := (mapC_len m).trans hm.1
  obtain ⟨⟨a1, a2⟩, k1, n1⟩ := x
  have HI := Lib.hid (MapIn.range (heap_alloc2_old' w (.cells (mapC m).toArray 31) (.cells #[.int .u16 (a1 : Int), .int .u16 (a2 : Int), .int .i64 k1, .int .i64 n1] 64) (.cells #[.int .u16 0, .int .u16 0] 25)))
  have HB := Lib.hid (below_new (below_new (below_fresh w (.cells (mapC m).toArray 31)) (.cells #[.int .u16 (a1 : Int), .int .u16 (a2 : Int), .int .i64 k1, .int .i64 n1] 64)) (.cells #[.int .u16 0, .int .u16 0] 25))
  have HTW := Lib.hid (hT.below HB.out)
  have HR := Lib.hid (heap_alloc_new ((w.alloc (.cells (mapC m).toArray 31)).alloc (.cells #[.int .u16 (a1 : Int), .int .u16 (a2 : Int), .int .i64 k1, .int .i64 n1] 64)) (.cells #[.int .u16 0, .int .u16 0] 25))
  rw [World.size_alloc, World.size_alloc] at HR
  simp only at HL ⊢
  generalize imageL m (a1, a2) = v at HL ⊢
  obtain ⟨s1, s2⟩ := v
  clear hm hx hT
  unfold mapV at HL ⊢
  go_enter Tryz.func39, Tryz.ntmps39
  go_wp2_with (first
    | (refine wpList_load_want 31 (.tmp 2) rfl (by kernel_rfl) w.heap.size 0 rfl (mapC m) _ HI.out Tryz.underlying31 rfl (by rw [hlm]; exact map_size) ?_)
    | (go_at_call 95; refine (HL.out _ HTW.out).mono ?_; rintro e w1 ⟨rfl, hb1⟩; have hr1 := block_below hb1 HR.out; have HR1 := Lib.hid hr1; have HB1 := Lib.hid (below_here HB.out hb1); obtain ⟨c0, c1, f0, f1⟩ := pair_cells hr1; clear hr1 hb1))
  exact ret_cell rfl (w.heap.size + 1 + 1) 0 rfl [.int .u16 (s1 : Int), .int .u16 (s2 : Int)] _ (range_of_block (heap_setCells_same _ _ [.int .u16 (s1 : Int), .int .u16 (s2 : Int)] 0 w1 [.int .u16 0, .int .u16 0] HR1.out (by simp)) 0 _ (fun j _ => by rw [Nat.zero_add]; rfl)) Tryz.underlying25 rfl info_lab rfl ⟨rfl, below_setCells HB1.out (g := w.heap.size + 1 + 1) (by omega) 0 [.int .u16 (s1 : Int), .int .u16 (s2 : Int)]⟩
end Go.Proofs.YtlmacaenbililaaGreatDoor
