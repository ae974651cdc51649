/- Package tagset: Text: what it returns. No conditions. -/
import Derived.Test.YtlmacaenbililaaGreatDoorTtags
import Derived.Test.YtlmacaenbililaaGreatDoorSh
import Derived.Laws.IdiomStrings
namespace Go.Proofs.YtlmacaenbililaaGreatDoor
open Go.RowKit Go.Shelf
set_option linter.unusedSimpArgs false
set_option linter.unusedVariables false
attribute [local go_sem] Oper.semAt_some

namespace Tag
/-- A tag's digits. -/
def dig (t : Nat) : List UInt8 := if t < 10 then [UInt8.ofNat (48 + t)] else [UInt8.ofNat (48 + t / 10), UInt8.ofNat (48 + t % 10)]
def joinB : List Nat → List UInt8
  | [] => []
  | x :: r => dig x ++ r.flatMap (fun y => 44 :: dig y)
def text (s : Nat) : List UInt8 := if s = 0 then [45] else joinB (tags s)
theorem dig_itoa {t : Nat} (h : t < 16) : Lib.itoa (t : Int) = dig t := by
  unfold Lib.itoa dig
  rw [if_neg (by omega), Int.toNat_natCast]
  by_cases h1 : t < 10
  · rw [if_pos h1, Lib.decDigits_one h1]
  · rw [if_neg h1, Lib.decDigits_two h1 (by omega)]
theorem dig_len (t : Nat) : 1 ≤ (dig t).length ∧ (dig t).length ≤ 2 := by unfold dig; split <;> simp
theorem join_snoc (pre : List Nat) (x : Nat) (h : pre ≠ []) : joinB (pre ++ [x]) = joinB pre ++ 44 :: dig x := by
  cases pre with
  | nil => exact absurd rfl h
  | cons a r => simp [joinB, List.flatMap_append]
theorem join_one (x : Nat) : joinB [x] = dig x := by simp [joinB]
theorem flat_len : ∀ r : List Nat, (r.flatMap (fun y => 44 :: dig y)).length ≤ 3 * r.length
  | [] => by simp
  | a :: r => by
    have := flat_len r
    have := (dig_len a).2
    rw [List.flatMap_cons, List.length_append, List.length_cons, List.length_cons]
    omega
theorem join_len (l : List Nat) : (joinB l).length ≤ 3 * l.length := by
  cases l with
  | nil => simp [joinB]
  | cons a r =>
    have := flat_len r
    have := (dig_len a).2
    rw [joinB, List.length_append, List.length_cons]
    omega
theorem join_pos {l : List Nat} (h : l ≠ []) : 0 < (joinB l).length := by
  cases l with
  | nil => exact absurd rfl h
  | cons a r =>
    have := (dig_len a).1
    rw [joinB, List.length_append]
    omega
end Tag
theorem info_byte : (Tryz.prog.info? 5).map (fun i => (i.zero, i.size, i.bytes)) = some (some (.int .u8 0), 1, 1) := by kernel_rfl
/-- The table of strconv. -/
def PowAt (w : World) : Prop := Lib.TabBelow Tryz.prog w.heap.size w "internal/strconv.uint64pow10" .u64 Lib.pow10Tab
theorem PowAt.below {w W : World} (h : PowAt w) (hb : Below w.heap.size w W) : PowAt W := fun w' h' => h w' (below_here hb h')
theorem boxed_others {W W' : World} {b : Nat} {t : TypeId} {v : Value} (h : Boxed W b t v) (ho : Lib.OthersKept 5 none W W') (ht : t ≠ 5) : Boxed W' b t v := ho b _ h (by simp) (fun c fz e => by cases e; exact ht rfl)
theorem own_form {w : World} {base n : Nat} {e : TypeId} {v : Value} {xs : List Value} (h : w.ownsRow base e 1 v n xs) (hn : 0 < n) : ∃ g cap, v = .slice (some ⟨g, 0, none⟩) n cap := by
  cases n with
  | zero => omega
  | succ k => exact ownsRow_succ h
theorem itoa_pos {x : Nat} (h : x < 16) : 0 < (Lib.itoa (x : Int)).length ∧ (Lib.itoa (x : Int)).length ≤ 2 := by rw [Tag.dig_itoa h]; exact Tag.dig_len x
theorem listIn_conv {F : Fence} {n : Nat} {P : Program} {ops : Array Oper} {rest : List Oper} {o : Oper} {a : Act} {w : World} {Q : Exit → Act → World → Prop} (hgd : Region.wanted o (yielded ops a.tmps) = true) (src dst : TypeId) (x : Operand) (ho : o.op = .convert src dst x) (v v' : Value) (hx : a.eval x = v)
    (h : (convert src dst v).run P w = .ok v' w) (k : wpListIn F n P ops Q rest (a.put o.dst v') w) : wpListIn F n P ops Q (o :: rest) a w :=
  listIn_run hgd (by rw [ho]; intro c; exact Op.noConfusion) (by rw [ho]; intro c; exact Op.noConfusion) (x := .value v') (by
    unfold execOp
    simp only [ho, hx, Sem.run_bind, h, Result.andThen_ok, Sem.run_pure]) (.inl rfl) k
theorem keepsOthers_of {W W' : World} (h : Lib.OthersKept 5 none W W') (hs : W.heap.size ≤ W'.heap.size) : KeepsOthers W W' := ⟨hs, fun k o hk ho => h k o hk (by simp) (fun c fz e => by rw [e] at ho; cases ho)⟩
theorem keepsLow_b' {N : Nat} {A B : World} (h : Below N A B) : KeepsLow N A B := fun q hq => h.block q hq
theorem slice_comma (W : World) : (Instr.buildSlice 144 1 #[(0, .int .u8 44)]).run Tryz.prog W = .ok (.slice (some ⟨W.heap.size, 0, none⟩) 1 1) (W.alloc (.cells #[.int .u8 44] 5)) := by kernel_rfl
set_option maxRecDepth 100000 in
set_option maxHeartbeats 2000000 in
theorem text_ok (s : Nat) (hs : s < 65536) (w : World) (hT : TabAt w) (hW : PowAt w) :
    Calls Tryz.prog 126 #[.int .u16 (s : Int)] w fun e w' => e = .returned (.string ⟨(Tag.text s).toArray⟩) ∧ Below w.heap.size w w' := by
  refine (callsIn_wide (n := 9)).1 ?_
  refine callsIn_of_wp_marks Tryz.func126 rfl trivial ?_ rfl
  simp only [Tryz.ntmps126, List.size_toArray, List.length_cons, List.length_nil, Nat.reduceAdd, Nat.reduceSub, Array.replicate_succ, Array.replicate_zero, List.push_toArray, List.append_toArray, List.nil_append, List.cons_append]
  have HT := Lib.hid hT
  have HW := Lib.hid hW
  clear hT hW
  by_cases h0 : s = 0
  · subst h0
    refine wpIn_wide.2 ?_
    go_wp2_with fail
    refine ⟨_, results_tmp rfl _ _ _, rfl, Below.refl _ _⟩
  · have hnz : ((s : Int) == 0) = false := by simp; omega
    have hne : Tag.tags s ≠ [] := fun e => by
      have := (Tag.step (show 0 < s by omega) hs).2.1
      rw [e] at this; cases this
    have HN := Lib.hid hne
    have htx : Tag.text s = Tag.joinB (Tag.tags s) := if_neg h0
    rw [htx]
    clear h0 hne htx
    gi_wp2_with (refine ⟨trivial, ?_⟩; refine (callsIn_wide.2 (each_ok s _)).mono ?_; rintro e w1 ⟨rfl, rfl⟩)
    obtain ⟨i0, hi, hz0, hz1, hz2⟩ := info_parts info_byte
    have hB0 : Below w.heap.size w ((w.alloc (.cells #[.slice none 0 0] 144)).alloc (.cells #[.int .u16 (s : Int)] 23)) := below_new (below_new (Below.refl _ _) _) _
    have b1 : Boxed ((w.alloc (.cells #[.slice none 0 0] 144)).alloc (.cells #[.int .u16 (s : Int)] 23)) w.heap.size 144 (.slice none 0 0) := (Boxed.new w _ _).alloc _
    have b2 : Boxed ((w.alloc (.cells #[.slice none 0 0] 144)).alloc (.cells #[.int .u16 (s : Int)] 23)) (w.heap.size + 1) 23 (.int .u16 (s : Int)) := by
      have := Boxed.new (w.alloc (.cells #[.slice none 0 0] 144)) 23 (.int .u16 (s : Int))
      rw [World.size_alloc] at this
      exact this
    have hseq := each_seqF 8 (w.heap.size + 1) s w.heap.size hs _ HT.out.lt b2 (HT.out.below hB0)
    refine wpIn_rangeFunc_ownH rfl (by omega) (gf := 168) (lb := #[.pointer (some ⟨w.heap.size + 1, 0, none⟩)]) rfl trivial (enters_of Tryz.func168 (by kernel_rfl) rfl)
      hseq keepsLow_t (keepsLow_b (by simp; omega)) (Below.refl _ _) (fun _ => rfl)
      (fun pre W => (∃ v, Boxed W w.heap.size 144 v ∧ W.ownsRow w.heap.size 5 1 v (Tag.joinB (pre.map (·.val))).length (Lib.byteCells (Tag.joinB (pre.map (·.val)))) ∧ True) ∧ Below w.heap.size w W)
      (fun _ _ _ => False)
      (OwnFrom.and (Own.from (holdsRow_own w.heap.size w.heap.size 144 5 1 (fun pre : List (Fin 16) => (Tag.joinB (pre.map (·.val))).length) (fun pre : List (Fin 16) => Lib.byteCells (Tag.joinB (pre.map (·.val)))) (fun _ _ => True)) _) (ownFrom_below (Nat.le_refl _) (by simp; omega)))
      (fun _ _ _ _ _ hs _ _ => hs)
      ⟨⟨_, b1, World.ownsRow_nil _ _ _ _, trivial⟩, hB0⟩
      (fun x a' W => a' = { tmps := #[.int .u16 (s : Int), undef, .string ⟨#[]⟩, .pointer (some ⟨w.heap.size, 0, none⟩), .int .i64 (x.val : Int), .int .u16 (s : Int), .bool false, .int .u16 (s : Int), .func (.func 168) #[] #[.pointer (some ⟨w.heap.size + 1, 0, none⟩)], .int .i64 (x.val : Int), undef, undef, undef, undef, undef, undef, undef, undef, undef, undef, undef], defers := [] })
      (fun x a' _ A B row hs hg hr => hs) ?assign ?body ?done ?stop
    case assign =>
      rintro l pre x W K ⟨⟨v, hv, hrow, _⟩, hB⟩ hK
      simp only [List.zip_toArray, List.zip_cons_cons, List.zip_nil_right, List.foldl_toArray', List.foldl_cons, List.foldl_nil, List.setIfInBounds_toArray, List.set_cons_succ, List.set_cons_zero]
      gi_wp2
      exact hK _ _ ((KeepsOthers.refl _).from _) (fun _ _ => rfl) ⟨⟨v, hv, hrow, trivial⟩, hB⟩ rfl
    case body =>
      rintro l pre x a' W hl _ ⟨⟨v, hv, hrow, _⟩, hB⟩ rfl hlen
      obtain ⟨x, hx⟩ := x
      dsimp only
      have hp : pre.length < 16 := by have := Tag.tags_le s; omega
      have hjl := Tag.join_len (pre.map (·.val))
      rw [List.length_map] at hjl
      have hsz := hB.size
      have hcv := hv.cell
      have hfv := hv.frozen
      obtain ⟨A0, c0, rfl⟩ : ∃ A c, v = .slice A (Tag.joinB (pre.map (·.val))).length c := by
        rcases hrow.2 with ⟨rfl, h⟩ | ⟨g, cap, cur, rfl, _⟩
        · exact ⟨none, 0, by rw [h]⟩
        · exact ⟨_, _, rfl⟩
      by_cases hpre : pre = []
      · subst hpre
        have e0 : (Tag.joinB []).length = 0 := rfl
        have HROW := Lib.hid hrow
        gi_wp2_with (first | (refine ⟨trivial, ?_⟩; refine (CallsIn.inRound l (callsIn_wide.2 (Tryz.strconv_AppendInt_10 w.heap.size 0 (x : Int) (by omega) (by omega) _ [] _ HROW.out hsz (by omega) (HW.out.on hB)))).mono ?_; rintro e w3 ⟨v3, rfl, hown3, hb3, ho3⟩; obtain ⟨g3, cap3, rfl⟩ := own_form hown3 (by have := (itoa_pos hx).1; omega); have hv3 := boxed_others hv ho3 (by decide); have hc3 := hv3.cell; have hf3 := hv3.frozen; have HO3 := Lib.hid hown3; have HB3 := Lib.hid hb3; have HK3 := Lib.hid ho3; have HV3 := Lib.hid hv3; clear hown3 hb3 ho3 hv3))
        have hset := (HV3.out.set (.slice (some ⟨g3, 0, none⟩) (Lib.itoa (x : Int)).length cap3))
        have hown4 := HO3.out.kept (grownBy_setCell' w3 w.heap.size (.slice (some ⟨g3, 0, none⟩) (Lib.itoa (x : Int)).length cap3)) (.inr (HV3.out.not_row (by decide) HO3.out).symm)
        have hko : KeepsOthers W (w3.setCell ⟨w.heap.size, 0, none⟩ (.slice (some ⟨g3, 0, none⟩) (Lib.itoa (x : Int)).length cap3)) := (keepsOthers_of HK3.out HB3.out.size).trans (KeepsOthers.setCell _ _ _)
        have hkl : KeepsLow w.heap.size W (w3.setCell ⟨w.heap.size, 0, none⟩ (.slice (some ⟨g3, 0, none⟩) (Lib.itoa (x : Int)).length cap3)) := keepsLow_t (keepsLow_b' HB3.out) (keepsLow_set w3 w.heap.size 0 _ (Nat.le_refl _))
        have hbb : Below w.heap.size w (w3.setCell ⟨w.heap.size, 0, none⟩ (.slice (some ⟨g3, 0, none⟩) (Lib.itoa (x : Int)).length cap3)) := (hB.trans HB3.out).setCell (p := ⟨w.heap.size, 0, none⟩) (Nat.le_refl _) _
        exact ⟨hko.from _, hkl, ⟨_, hset, by rw [List.nil_append, List.map_singleton, Tag.join_one, ← Tag.dig_itoa hx]; simpa [Lib.byteCells] using hown4, trivial⟩, hbb⟩
      · have hjp := Tag.join_pos (l := pre.map (·.val)) (by simpa using hpre)
        obtain ⟨N, hN⟩ : ∃ N, N = (Tag.joinB (pre.map (·.val))).length := ⟨_, rfl⟩
        have HJ := Lib.hid hN
        rw [← hN] at hrow hjl hjp hcv hv
        clear hN
        have hNi : (0 : Int) < (N : Int) := by omega
        gi_wp2_with (first
          | (gi_at_builtin; refine wpListIn_append_own _ rfl (.tmp 13) (.tmp 14) 144 rfl w.heap.size 5 i0 (.int .u8 0) 1 1 Tryz.underlying144 hi hz0 hz1 hz2 rfl (by decide) (.slice A0 N c0) N (Lib.byteCells (Tag.joinB (pre.map (·.val)))) ?c1 (hrow.alloc _) ⟨W.heap.size, 0, none⟩ 1 1 [.int .u8 44] ?c2 ?c3 ?c4 ?c8 ?c5 ?c6 ?c7 ?_; (case c1 => simp [Act.eval, Act.put]); (case c2 => simp [Act.eval, Act.put]); (case c3 => rfl); (case c4 => exact news_block (heap_alloc_new W _)); (case c8 => simp [Value.oneCell']); (case c5 => unfold maxLen; omega); (case c6 => omega); (case c7 => rw [World.size_alloc]; omega); intro v' w1 hown' hgrow _; obtain ⟨g', cap', rfl⟩ := ownsRow_succ hown'; obtain ⟨hv1, hv2, hr2, hk2, hb2⟩ := hv.appended (by decide) hrow hB.size (by omega) hown' hgrow; have hc1 := hv1.cell; have hf1 := hv1.frozen; have hc2 := hv2.cell; have hsz2 := hb2.size; have hkl2 := keepsLow_b' hb2; have HR2 := Lib.hid hr2; have HB2 := Lib.hid (hB.trans hb2); have HV2 := Lib.hid hv2; have HK2 := Lib.hid hk2)
          | (refine ⟨trivial, ?_⟩; refine (CallsIn.inRound l (callsIn_wide.2 (Tryz.strconv_AppendInt_10 w.heap.size (N + 1) (x : Int) (by omega) (by omega) _ _ _ HR2.out (by omega) (by omega) (HW.out.on HB2.out)))).mono ?_; rintro e w3 ⟨v3, rfl, hown3, hb3, ho3⟩; obtain ⟨g3, cap3, rfl⟩ := own_form hown3 (by have := (itoa_pos hx).1; omega); have hv3 := boxed_others HV2.out ho3 (by decide); have hc3 := hv3.cell; have hf3 := hv3.frozen; have HO3 := Lib.hid hown3; have HB3 := Lib.hid hb3; have HK3 := Lib.hid ho3; have HV3 := Lib.hid hv3; clear hown3 hb3 ho3 hv3))
        have hset := (HV3.out.set (.slice (some ⟨g3, 0, none⟩) (N + 1 + (Lib.itoa (x : Int)).length) cap3))
        have hown4 := HO3.out.kept (grownBy_setCell' w3 w.heap.size (.slice (some ⟨g3, 0, none⟩) (N + 1 + (Lib.itoa (x : Int)).length) cap3)) (.inr (HV3.out.not_row (by decide) HO3.out).symm)
        have hko : KeepsOthers W (w3.setCell ⟨w.heap.size, 0, none⟩ (.slice (some ⟨g3, 0, none⟩) (N + 1 + (Lib.itoa (x : Int)).length) cap3)) := (HK2.out.trans (keepsOthers_of HK3.out HB3.out.size)).trans (KeepsOthers.setCell _ _ _)
        have hkl : KeepsLow w.heap.size W (w3.setCell ⟨w.heap.size, 0, none⟩ (.slice (some ⟨g3, 0, none⟩) (N + 1 + (Lib.itoa (x : Int)).length) cap3)) := keepsLow_t (keepsLow_t hkl2 (keepsLow_b' HB3.out)) (keepsLow_set w3 w.heap.size 0 _ (Nat.le_refl _))
        have hbb : Below w.heap.size w (w3.setCell ⟨w.heap.size, 0, none⟩ (.slice (some ⟨g3, 0, none⟩) (N + 1 + (Lib.itoa (x : Int)).length) cap3)) := (HB2.out.trans HB3.out).setCell (p := ⟨w.heap.size, 0, none⟩) (Nat.le_refl _) _
        have hJ := HJ.out
        have hcells : Tag.joinB ((pre ++ [(⟨x, hx⟩ : Fin 16)]).map (fun z : Fin 16 => z.val)) = Tag.joinB (pre.map (·.val)) ++ 44 :: Lib.itoa (x : Int) := by
          rw [List.map_append, List.map_singleton, Tag.join_snoc _ _ (by simpa using hpre), Tag.dig_itoa hx]
        refine ⟨hko.from _, hkl, ⟨_, hset, ?_, trivial⟩, hbb⟩
        rw [hcells]
        have e1 : (Tag.joinB (pre.map (·.val)) ++ 44 :: Lib.itoa (x : Int)).length = (N + 1 + (Lib.itoa (x : Int)).length) := by rw [List.length_append, List.length_cons, ← hJ]; omega
        have e2 : Lib.byteCells (Tag.joinB (pre.map (·.val)) ++ 44 :: Lib.itoa (x : Int)) = Lib.byteCells (Tag.joinB (pre.map (·.val))) ++ [.int .u8 44] ++ Lib.byteCells (Lib.itoa (x : Int)) := by simp [Lib.byteCells]
        rw [e1, e2]
        exact hown4
    case done =>
      rintro D ys W hD hys ⟨⟨v, hv, hrow, _⟩, hB⟩ hK
      rw [hys] at hrow
      obtain ⟨g, cap, rfl⟩ := own_form hrow (Tag.join_pos HN.out)
      have hcv := hv.cell
      have hcs : ∀ j (hj : j < (Tag.joinB (Tag.tags s)).length), W.cell? ((⟨g, 0, none⟩ : Addr).add j) = some (.int .u8 ((Tag.joinB (Tag.tags s))[j].toNat : Int)) := fun j hj => hrow.cells (g := g) rfl j _ (by simp [Lib.byteCells, hj])
      have HC := Lib.hid (run_convert_bytes_back W 144 9 5 ⟨g, 0, none⟩ cap (Tag.joinB (Tag.tags s)) Tryz.underlying144 Tryz.underlying5 Tryz.underlying9 hcs)
      clear hcs hys
      gi_wp2_with (refine listIn_conv rfl 144 9 (.tmp 19) rfl (.slice (some ⟨g, 0, none⟩) (Tag.joinB (Tag.tags s)).length cap) (.string ⟨(Tag.joinB (Tag.tags s)).toArray⟩) ?h1 HC.out ?_; (case h1 => simp [Act.eval, Act.put]))
      have hDw : w.heap.size + 2 ≤ D := by simp at hD; omega
      refine ⟨by simp, .inl ⟨_, _, rfl, run_takeDeferred hK, _, results_tmp rfl _ _ _, rfl, hB.trans (belowK_b (w := w) (Nat.le_refl _) W D _ _ (by omega) hK rfl rfl)⟩⟩
    case stop =>
      rintro D c pre W _ _ h _
      exact h.elim
end Go.Proofs.YtlmacaenbililaaGreatDoor
