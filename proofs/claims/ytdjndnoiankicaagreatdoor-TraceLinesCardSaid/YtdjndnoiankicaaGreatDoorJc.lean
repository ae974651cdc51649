/- The document's numbers, digits and words of a line: what they return. The document's digits of bytes, and the words of a line: what they return. The words of a line, as the document cuts it: what they are. A number of a line, as the document reads it: what it is. The bytes of digits, as the document reads them: what they are. The document's line of an entry: what it is. The document's reading of a line of a trace: which entry it is. The document's reading of a line of a trace: at five words, and whole. No conditions. -/
import Derived.Test.YtdjndnoiankicaaGreatDoorJa
import Derived.Test.YtdjndnoiankicaaGreatDoorKind
import Derived.Test.YtdjndnoiankicaaGreatDoorFree
import Derived.Test.YtdjndnoiankicaaGreatDoorRidd
namespace Go.Proofs.YtdjndnoiankicaaGreatDoor
open Go.RowKit Go.Shelf
set_option linter.unusedSimpArgs false
set_option linter.unusedVariables false
attribute [local go_sem] cell_over frozen_over

theorem digit_of : ∀ d : Fin 10, (⟨#[48, 49, 50, 51, 52, 53, 54, 55, 56, 57]⟩ : ByteArray).extract d.val (d.val + 1) = ⟨#[UInt8.ofNat (48 + d.val)]⟩ := by decide
theorem slice_digit (u : Nat) (W : World) : (Instr.slice 9 (.string ⟨#[48, 49, 50, 51, 52, 53, 54, 55, 56, 57]⟩) (some (.int .i64 ((u % 10 : Nat) : Int))) (some (.int .i64 (((u % 10 : Nat) : Int) + 1))) none).run Tryz.prog W = .ok (.string ⟨#[UInt8.ofNat (48 + u % 10)]⟩) W := by
  have h : u % 10 < 10 := Nat.mod_lt _ (by omega)
  rw [run_slice_string W 9 _ .i64 .i64 ((u % 10 : Nat) : Int) (((u % 10 : Nat) : Int) + 1) Tryz.underlying9 (by omega) (by omega) (by show (((u % 10 : Nat) : Int) + 1) ≤ 10; omega)]
  have := digit_of ⟨u % 10, h⟩
  rw [Int.toNat_natCast, show (((u % 10 : Nat) : Int) + 1).toNat = u % 10 + 1 by omega, this]
set_option maxRecDepth 100000 in
theorem rdec_ok : ∀ (n u : Nat), u < 10 ^ (n + 1) → u ≤ 9223372036854775807 → n ≤ 18 → ∀ w : World, Calls Tryz.prog 90 #[.int .i64 (u : Int)] w fun e w' => e = .returned (.string ⟨(Lib.decDigits u).toArray⟩) ∧ w' = w := by
  intro n
  induction n with
  | zero =>
    intro u hu hb hn w
    have h10 : u < 10 := by simpa using hu
    have hi : (u : Int) < 10 := by omega
    have hm : u % 10 = u := Nat.mod_eq_of_lt h10
    have hs := slice_digit u
    rw [hm] at hs
    have ht : (u : Int).tmod 10 = (u : Int) := by rw [Int.tmod_eq_emod_of_nonneg (by omega)]; omega
    rw [Lib.decDigits_one h10]
    generalize UInt8.ofNat (48 + u) = c at hs ⊢
    clear hu hm
    go_enter Tryz.func90, Tryz.ntmps90
    go_wp2_with fail
    go_ret
    exact ⟨rfl, rfl⟩
  | succ n ih =>
    intro u hu hb hn w
    by_cases h10 : u < 10
    · exact ih u (Nat.lt_of_lt_of_le h10 (Nat.le_self_pow (by omega) 10)) hb (by omega) w
    · have hi : ¬ (u : Int) < 10 := by omega
      have hs := slice_digit u
      have ht : (u : Int).tmod 10 = ((u % 10 : Nat) : Int) := by rw [Int.tmod_eq_emod_of_nonneg (by omega)]; omega
      have hq : (u : Int).tdiv 10 = ((u / 10 : Nat) : Int) := by rw [Int.tdiv_eq_ediv_of_nonneg (by omega)]; omega
      have HI := Lib.hid (fun w => ih (u / 10) (by rw [Nat.pow_succ] at hu; omega) (by omega) (by omega) w)
      have hd : (⟨(Lib.decDigits (u / 10)).toArray⟩ : ByteArray) ++ ⟨#[UInt8.ofNat (48 + u % 10)]⟩ = ⟨(Lib.decDigits u).toArray⟩ := by
        rw [Lib.decDigits.eq_1 u, dif_neg h10]
        exact Tag.bytes_ext (by simp)
      have hl : (⟨(Lib.decDigits (u / 10)).toArray⟩ : ByteArray).size ≤ 19 := by
        have h1 : Lib.nDigits (u / 10) ≤ 19 := Nat.le_of_lt_succ (by
          have key : ∀ k v : Nat, v < 10 ^ (k + 1) → Lib.nDigits v ≤ k + 1 := by
            intro k
            induction k with
            | zero => intro v hv; rw [Lib.nDigits_small (by simpa using hv)]; exact Nat.le_refl _
            | succ k ih =>
              intro v hv
              by_cases h1 : v < 10
              · rw [Lib.nDigits_small h1]; omega
              · rw [Lib.nDigits_big h1]
                have := ih (v / 10) (by rw [Nat.pow_succ] at hv; omega)
                omega
          exact Nat.lt_succ_of_le (key 18 (u / 10) (Nat.lt_of_le_of_lt (show u / 10 ≤ 9223372036854775807 by omega) (by decide))))
        show (Lib.decDigits (u / 10)).toArray.size ≤ 19
        rw [List.size_toArray, Lib.decDigits_length]; exact h1
      have hr : u % 10 < 10 := Nat.mod_lt _ (by omega)
      rw [← hd]
      generalize UInt8.ofNat (48 + u % 10) = c at hs ⊢
      generalize (⟨(Lib.decDigits (u / 10)).toArray⟩ : ByteArray) = D at HI hl ⊢
      generalize u % 10 = r at hs ht hr ⊢
      have hq2 : u / 10 ≤ 922337203685477580 := by omega
      generalize u / 10 = q at HI hq hq2
      have hq3 : wrap64 (q : Int) = (q : Int) := by unfold wrap64; omega
      clear hu ih hd
      go_enter Tryz.func90, Tryz.ntmps90
      go_wp2_with (go_at_call 90; refine (HI.out _).mono ?_; rintro e w1 ⟨rfl, hw1⟩; obtain rfl := hw1.symm)
      go_ret
      exact ⟨rfl, rfl⟩
end Go.Proofs.YtdjndnoiankicaaGreatDoor
namespace Go.Proofs.YtdjndnoiankicaaGreatDoor
open Go.RowKit Go.Shelf
set_option linter.unusedSimpArgs false
set_option linter.unusedVariables false
attribute [local go_sem] cell_over frozen_over

theorem hexd_slice : ∀ d : Fin 16, (⟨#[48, 49, 50, 51, 52, 53, 54, 55, 56, 57, 97, 98, 99, 100, 101, 102]⟩ : ByteArray).extract d.val (d.val + 1) = ⟨#[Tr.hexd d.val]⟩ := by decide
theorem slice_hex (j : Nat) (hj : j < 16) (W : World) : (Instr.slice 9 (.string ⟨#[48, 49, 50, 51, 52, 53, 54, 55, 56, 57, 97, 98, 99, 100, 101, 102]⟩) (some (.int .i64 (j : Int))) (some (.int .i64 ((j : Int) + 1))) none).run Tryz.prog W = .ok (.string ⟨#[Tr.hexd j]⟩) W := by
  rw [run_slice_string W 9 _ .i64 .i64 (j : Int) ((j : Int) + 1) Tryz.underlying9 (by omega) (by omega) (by show ((j : Int) + 1) ≤ 16; omega)]
  have := hexd_slice ⟨j, hj⟩
  simp only at this
  rw [Int.toNat_natCast, show ((j : Int) + 1).toNat = j + 1 by omega, this]
set_option maxRecDepth 100000 in
set_option maxHeartbeats 2000000 in
theorem rhex_ok (s : ByteArray) (hs : s.size ≤ 1000) (w : World) : Calls Tryz.prog 92 #[.string s] w fun e w' => e = .returned (.string ⟨(Tr.hex s.data.toList).toArray⟩) ∧ Below w.heap.size w w' := by
  have hl : s.data.toList.length = s.size := by rw [Array.length_toList]; rfl
  obtain ⟨res, hres⟩ : ∃ res, res = Tr.hex s.data.toList := ⟨_, rfl⟩
  rw [← hres]
  have HRES := Lib.hid hres
  clear hres
  go_enter Tryz.func92, Tryz.ntmps92
  go_wp2_with fail
  go_loopw [4, 5] (fun o i wr => ∃ (k : Nat), i = .int .i64 (k : Int) ∧ k ≤ s.size ∧ o = .string ⟨(Tr.hexl (s.data.toList.take k)).toArray⟩ ∧ Hid (Below w.heap.size w wr)) (fun _ i _ => s.size - (intOf i).toNat)
  case atStart => exact ⟨0, rfl, Nat.zero_le _, rfl, Lib.hid (Below.refl _ _)⟩
  case round =>
    obtain ⟨k, rfl, hk, rfl, hW⟩ := hrel
    by_cases hks : k = s.size
    · subst hks
      rw [List.take_of_length_le (Nat.le_of_eq hl)]
      by_cases h0 : s.data.toList = []
      · have hr : res = [45] := by rw [HRES.out, h0]; rfl
        rw [h0]
        have HR := Lib.hid hr
        clear hr h0
        go_wp2_with fail
        go_ret
        exact ⟨by rw [HR.out]; rfl, hW.out⟩
      · have hr : res = Tr.hexl s.data.toList := by rw [HRES.out, Tr.hex_ne h0]
        have hne : Tr.hexl s.data.toList ≠ [] := fun h => h0 (by have := congrArg List.length h; rw [Tr.hexl_len] at this; exact List.length_eq_zero_iff.1 (by simp at this; omega))
        have HR : Hid ((⟨res.toArray⟩ : ByteArray) = ⟨(Tr.hexl s.data.toList).toArray⟩) := Lib.hid (by rw [hr])
        have he : (⟨(Tr.hexl s.data.toList).toArray⟩ : ByteArray).toList.isEmpty = false := by rw [ByteArray.toList_eq]; simpa using hne
        generalize (⟨(Tr.hexl s.data.toList).toArray⟩ : ByteArray) = OUT at he HR ⊢
        clear hr hne h0 HRES
        go_wp2_with fail
        go_ret
        exact ⟨by rw [HR.out]; rfl, hW.out⟩
    · have hlt : k < s.size := by omega
      have hki : (k : Int) < (s.size : Int) := by omega
      have hx0 := index_string s (k : Int) k rfl hlt
      have hsn := toList_snoc s k hlt
      have hln := List.length_take_le k s.data.toList
      generalize s.data.toList.getD k 0 = c at hx0 hsn
      have hc := UInt8.toNat_lt c
      have hs1 := slice_hex (c.toNat / 16) (by omega)
      have hs2 := slice_hex (c.toNat % 16) (by omega)
      have hq : (c.toNat : Int).tdiv 16 = ((c.toNat / 16 : Nat) : Int) := by rw [Int.tdiv_eq_ediv_of_nonneg (by omega)]; omega
      have ht : (c.toNat : Int).tmod 16 = ((c.toNat % 16 : Nat) : Int) := by rw [Int.tmod_eq_emod_of_nonneg (by omega)]; omega
      have hq2 : c.toNat / 16 < 16 := by omega
      have ht2 : c.toNat % 16 < 16 := by omega
      have hE : (⟨(Tr.hexl (s.data.toList.take (k + 1))).toArray⟩ : ByteArray) = (⟨(Tr.hexl (s.data.toList.take k)).toArray⟩ : ByteArray) ++ ⟨#[Tr.hexd (c.toNat / 16)]⟩ ++ ⟨#[Tr.hexd (c.toNat % 16)]⟩ := by
        rw [hsn, Tr.hexl_snoc]
        exact Tag.bytes_ext (by simp)
      have hz : (⟨(Tr.hexl (s.data.toList.take k)).toArray⟩ : ByteArray).size ≤ 2000 := by
        show (Tr.hexl (s.data.toList.take k)).toArray.size ≤ 2000
        rw [List.size_toArray, Tr.hexl_len]; omega
      have HE := Lib.hid hE
      clear hE hsn hks HRES hln
      generalize (⟨(Tr.hexl (s.data.toList.take k)).toArray⟩ : ByteArray) = OUT at HE hz ⊢
      generalize Tr.hexd (c.toNat / 16) = x1 at hs1 HE
      generalize Tr.hexd (c.toNat % 16) = x2 at hs2 HE
      generalize c.toNat / 16 = q1 at hs1 hq hq2
      generalize c.toNat % 16 = q2 at hs2 ht ht2
      have hw1 : wrap64 ((q1 : Int)) = (q1 : Int) := by unfold wrap64; omega
      have hz2 : (OUT ++ (⟨#[x1]⟩ : ByteArray)).size ≤ 2001 := by rw [ByteArray.size_append]; show OUT.size + 1 ≤ 2001; omega
      go_wp2_with fail
      refine wp_region_over (by kernel_rfl) (by kernel_rfl) ?_
      repeat (go_big_quiet_step (fail))
      refine wpQuiet_nil ?_
      intro W7 hW7
      have HB7 := Lib.hid (below_here hW.out (below_of_over hW7))
      clear hW7
      go_wp2_with fail
      go_roundw
      case rel => exact ⟨k + 1, by go_num, by omega, by rw [HE.out], HB7⟩
      case measure => simp [intOf]; omega
end Go.Proofs.YtdjndnoiankicaaGreatDoor
namespace Go.Proofs.YtdjndnoiankicaaGreatDoor
open Go.RowKit Go.Shelf
set_option linter.unusedSimpArgs false
set_option linter.unusedVariables false
attribute [local go_sem] cell_over frozen_over

theorem own_new1 (w : World) (base : Nat) (hb : base ≤ w.heap.size) (e : TypeId) (x : Value) : (w.alloc (.cells #[x] e)).ownsRow base e 1 (.slice (some ⟨w.heap.size, 0, none⟩) 1 1) 1 [x] :=
  ⟨rfl, .inr ⟨w.heap.size, 1, #[x], rfl, hb, heap_alloc_new w _, Nat.le_refl _, by unfold maxLen; omega, rfl, rfl⟩⟩
theorem own_set {w : World} {base g cap n : Nat} {e : TypeId} {xs : List Value} (h : w.ownsRow base e 1 (.slice (some ⟨g, 0, none⟩) n cap) n xs) (i : Nat) (hi : i < n) (v : Value) :
    (w.setCell ⟨g, i, none⟩ v).ownsRow base e 1 (.slice (some ⟨g, 0, none⟩) n cap) n (xs.set i v) := by
  refine ⟨by rw [List.length_set]; exact h.1, ?_⟩
  rcases h.2 with ⟨h1, _⟩ | ⟨g', cap', cur, h1, hb, hg, hc1, hc2, hcs, hx⟩
  · cases h1
  · simp only [Value.slice.injEq, Option.some.injEq, Addr.mk.injEq] at h1
    obtain ⟨⟨rfl, _, _⟩, _, rfl⟩ := h1
    refine .inr ⟨g, cap, cur.setIfInBounds i v, rfl, hb, ?_, hc1, hc2, by simpa using hcs, ?_⟩
    · have hlt : g < w.heap.size := (Array.getElem?_eq_some_iff.1 hg).1
      simp [World.setCell, Array.getElem?_modify, hg]
    · rw [← hx, Array.toList_setIfInBounds, List.take_set]
theorem own_cell {w : World} {base g cap n : Nat} {e : TypeId} {xs : List Value} (h : w.ownsRow base e 1 (.slice (some ⟨g, 0, none⟩) n cap) n xs) (i : Nat) (v : Value) (hv : xs[i]? = some v) : w.cell? ⟨g, i, none⟩ = some v ∧ w.frozen? ⟨g, i, none⟩ = false ∧ g < w.heap.size := by
  have h2 := h.cells (g := g) rfl i v hv
  rw [addr_mid, Nat.zero_add] at h2
  rcases h.2 with ⟨h1, _⟩ | ⟨g', cap', cur, h1, hb, hg, _⟩
  · cases h1
  · simp only [Value.slice.injEq, Option.some.injEq, Addr.mk.injEq] at h1
    obtain ⟨⟨rfl, _, _⟩, _⟩ := h1
    exact ⟨h2, by simp [World.frozen?, hg], (Array.getElem?_eq_some_iff.1 hg).1⟩
def strs (l : List (List UInt8)) : List Value := l.map fun x => .string ⟨x.toArray⟩
theorem strs_len (l : List (List UInt8)) : (strs l).length = l.length := by simp [strs]
theorem info_str : (Tryz.prog.info? 9).map (fun i => (i.zero, i.size, i.bytes)) = some (some (.string ⟨#[]⟩), 1, 16) := by kernel_rfl
namespace Tr
theorem wstep_form (acc : List (List UInt8)) (c : UInt8) : ∃ i x, wstep acc c = i ++ [x] := by
  unfold wstep; split
  · exact ⟨_, _, rfl⟩
  · exact ⟨_, _, rfl⟩
theorem fold_form : ∀ (l : List UInt8), ∃ i x, l.foldl wstep [[]] = i ++ [x] := fun l => by
  rcases List.eq_nil_or_concat l with h | ⟨l', c, h⟩
  · rw [h]; exact ⟨[], [], rfl⟩
  · rw [h, List.concat_eq_append, List.foldl_append]; exact wstep_form _ _
theorem fold_len : ∀ (l : List UInt8) (acc : List (List UInt8)), acc ≠ [] → (l.foldl wstep acc).length ≤ acc.length + l.length
  | [], acc, _ => by simp
  | c :: l, acc, h => by
    have h1 : wstep acc c ≠ [] := by obtain ⟨i, x, e⟩ := wstep_form acc c; rw [e]; simp
    have h2 : (wstep acc c).length ≤ acc.length + 1 := by
      have := List.length_pos_iff.2 h
      unfold wstep; split
      · rw [List.length_append]; exact Nat.le_refl _
      · rw [List.length_append, List.length_dropLast, List.length_singleton]; omega
    have := fold_len l (wstep acc c) h1
    rw [List.foldl_cons, List.length_cons]; omega
theorem fold_size : ∀ (l : List UInt8) (acc : List (List UInt8)) (m : Nat), (∀ x ∈ acc, x.length ≤ m) → ∀ x ∈ l.foldl wstep acc, x.length ≤ m + l.length
  | [], acc, m, h => by simpa using h
  | c :: l, acc, m, h => by
    intro x hx
    rw [List.foldl_cons] at hx
    have := fold_size l (wstep acc c) (m + 1) (fun y hy => by
      unfold wstep at hy
      split at hy
      · rcases List.mem_append.1 hy with hy | hy
        · have := h y hy; omega
        · simp at hy; rw [hy]; simp
      · rcases List.mem_append.1 hy with hy | hy
        · have := h y ((List.dropLast_sublist acc).subset hy); omega
        · simp only [List.mem_singleton] at hy
          rw [hy, List.length_append]
          cases hl : acc.getLast? with
          | none => simp
          | some z => have := h z (List.mem_of_getLast? hl); simp; omega) x hx
    rw [List.length_cons]; omega
end Tr
set_option maxRecDepth 100000 in
set_option maxHeartbeats 2000000 in
theorem rwords_ok (s : ByteArray) (hs : s.size ≤ 1000) (w : World) : Calls Tryz.prog 82 #[.string s] w fun e w' => ∃ v, e = .returned v ∧ w'.ownsRow w.heap.size 9 1 v (Tr.wordsL s.data.toList).length (strs (Tr.wordsL s.data.toList)) ∧ Below w.heap.size w w' := by
  have hl : s.data.toList.length = s.size := by rw [Array.length_toList]; rfl
  obtain ⟨i0, hi, hz0, hz1, hz2⟩ := info_parts info_str
  have HI := Lib.hid hi
  have HZ0 := Lib.hid hz0
  have HZ1 := Lib.hid hz1
  have HZ2 := Lib.hid hz2
  clear hi hz0 hz1 hz2
  go_enter Tryz.func82, Tryz.ntmps82
  go_wp2_with fail
  go_loopw [3, 4] (fun o i wr => ∃ (k : Nat), i = .int .i64 (k : Int) ∧ k ≤ s.size ∧ Hid (wr.ownsRow w.heap.size 9 1 o ((s.data.toList.take k).foldl Tr.wstep [[]]).length (strs ((s.data.toList.take k).foldl Tr.wstep [[]]))) ∧ Hid (Below w.heap.size w wr)) (fun _ i _ => s.size - (intOf i).toNat)
  case atStart => exact ⟨0, rfl, Nat.zero_le _, Lib.hid (own_new1 w _ (Nat.le_refl _) _ _), Lib.hid (below_fresh _ _)⟩
  case round =>
    obtain ⟨k, rfl, hk, hO, hW⟩ := hrel
    by_cases hks : k = s.size
    · subst hks
      rw [List.take_of_length_le (Nat.le_of_eq hl), Tr.fold_words0] at hO
      go_wp2_with fail
      go_ret
      exact ⟨_, rfl, hO.out, hW.out⟩
    · have hlt : k < s.size := by omega
      have hki : (k : Int) < (s.size : Int) := by omega
      have hx0 := index_string s (k : Int) k rfl hlt
      have hsn := toList_snoc s k hlt
      have hln := List.length_take_le k s.data.toList
      have hln2 := Tr.fold_len (s.data.toList.take k) [[]] (by simp)
      have hsz := Tr.fold_size (s.data.toList.take k) [[]] 0 (by simp)
      obtain ⟨i, x, hix⟩ := Tr.fold_form (s.data.toList.take k)
      have hsl : ∀ W, (Instr.slice 9 (.string s) (some (.int .i64 (k : Int))) (some (.int .i64 ((k : Int) + 1))) none).run Tryz.prog W = .ok (.string ⟨#[s.data.toList.getD k 0]⟩) W := fun W => by
        rw [run_slice_string W 9 s .i64 .i64 (k : Int) ((k : Int) + 1) Tryz.underlying9 (by omega) (by omega) (by omega)]
        have e : (s.extract k (k + 1)) = ⟨#[s.data.toList.getD k 0]⟩ := Tag.bytes_ext (by
          rw [ByteArray.data_extract, Array.toList_extract]
          show (s.data.toList.drop k).take (k + 1 - k) = _
          rw [show k + 1 - k = 1 by omega]
          have hk' : k < s.data.toList.length := by omega
          rw [List.getD_eq_getElem?_getD, List.getElem?_eq_getElem hk']
          simp [List.drop_eq_getElem_cons hk'])
        rw [Int.toNat_natCast, show ((k : Int) + 1).toNat = k + 1 by omega, e]
      have hst : (s.data.toList.take (k + 1)).foldl Tr.wstep [[]] = Tr.wstep (i ++ [x]) (s.data.toList.getD k 0) := by rw [hsn, List.foldl_append, hix]; rfl
      have HST := Lib.hid hst
      have ho := hO.out
      rw [hix] at ho hln2 hsz
      have hxl : x.length ≤ 1000 := by have := hsz x (by simp); omega
      generalize s.data.toList.getD k 0 = c at hx0 HST hsl
      clear hsn hst hks hO hix hsz
      have hil : i.length ≤ 1000 := by simp at hln2; omega
      have hn1 : (i ++ [x]).length = i.length + 1 := by simp
      rw [hn1] at ho
      by_cases hc : c = 32
      · have hcb : ((c.toNat : Int) == 32) = true := by rw [hc]; rfl
        have HS : Hid (((s.data.toList.take (k + 1)).foldl Tr.wstep [[]]).length = i.length + 1 + 1 ∧ strs ((s.data.toList.take (k + 1)).foldl Tr.wstep [[]]) = strs (i ++ [x]) ++ [.string ⟨#[]⟩]) := Lib.hid (by rw [HST.out, hc]; unfold Tr.wstep; rw [if_pos rfl]; simp [strs])
        have HO9 := Lib.hid (own_below ho (below_fresh wr (.cells #[.string ⟨#[]⟩] 9)))
        have hbz := hW.out.size
        generalize strs (i ++ [x]) = cs at HS HO9
        clear hc ho HST hsl
        generalize c.toNat = cn at hcb hx0
        go_wp2_with (at_builtin; refine wpList_append_own _ rfl (.tmp 16) (.tmp 17) 117 rfl w.heap.size 9 i0 _ 1 16 Tryz.underlying117 HI.out HZ0.out HZ1.out HZ2.out rfl (by decide) u3 (i.length + 1) cs (by simp [Act.eval, Act.put]) HO9.out ⟨wr.heap.size, 0, none⟩ 1 1 [.string ⟨#[]⟩] (by simp [Act.eval, Act.put]) rfl (news_block (heap_alloc_new wr _)) (by simp [Value.oneCell']) (by unfold maxLen; omega) (by omega) (by simp; omega) ?_; intro v' w2 hown' hgrow _; have HOW := Lib.hid hown'; have HG := Lib.hid hgrow; clear hown' hgrow)
        have hb2 : Below w.heap.size w w2 := (below_new hW.out (.cells #[.string ⟨#[]⟩] 9)).grown HG.out (by simp; omega) (fun k h => (HO9.out.lt k h).1)
        have HB2 := Lib.hid hb2
        clear hb2
        go_wp2_with fail
        go_roundw
        case rel => exact ⟨k + 1, by go_num, by omega, by rw [HS.out.1, HS.out.2]; exact HOW, HB2⟩
        case measure => simp [intOf]; omega
      · have hcb : ((c.toNat : Int) == 32) = false := by
          rw [beq_eq_false_iff_ne]
          intro h
          exact hc (UInt8.toNat_inj.1 (by have : (32 : UInt8).toNat = 32 := rfl; omega))
        have HS : Hid (((s.data.toList.take (k + 1)).foldl Tr.wstep [[]]).length = i.length + 1 ∧ strs ((s.data.toList.take (k + 1)).foldl Tr.wstep [[]]) = (strs (i ++ [x])).set i.length (.string ((⟨x.toArray⟩ : ByteArray) ++ ⟨#[c]⟩))) := Lib.hid (by
          rw [HST.out]; unfold Tr.wstep; rw [if_neg hc]
          refine ⟨by simp, ?_⟩
          have e : (⟨x.toArray⟩ : ByteArray) ++ (⟨#[c]⟩ : ByteArray) = ⟨(x ++ [c]).toArray⟩ := Tag.bytes_ext (by simp)
          rw [e]
          simp [strs])
        obtain ⟨g, cap, rfl⟩ := ownsRow_succ ho
        obtain ⟨hcx, hfx, hgl⟩ := own_cell ho i.length (.string ⟨x.toArray⟩) (by simp [strs])
        have hxz : (⟨x.toArray⟩ : ByteArray).size ≤ 1000 := by show x.toArray.size ≤ 1000; rw [List.size_toArray]; exact hxl
        have HO9 := Lib.hid ho
        generalize strs (i ++ [x]) = cs at HS HO9
        generalize (⟨x.toArray⟩ : ByteArray) = X at HS hcx hxz
        clear hc ho HST
        generalize i.length = m at HS HO9 hcx hfx hil ⊢
        have hm1 : ((m + 1 : Nat) : Int) - 1 = (m : Int) := by omega
        go_wp2_with fail
        refine wp_region_over_tail 17 (by kernel_rfl) (by kernel_rfl) ?_
        simp only [List.take_succ_cons, List.take_zero, List.drop_succ_cons, List.drop_zero]
        repeat (go_big_quiet_step (fail))
        refine wpQuiet_nil ?_
        intro W7 hW7
        have hb7 := below_of_over hW7
        have ho7 := own_below HO9.out hb7
        have hB7 := below_here hW.out hb7
        have HS7 := Lib.hid (own_set ho7 m (Nat.lt_succ_self m) (.string (X ++ ⟨#[c]⟩)))
        have HB7 := Lib.hid (hB7.setCell (p := ⟨g, m, none⟩) (HO9.out.lt g rfl).1 (.string (X ++ ⟨#[c]⟩)))
        have hc7 : W7.cell? ⟨g, m, none⟩ = some (.string X) := (hb7.cell (p := ⟨g, m, none⟩) hgl).trans hcx
        have hf7 : W7.frozen? ⟨g, m, none⟩ = false := (hb7.frozen (p := ⟨g, m, none⟩) hgl).trans hfx
        clear hW7 hb7 ho7 hB7 hcx hfx
        go_wp2_with fail
        go_roundw
        case rel => exact ⟨k + 1, by go_num, by omega, by rw [HS.out.1, HS.out.2]; exact HS7, HB7⟩
        case measure => simp [intOf]; omega
end Go.Proofs.YtdjndnoiankicaaGreatDoor
namespace Go.Proofs.YtdjndnoiankicaaGreatDoor
open Go.RowKit Go.Shelf
set_option linter.unusedSimpArgs false
set_option linter.unusedVariables false
attribute [local go_sem] cell_over frozen_over

namespace Tr
theorem number_bad {l : List UInt8} {k : Nat} (hk : k < l.length) (h : Lib.digitVal (l.getD k 0) = none) : number l = -1 := by
  unfold number
  split
  · cases hd : Lib.decFrom 0 l with
    | none => rfl
    | some n =>
      obtain ⟨d, h1⟩ := Lib.digit_of_decFrom l 0 n hd k (l.getD k 0) (by rw [List.getD_eq_getElem?_getD, List.getElem?_eq_getElem hk]; rfl)
      rw [h] at h1; cases h1
  · rfl
theorem number_long {l : List UInt8} (h : 6 < l.length) : number l = -1 := by unfold number; rw [if_neg (by omega)]
end Tr
set_option maxRecDepth 100000 in
set_option maxHeartbeats 2000000 in
theorem rnumber_ok (s : ByteArray) (hs : s.size ≤ 1000) (w : World) : Calls Tryz.prog 83 #[.string s] w fun e w' => e = .returned (.int .i64 (Tr.number s.data.toList)) ∧ Below w.heap.size w w' := by
  have hl : s.data.toList.length = s.size := by rw [Array.length_toList]; rfl
  obtain ⟨res, hres⟩ : ∃ res, res = Tr.number s.data.toList := ⟨_, rfl⟩
  rw [← hres]
  have HRES := Lib.hid hres
  clear hres
  go_enter Tryz.func83, Tryz.ntmps83
  go_wp2_with fail
  go_loopw [3, 4] (fun o i wr => ∃ (k n : Nat), i = .int .i64 (k : Int) ∧ o = .int .i64 (n : Int) ∧ k ≤ s.size ∧ k ≤ 6 ∧ Hid (Lib.decFrom 0 (s.data.toList.take k) = some n) ∧ wr = w) (fun _ i _ => s.size - (intOf i).toNat)
  case atStart => exact ⟨0, 0, rfl, rfl, Nat.zero_le _, by omega, Lib.hid rfl, rfl⟩
  case round =>
    obtain ⟨k, n, rfl, rfl, hk, hk6, hD, rfl⟩ := hrel
    have hn : n < 1000000 := by
      have h := Lib.decFrom_lt _ _ _ hD.out
      have h2 : (s.data.toList.take k).length ≤ 6 := Nat.le_trans (List.length_take_le k _) hk6
      have h3 : 10 ^ (s.data.toList.take k).length ≤ 10 ^ 6 := Nat.pow_le_pow_right (by decide) h2
      omega
    by_cases hks : k = s.size
    · have hd := hD.out
      rw [List.take_of_length_le (by omega)] at hd
      have hr : res = if Lib.decDigits n = s.data.toList then (n : Int) else -1 := by
        rw [HRES.out]; unfold Tr.number; rw [if_pos (by omega), hd]
      have HX := Lib.hid (fun w => rdec_ok 5 n hn (by omega) (by omega) w)
      have HBI := Lib.hid (bytes_of_list (s := s) (l := Lib.decDigits n))
      by_cases he : Lib.decDigits n = s.data.toList
      · rw [if_pos he] at hr
        have hts := HBI.out.2 he
        rw [hts] at HX
        have HR := Lib.hid hr
        have hki : ¬ (k : Int) < (s.size : Int) := by omega
        clear hr hts he HBI hd HRES hks
        go_wp2_with (go_at_call 90; refine (HX.out _).mono ?_; rintro e w1 ⟨rfl, hw1⟩; obtain rfl := hw1.symm)
        go_ret
        exact ⟨by rw [HR.out]; rfl, Below.refl _ _⟩
      · rw [if_neg he] at hr
        have hts := mt HBI.out.1 he
        generalize (⟨(Lib.decDigits n).toArray⟩ : ByteArray) = tb at HX hts
        have hcmp : (tb.toList == s.toList) = false := (Lib.bytes_beq_false_iff _ _).2 hts
        have HR := Lib.hid hr
        have hki : ¬ (k : Int) < (s.size : Int) := by omega
        clear hr hts he HBI hd HRES hks
        go_wp2_with (go_at_call 90; refine (HX.out _).mono ?_; rintro e w1 ⟨rfl, hw1⟩; obtain rfl := hw1.symm)
        go_ret
        exact ⟨by rw [HR.out]; rfl, Below.refl _ _⟩
    · have hlt : k < s.size := by omega
      have hki : (k : Int) < (s.size : Int) := by omega
      have hx0 := index_string s (k : Int) k rfl hlt
      have hkl : k < s.data.toList.length := by omega
      have hbad : Lib.digitVal (s.data.toList.getD k 0) = none → res = -1 := fun h => by rw [HRES.out]; exact Tr.number_bad hkl h
      have hlong : 5 < k → res = -1 := fun h => by rw [HRES.out]; exact Tr.number_long (by omega)
      have hgo : ∀ d, Lib.digitVal (s.data.toList.getD k 0) = some d → Lib.decFrom 0 (s.data.toList.take (k + 1)) = some (n * 10 + d) := fun d h => Lib.decFrom_take _ _ _ _ _ _ hD.out (by rw [List.getD_eq_getElem?_getD, List.getElem?_eq_getElem hkl]; rfl) h
      generalize s.data.toList.getD k 0 = c at hx0 hbad hgo
      have hc := UInt8.toNat_lt c
      by_cases h1 : c.toNat < 48
      · have hr := Lib.hid (hbad (by unfold Lib.digitVal; rw [if_neg (by omega)]))
        have h1i : (c.toNat : Int) < 48 := by omega
        clear hbad hlong hgo hD HRES hks h1
        generalize c.toNat = cn at hx0 h1i hc
        go_wp2_with fail
        go_ret
        exact ⟨by rw [hr.out]; rfl, Below.refl _ _⟩
      · by_cases h2 : 57 < c.toNat
        · have hr := Lib.hid (hbad (by unfold Lib.digitVal; rw [if_neg (by omega)]))
          have h1i : ¬ (c.toNat : Int) < 48 := by omega
          have h2i : (57 : Int) < (c.toNat : Int) := by omega
          clear hbad hlong hgo hD HRES hks h1 h2
          generalize c.toNat = cn at hx0 h1i h2i hc
          go_wp2_with fail
          go_ret
          exact ⟨by rw [hr.out]; rfl, Below.refl _ _⟩
        · have h1i : ¬ (c.toNat : Int) < 48 := by omega
          have h2i : ¬ (57 : Int) < (c.toNat : Int) := by omega
          by_cases h3 : 5 < k
          · have hr := Lib.hid (hlong h3)
            have h3i : (5 : Int) < (k : Int) := by omega
            clear hbad hlong hgo hD HRES hks h1 h2 h3
            generalize c.toNat = cn at hx0 h1i h2i hc
            go_wp2_with fail
            go_ret
            exact ⟨by rw [hr.out]; rfl, Below.refl _ _⟩
          · have h3i : ¬ (5 : Int) < (k : Int) := by omega
            have HG := Lib.hid (hgo (c.toNat - 48) (by unfold Lib.digitVal; rw [if_pos (by omega)]))
            clear hbad hlong hgo hD HRES hks
            generalize c.toNat = cn at hx0 h1i h2i hc h1 h2 HG
            go_wp2_with fail
            go_roundw
            case rel => exact ⟨k + 1, n * 10 + (cn - 48), by go_num, by congr 1; omega, by omega, by omega, HG, trivial⟩
            case measure => simp [intOf]; omega
end Go.Proofs.YtdjndnoiankicaaGreatDoor
namespace Go.Proofs.YtdjndnoiankicaaGreatDoor
open Go.RowKit Go.Shelf
set_option linter.unusedSimpArgs false
set_option linter.unusedVariables false
attribute [local go_sem] cell_over frozen_over

namespace Tr
theorem rpairs_snoc : ∀ (k : Nat) (l : List UInt8), 2 * k + 1 < l.length → rpairs (l.take (2 * k + 2)) = rpairs (l.take (2 * k)) ++ rpair (l.getD (2 * k) 0) (l.getD (2 * k + 1) 0) 256
  | 0, c :: d :: r, _ => by simp [rpairs]
  | k + 1, c :: d :: r, h => by
    have ih := rpairs_snoc k r (by simp at h; omega)
    have e1 : 2 * (k + 1) + 2 = (2 * k + 2) + 1 + 1 := by omega
    have e2 : 2 * (k + 1) = 2 * k + 1 + 1 := by omega
    rw [e1, e2]
    simp only [List.take_succ_cons, List.getD_cons_succ]
    show rpair c d 256 ++ rpairs (r.take (2 * k + 2)) = rpair c d 256 ++ rpairs (r.take (2 * k)) ++ _
    rw [ih, List.append_assoc]
  | 0, [], h => by simp at h
  | 0, [_], h => by simp at h
  | k + 1, [], h => by simp at h
  | k + 1, [_], h => by simp at h
theorem rpairs_end : ∀ (k : Nat) (l : List UInt8), 2 * k ≤ l.length → l.length ≤ 2 * k + 1 → rpairs (l.take (2 * k)) = rpairs l
  | 0, [], _, _ => rfl
  | 0, [_], _, _ => rfl
  | 0, _ :: _ :: _, _, h => by simp at h
  | k + 1, [], h, _ => by simp at h
  | k + 1, [_], h, _ => by simp only [List.length_cons, List.length_nil] at h; omega
  | k + 1, c :: d :: r, h1, h2 => by
    have e2 : 2 * (k + 1) = 2 * k + 1 + 1 := by omega
    rw [e2]
    simp only [List.take_succ_cons]
    show rpair c d 256 ++ rpairs (r.take (2 * k)) = rpair c d 256 ++ rpairs r
    rw [rpairs_end k r (by simp at h1; omega) (by simp at h2; omega)]
theorem rpair_len (x y : UInt8) (k : Nat) : (rpair x y k).length ≤ k := by
  unfold rpair
  rw [List.length_map]
  exact Nat.le_trans (List.length_filter_le _ _) (by simp)
theorem rpair_le1 (x y : UInt8) : (rpair x y 256).length ≤ 1 := by
  by_cases h : ∃ c : Fin 256, hexl [c.val.toUInt8] = [x, y]
  · obtain ⟨c, hc⟩ := h
    rw [rpair_of c hc 256 (Nat.le_refl _), if_pos c.isLt]; simp
  · have : (List.range 256).filter (fun n => decide (hexl [n.toUInt8] = [x, y])) = [] := List.filter_eq_nil_iff.2 fun n hn => by
      have := List.mem_range.1 hn
      simp only [decide_eq_true_eq]
      exact fun e => h ⟨⟨n, this⟩, e⟩
    unfold rpair
    rw [this]; simp
theorem rpairs_len : ∀ l : List UInt8, (rpairs l).length ≤ l.length
  | [] => by simp [rpairs]
  | [_] => by simp [rpairs]
  | c :: d :: r => by
    have := rpairs_len r
    have := rpair_le1 c d
    show (rpair c d 256 ++ rpairs r).length ≤ _
    rw [List.length_append, List.length_cons, List.length_cons]; omega
theorem hex_one (k : Nat) : hex [k.toUInt8] = hexl [k.toUInt8] := hex_ne (by simp)
end Tr
def Fact.row1 (k : Int) : Fact := ⟨fun v w => ∃ g, v = .slice (some ⟨g, 0, none⟩) 1 1 ∧ w.cell? ⟨g, 0, none⟩ = some (.int .u8 k), fun _ _ _ ⟨g, h1, h2⟩ hb => ⟨g, h1, cell_on h2 hb⟩⟩
theorem conv_one {W : World} {g : Nat} {c : UInt8} (h : W.cell? ⟨g, 0, none⟩ = some (.int .u8 (c.toNat : Int))) : (convert 153 9 (.slice (some ⟨g, 0, none⟩) 1 1)).run Tryz.prog W = .ok (.string ⟨#[c]⟩) W :=
  run_convert_bytes_back W 153 9 5 ⟨g, 0, none⟩ 1 [c] Tryz.underlying153 Tryz.underlying5 Tryz.underlying9 (fun j hj => by
    obtain rfl : j = 0 := by simp at hj; omega
    exact h)
theorem own_new0 (w : World) (base : Nat) (hb : base ≤ w.heap.size) (e : TypeId) : (w.alloc (.cells #[] e)).ownsRow base e 1 (.slice (some ⟨w.heap.size, 0, none⟩) 0 0) 0 [] :=
  ⟨rfl, .inr ⟨w.heap.size, 0, #[], rfl, hb, heap_alloc_new w _, Nat.le_refl _, by unfold maxLen; omega, rfl, rfl⟩⟩
/-- What the document's reading of digits returns. -/
def DataP (r : Option (List UInt8)) (ds : ByteArray) (b : Bool) : Prop := match r with | some d => b = true ∧ ds = ⟨d.toArray⟩ | none => b = false
def DataQ (r : Option (List UInt8)) (w : World) (e : Ending) (w' : World) : Prop := ∃ ds b, e = .returned (.tuple #[.string ds, .bool b]) ∧ DataP r ds b ∧ Below w.heap.size w w'
set_option maxRecDepth 100000 in
set_option maxHeartbeats 4000000 in
theorem rdata_ok (s : ByteArray) (hs : s.size ≤ 1000) (w : World) : Calls Tryz.prog 85 #[.string s] w fun e w' => DataQ (Tr.rdata s.data.toList) w e w' := by
  have hl : s.data.toList.length = s.size := by rw [Array.length_toList]; rfl
  by_cases h45 : s = ⟨#[45]⟩
  · subst h45
    go_enter Tryz.func85, Tryz.ntmps85
    go_wp2_with fail
    go_ret2
    unfold DataQ
    exact ⟨_, _, rfl, by unfold Tr.rdata; rw [if_pos rfl]; exact ⟨rfl, rfl⟩, below_fresh _ _⟩
  · have hne : ¬ s.data.toList = [45] := fun e => h45 (Tag.bytes_ext e)
    have hcmp : (s.toList == (⟨#[45]⟩ : ByteArray).toList) = false := (Lib.bytes_beq_false_iff _ _).2 h45
    have hcm2 : (s.toList == [45]) = false := by
      have e : (⟨#[45]⟩ : ByteArray).toList = [45] := by rw [ByteArray.toList_eq]
      rw [← e]; exact hcmp
    obtain ⟨i0, hi, hz0, hz1, hz2⟩ := info_parts info_u8
    have HI := Lib.hid hi
    have HZ0 := Lib.hid hz0
    have HZ1 := Lib.hid hz1
    have HZ2 := Lib.hid hz2
    have HR : Hid (Tr.rdata s.data.toList = if Tr.rpairs (s.data.toList.take 510) ≠ [] ∧ Tr.hexl (Tr.rpairs (s.data.toList.take 510)) = s.data.toList then some (Tr.rpairs (s.data.toList.take 510)) else none) := Lib.hid (by unfold Tr.rdata; rw [if_neg hne])
    obtain ⟨RES, hRES⟩ : ∃ RES, RES = Tr.rdata s.data.toList := ⟨_, rfl⟩
    rw [← hRES] at HR ⊢
    clear h45 hne hi hz0 hz1 hz2 hRES
    go_enter Tryz.func85, Tryz.ntmps85
    go_wp2_with fail
    go_loopw [4, 5] (fun o i wr => ∃ (j g cap : Nat), i = .int .i64 ((2 * j : Nat) : Int) ∧ 2 * j ≤ s.size ∧ 2 * j ≤ 510 ∧ o = .slice (some ⟨g, 0, none⟩) (Tr.rpairs (s.data.toList.take (2 * j))).length cap ∧ Hid (wr.ownsRow w.heap.size 5 1 (.slice (some ⟨g, 0, none⟩) (Tr.rpairs (s.data.toList.take (2 * j))).length cap) (Tr.rpairs (s.data.toList.take (2 * j))).length (Lib.byteCells (Tr.rpairs (s.data.toList.take (2 * j))))) ∧ Hid (Below w.heap.size w wr)) (fun _ i _ => s.size - (intOf i).toNat)
    case atStart => exact ⟨0, _, _, rfl, Nat.zero_le _, by omega, rfl, Lib.hid (own_new0 w _ (Nat.le_refl _) _), Lib.hid (below_fresh _ _)⟩
    case round =>
      obtain ⟨j, g, cap, rfl, hj, hj5, rfl, hO, hW⟩ := hrel
      have hpl := Tr.rpairs_len (s.data.toList.take (2 * j))
      have htl := List.length_take_le (2 * j) s.data.toList
      by_cases hin : 2 * j + 1 < s.size ∧ 2 * j < 510
      · obtain ⟨h1, h2⟩ := hin
        have h1i : ((2 * j : Nat) : Int) + 1 < (s.size : Int) := by omega
        have h2i : ((2 * j : Nat) : Int) < 510 := by omega
        have hsn := Tr.rpairs_snoc j s.data.toList (by omega)
        have hsl : ∀ W, (Instr.slice 9 (.string s) (some (.int .i64 ((2 * j : Nat) : Int))) (some (.int .i64 (((2 * j : Nat) : Int) + 2))) none).run Tryz.prog W = .ok (.string ⟨#[s.data.toList.getD (2 * j) 0, s.data.toList.getD (2 * j + 1) 0]⟩) W := fun W => by
          rw [run_slice_string W 9 s .i64 .i64 ((2 * j : Nat) : Int) (((2 * j : Nat) : Int) + 2) Tryz.underlying9 (by omega) (by omega) (by omega)]
          have e : (s.extract (2 * j) (2 * j + 2)) = ⟨#[s.data.toList.getD (2 * j) 0, s.data.toList.getD (2 * j + 1) 0]⟩ := Tag.bytes_ext (by
            rw [ByteArray.data_extract, Array.toList_extract]
            show (s.data.toList.drop (2 * j)).take (2 * j + 2 - 2 * j) = _
            rw [show 2 * j + 2 - 2 * j = 1 + 1 by omega]
            have hk1 : 2 * j < s.data.toList.length := by omega
            have hk2 : 2 * j + 1 < s.data.toList.length := by omega
            rw [List.getD_eq_getElem?_getD, List.getElem?_eq_getElem hk1, List.getD_eq_getElem?_getD, List.getElem?_eq_getElem hk2, List.drop_eq_getElem_cons hk1, List.drop_eq_getElem_cons hk2]
            rfl)
          rw [Int.toNat_natCast, show (((2 * j : Nat) : Int) + 2).toNat = 2 * j + 2 by omega, e]
        generalize s.data.toList.getD (2 * j) 0 = x at hsn hsl
        generalize s.data.toList.getD (2 * j + 1) 0 = y at hsn hsl
        have HSN := Lib.hid hsn
        generalize Tr.rpairs (s.data.toList.take (2 * j)) = pre at hO hpl HSN ⊢
        clear hsn
        have hpre : pre.length ≤ 510 := by omega
        clear hpl htl
        generalize hjj : 2 * j = J at h1 h2 h1i h2i hsl ⊢
        go_wp2_with fail
        go_loopw [4, 6] (fun o i wr => ∃ (k g cap : Nat), i = .int .i64 (k : Int) ∧ k ≤ 256 ∧ o = .slice (some ⟨g, 0, none⟩) (pre ++ Tr.rpair x y k).length cap ∧ Hid (wr.ownsRow w.heap.size 5 1 (.slice (some ⟨g, 0, none⟩) (pre ++ Tr.rpair x y k).length cap) (pre ++ Tr.rpair x y k).length (Lib.byteCells (pre ++ Tr.rpair x y k))) ∧ Hid (Below w.heap.size w wr)) (fun _ i _ => 256 - (intOf i).toNat)
        case atStart => exact ⟨0, g, cap, rfl, by omega, by show _ = Value.slice _ (pre ++ []).length _; rw [List.append_nil], Lib.hid (by show World.ownsRow _ _ _ _ (.slice _ (pre ++ []).length _) (pre ++ []).length (Lib.byteCells (pre ++ [])); rw [List.append_nil]; exact hO.out), hW⟩
        case round =>
          obtain ⟨k, g2, cap2, rfl, hk, rfl, hO2, hW2⟩ := hrel
          by_cases hk256 : k = 256
          · subst hk256
            have HE : Tr.rpairs (s.data.toList.take (2 * (j + 1))) = pre ++ Tr.rpair x y 256 := HSN.out
            go_wp2_with fail
            go_roundw
            case rel => exact ⟨j + 1, g2, cap2, by congr 1; omega, by omega, by omega, by rw [HE], by rw [HE]; exact hO2, hW2⟩
            case measure => simp [intOf]; omega
          · have hkl : k < 256 := by omega
            have hki : (k : Int) < 256 := by omega
            have hwJ : IntKind.i64.wrap ((J : Int) + 2) = (J : Int) + 2 := IntWalk.i64_in _ (by omega)
            have hw8 : IntKind.u8.wrap (k : Int) = (k : Int) := wraps_u8 _ (by omega) (by omega)
            have hkb : k.toUInt8.toNat = k := by simp; omega
            have HRS := Lib.hid (Tr.rpair_succ x y k)
            have HX := Lib.hid (fun w => rhex_ok ⟨#[k.toUInt8]⟩ (by show 1 ≤ 1000; omega) w)
            rw [show Tr.hex (⟨#[k.toUInt8]⟩ : ByteArray).data.toList = Tr.hexl [k.toUInt8] from Tr.hex_one k] at HX
            have hrl := Tr.rpair_len x y k
            have hN : (pre ++ Tr.rpair x y k).length ≤ 1000 := by rw [List.length_append]; omega
            have hdec : ((⟨(Tr.hexl [k.toUInt8]).toArray⟩ : ByteArray).toList == (⟨#[x, y]⟩ : ByteArray).toList) = decide (Tr.hexl [k.toUInt8] = [x, y]) := by
              rw [ByteArray.toList_eq, ByteArray.toList_eq]
              simp only [List.toList_toArray]
              by_cases h : Tr.hexl [k.toUInt8] = [x, y]
              · rw [h]; simp
              · rw [decide_eq_false h]; simpa using h
            have HD : Hid (pre ++ Tr.rpair x y (k + 1) = (pre ++ Tr.rpair x y k) ++ if decide (Tr.hexl [k.toUInt8] = [x, y]) then [k.toUInt8] else []) := Lib.hid (by rw [HRS.out, List.append_assoc]; simp only [decide_eq_true_eq])
            generalize (⟨(Tr.hexl [k.toUInt8]).toArray⟩ : ByteArray) = HXB at HX hdec
            generalize (⟨#[x, y]⟩ : ByteArray) = XY at hsl hdec
            generalize decide (Tr.hexl [k.toUInt8] = [x, y]) = d at HD hdec
            generalize k.toUInt8 = kb at hkb HX HD
            generalize pre ++ Tr.rpair x y k = acc at hO2 hN HD ⊢
            clear HRS hrl hk256
            go_wp2_with fail
            refine wp_region_freeA 10 [some 25, some 26, some 27, some 28, some 29, some 30, some 31, some 32, some 33, some 34] (fun W => ∃ X, W = over wr X) [Fact.is (.int .i64 (k : Int)), Fact.is (.int .u8 (k : Int)), Fact.row1 (k : Int), Fact.is (.string ⟨#[kb]⟩), Fact.is (.string HXB), Fact.is (.string s), Fact.is (.int .i64 (J : Int)), Fact.is (.int .i64 (J : Int)), Fact.is (.int .i64 ((J : Int) + 2)), Fact.is (.string XY)] [] (by kernel_rfl) (by kernel_rfl) ?same (over_of (Below.refl _ _).drew) ?steps ?fin
            case same => kernel_rfl
            case steps =>
              simp only [List.take_succ_cons, List.take_zero, stepsI]
              refine ⟨⟨fun v u => by kernel_rfl, ?s0⟩, ⟨fun v u => by kernel_rfl, ?s1⟩, ⟨fun v u => by kernel_rfl, ?s2⟩, ⟨fun v u => by kernel_rfl, ?s3⟩, ⟨fun v u => by kernel_rfl, ?s4⟩, ⟨fun v u => by kernel_rfl, ?s5⟩, ⟨fun v u => by kernel_rfl, ?s6⟩, ⟨fun v u => by kernel_rfl, ?s7⟩, ⟨fun v u => by kernel_rfl, ?s8⟩, ⟨fun v u => by kernel_rfl, ?s9⟩, trivial⟩
              case s0 =>
                intro v W hW hp
                obtain ⟨X, rfl⟩ := hW
                clear hp
                simp only [mkA, setAll, List.setIfInBounds_toArray, List.set_cons_succ, List.set_cons_zero]
                refine .inl ⟨rfl, ?_⟩
                go_simp
                first | exact ⟨⟨X, rfl⟩, Below.refl _ _, rfl⟩ | exact ⟨⟨X, rfl⟩, Below.refl _ _, rfl, fun h => by cases h⟩
              case s1 =>
                intro v W hW hp
                obtain ⟨X, rfl⟩ := hW
                have g0 : v 0 = .int .i64 (k : Int) := hp ⟨0, .data⟩ (by simp) rfl
                clear hp
                simp only [mkA, setAll, List.setIfInBounds_toArray, List.set_cons_succ, List.set_cons_zero]
                refine .inl ⟨rfl, ?_⟩
                go_simp
                first | exact ⟨⟨X, rfl⟩, Below.refl _ _, rfl⟩ | exact ⟨⟨X, rfl⟩, Below.refl _ _, rfl, fun h => by cases h⟩
              case s2 =>
                intro v W hW hp
                obtain ⟨X, rfl⟩ := hW
                have g1 : v 1 = .int .u8 (k : Int) := hp ⟨1, .data⟩ (by simp) rfl
                clear hp
                simp only [mkA, setAll, List.setIfInBounds_toArray, List.set_cons_succ, List.set_cons_zero]
                refine .inl ⟨rfl, ?_⟩
                go_simp
                first | exact ⟨over_of (below_new (over_below _ _) _), below_fresh _ _, ⟨_, rfl, cell_of_row _ _ 0 _ _ (0, 0) (heap_alloc_new _ _)⟩⟩ | exact ⟨over_of (below_new (over_below _ _) _), below_fresh _ _, ⟨_, rfl, cell_of_row _ _ 0 _ _ (0, 0) (heap_alloc_new _ _)⟩, fun h => by cases h⟩
              case s3 =>
                intro v W hW hp
                obtain ⟨X, rfl⟩ := hW
                obtain ⟨b2, g2, r2⟩ := hp ⟨2, .data⟩ (by simp) rfl
                clear hp
                simp only [mkA, setAll, List.setIfInBounds_toArray, List.set_cons_succ, List.set_cons_zero]
                refine .inl ⟨rfl, ?_⟩
                have hcv := conv_one (c := kb) (by rw [hkb]; exact r2)
                go_simp
                first | exact ⟨⟨X, rfl⟩, Below.refl _ _, rfl⟩ | exact ⟨⟨X, rfl⟩, Below.refl _ _, rfl, fun h => by cases h⟩
              case s4 =>
                intro v W hW hp
                obtain ⟨X, rfl⟩ := hW
                have g3 : v 3 = .string ⟨#[kb]⟩ := hp ⟨3, .data⟩ (by simp) rfl
                clear hp
                simp only [mkA, setAll, List.setIfInBounds_toArray, List.set_cons_succ, List.set_cons_zero]
                refine .inl ⟨rfl, ?_⟩
                go_simp
                refine (HX.out _).mono ?_
                rintro e W2 ⟨rfl, hb2⟩
                first | exact ⟨_, rfl, over_of (below_here (over_below _ _) hb2), hb2, rfl⟩ | exact ⟨_, rfl, over_of (below_here (over_below _ _) hb2), hb2, rfl, fun h => by cases h⟩
              case s5 =>
                intro v W hW hp
                obtain ⟨X, rfl⟩ := hW
                clear hp
                simp only [mkA, setAll, List.setIfInBounds_toArray, List.set_cons_succ, List.set_cons_zero]
                refine .inl ⟨rfl, ?_⟩
                go_simp
                first | exact ⟨⟨X, rfl⟩, Below.refl _ _, rfl⟩ | exact ⟨⟨X, rfl⟩, Below.refl _ _, rfl, fun h => by cases h⟩
              case s6 =>
                intro v W hW hp
                obtain ⟨X, rfl⟩ := hW
                clear hp
                simp only [mkA, setAll, List.setIfInBounds_toArray, List.set_cons_succ, List.set_cons_zero]
                refine .inl ⟨rfl, ?_⟩
                go_simp
                first | exact ⟨⟨X, rfl⟩, Below.refl _ _, rfl⟩ | exact ⟨⟨X, rfl⟩, Below.refl _ _, rfl, fun h => by cases h⟩
              case s7 =>
                intro v W hW hp
                obtain ⟨X, rfl⟩ := hW
                clear hp
                simp only [mkA, setAll, List.setIfInBounds_toArray, List.set_cons_succ, List.set_cons_zero]
                refine .inl ⟨rfl, ?_⟩
                go_simp
                first | exact ⟨⟨X, rfl⟩, Below.refl _ _, rfl⟩ | exact ⟨⟨X, rfl⟩, Below.refl _ _, rfl, fun h => by cases h⟩
              case s8 =>
                intro v W hW hp
                obtain ⟨X, rfl⟩ := hW
                have g7 : v 7 = .int .i64 (J : Int) := hp ⟨7, .data⟩ (by simp) rfl
                clear hp
                simp only [mkA, setAll, List.setIfInBounds_toArray, List.set_cons_succ, List.set_cons_zero]
                refine .inl ⟨rfl, ?_⟩
                go_simp
                first | exact ⟨⟨X, rfl⟩, Below.refl _ _, rfl⟩ | exact ⟨⟨X, rfl⟩, Below.refl _ _, rfl, fun h => by cases h⟩
              case s9 =>
                intro v W hW hp
                obtain ⟨X, rfl⟩ := hW
                have g5 : v 5 = .string s := hp ⟨5, .data⟩ (by simp) rfl
                have g6 : v 6 = .int .i64 (J : Int) := hp ⟨6, .data⟩ (by simp) rfl
                have g8 : v 8 = .int .i64 ((J : Int) + 2) := hp ⟨8, .data⟩ (by simp) rfl
                clear hp
                simp only [mkA, setAll, List.setIfInBounds_toArray, List.set_cons_succ, List.set_cons_zero]
                refine .inl ⟨rfl, ?_⟩
                go_simp
                first | exact ⟨⟨X, rfl⟩, Below.refl _ _, rfl⟩ | exact ⟨⟨X, rfl⟩, Below.refl _ _, rfl, fun h => by cases h⟩
            case fin =>
              intro v W hW hR hD
              have hbW := below_of_over hW
              have g4 : v 4 = _ := hR 4 (by omega)
              have g9 : v 9 = _ := hR 9 (by omega)
              simp only [List.drop_succ_cons, List.drop_zero, mkA, setAll, List.setIfInBounds_toArray, List.set_cons_succ, List.set_cons_zero, g4, g9]
              generalize v 0 = q0
              generalize v 1 = q1
              generalize v 2 = q2
              generalize v 3 = q3
              generalize v 5 = q5
              generalize v 6 = q6
              generalize v 7 = q7
              generalize v 8 = q8
              have HO7 := own_below hO2.out hbW
              have HW7 := Lib.hid (below_here hW2.out hbW)
              clear hR hD hW g4 g9 hbW
              cases d with
              | false =>
                have HE : Hid (pre ++ Tr.rpair x y (k + 1) = acc) := Lib.hid (by rw [HD.out]; simp)
                go_wp2_with fail
                go_roundw
                case rel => exact ⟨k + 1, g2, cap2, by go_num, by omega, by rw [HE.out], by rw [HE.out]; exact Lib.hid HO7, HW7⟩
                case measure => simp [intOf]; omega
              | true =>
                have HE : Hid ((pre ++ Tr.rpair x y (k + 1)).length = acc.length + 1 ∧ Lib.byteCells (pre ++ Tr.rpair x y (k + 1)) = Lib.byteCells acc ++ [.int .u8 (k : Int)]) := Lib.hid (by rw [HD.out]; simp [Lib.byteCells, hkb])
                have HO9 := Lib.hid (own_below HO7 (below_fresh W (.cells #[.int .u8 (k : Int)] 5)))
                generalize Lib.byteCells acc = cs at HE HO9
                generalize acc.length = N at HE HO9 hN ⊢
                have hbz := HW7.out.size
                clear HO7
                go_wp2_with (at_builtin; refine wpList_append_own _ rfl (.tmp 36) (.tmp 39) 153 rfl w.heap.size 5 i0 _ 1 1 Tryz.underlying153 HI.out HZ0.out HZ1.out HZ2.out rfl (by decide) (.slice (some ⟨g2, 0, none⟩) N cap2) N cs (by simp [Act.eval, Act.put]) HO9.out ⟨W.heap.size, 0, none⟩ 1 1 [.int .u8 (k : Int)] (by simp [Act.eval, Act.put]) rfl (news_block (heap_alloc_new W _)) (by simp [Value.oneCell']) (by unfold maxLen; omega) (by omega) (by simp; omega) ?_; intro v' w2 hown' hgrow _; obtain ⟨gg, cp, rfl⟩ := ownsRow_succ hown'; have HOW := Lib.hid hown'; have HG := Lib.hid hgrow; clear hown' hgrow)
                have hb2 : Below w.heap.size w w2 := (below_new HW7.out (.cells #[.int .u8 (k : Int)] 5)).grown HG.out (by simp; omega) (fun k h => (HO9.out.lt k h).1)
                have HB2 := Lib.hid hb2
                clear hb2
                go_wp2_with fail
                go_roundw
                case rel => exact ⟨k + 1, gg, cp, by go_num, by omega, by rw [HE.out.1], by rw [HE.out.1, HE.out.2]; exact HOW, HB2⟩
                case measure => simp [intOf]; omega
      · have hfin : Tr.rpairs (s.data.toList.take 510) = Tr.rpairs (s.data.toList.take (2 * j)) := by
          by_cases h : 2 * j = 510
          · rw [h]
          · have h3 : s.size ≤ 2 * j + 1 := by omega
            rw [List.take_of_length_le (by omega), Tr.rpairs_end j _ (by omega) (by omega)]
        rw [hfin] at HR
        have hways : ¬ ((2 * j : Nat) : Int) + 1 < (s.size : Int) ∨ (((2 * j : Nat) : Int) + 1 < (s.size : Int) ∧ ¬ ((2 * j : Nat) : Int) < 510) := by omega
        generalize Tr.rpairs (s.data.toList.take (2 * j)) = pre at hO hpl HR ⊢
        have hpre : pre.length ≤ 510 := by omega
        clear hpl htl hfin hin
        generalize 2 * j = J at hj hj5 hways ⊢
        have hcv : ∀ X, (convert 153 9 (.slice (some ⟨g, 0, none⟩) pre.length cap)).run Tryz.prog (over wr X) = .ok (.string ⟨pre.toArray⟩) (over wr X) := fun X => back_of_own (own_below hO.out (over_below wr X))
        have hP : (⟨pre.toArray⟩ : ByteArray).size ≤ 1000 := by show pre.toArray.size ≤ 1000; rw [List.size_toArray]; omega
        have HX := Lib.hid (fun w => rhex_ok ⟨pre.toArray⟩ hP w)
        rw [show (⟨pre.toArray⟩ : ByteArray).data.toList = pre from by simp] at HX
        by_cases h0 : pre = []
        · have hr : RES = none := by rw [HR.out, if_neg (fun h => h.1 h0)]
          have HRR := Lib.hid hr
          have hn : pre.length = 0 := by rw [h0]; rfl
          rw [hn] at hcv ⊢
          generalize (⟨pre.toArray⟩ : ByteArray) = P at hcv
          clear hr HR hP HX
          rcases hways with h1 | ⟨h1, h2⟩
          all_goals
            go_wp2_with fail
            refine wp_region_over (by kernel_rfl) (by kernel_rfl) ?_
            repeat (go_big_quiet_step (fail))
            refine wpQuiet_nil ?_
            intro W7 hW7
            have hb7 := below_here hW.out (below_of_over hW7)
            go_wp2_with fail
            go_ret2
            unfold DataQ
            exact ⟨_, _, rfl, by rw [HRR.out]; rfl, hb7⟩
        · have hpos : (0 : Int) < (pre.length : Int) := by have := List.length_pos_iff.2 h0; omega
          have hpd2 : decide (0 < pre.length) = true := decide_eq_true (List.length_pos_iff.2 h0)
          have hpd : decide ((0 : Int) < (pre.length : Int)) = true := by simpa using hpos
          have hr : RES = if Tr.hexl pre = s.data.toList then some pre else none := by rw [HR.out]; simp only [ne_eq, h0, not_false_eq_true, true_and]
          rw [Tr.hex_ne h0] at HX
          have HBI := Lib.hid (bytes_of_list (s := s) (l := Tr.hexl pre))
          by_cases he : Tr.hexl pre = s.data.toList
          · rw [if_pos he] at hr
            rw [HBI.out.2 he] at HX
            have HRR : Hid (RES = some pre) := Lib.hid hr
            clear hr HR hP HBI he
            rcases hways with h1 | ⟨h1, h2⟩
            all_goals
              go_wp2_with fail
              refine wp_region_over (by kernel_rfl) (by kernel_rfl) ?_
              repeat (go_big_quiet_step ((go_at_call 92; exact Calls.over_of (HX.out _))))
              refine wpQuiet_nil ?_
              intro W7 hW7
              have hb7 := below_here hW.out (below_of_over hW7)
              go_wp2_with fail
              go_ret2
              unfold DataQ
              exact ⟨_, _, rfl, by rw [HRR.out]; exact ⟨rfl, rfl⟩, hb7⟩
          · rw [if_neg he] at hr
            have hts := mt HBI.out.1 he
            generalize (⟨(Tr.hexl pre).toArray⟩ : ByteArray) = tb at HX hts
            have hcm3 : (tb.toList == s.toList) = false := (Lib.bytes_beq_false_iff _ _).2 hts
            have HRR : Hid (RES = none) := Lib.hid hr
            clear hr HR hP HBI he hts
            rcases hways with h1 | ⟨h1, h2⟩
            all_goals
              go_wp2_with fail
              refine wp_region_over (by kernel_rfl) (by kernel_rfl) ?_
              repeat (go_big_quiet_step ((go_at_call 92; exact Calls.over_of (HX.out _))))
              refine wpQuiet_nil ?_
              intro W7 hW7
              have hb7 := below_here hW.out (below_of_over hW7)
              go_wp2_with fail
              go_ret2
              unfold DataQ
              exact ⟨_, _, rfl, by rw [HRR.out]; rfl, hb7⟩
end Go.Proofs.YtdjndnoiankicaaGreatDoor
namespace Go.Proofs.YtdjndnoiankicaaGreatDoor
open Go.RowKit Go.Shelf
set_option linter.unusedSimpArgs false
set_option linter.unusedVariables false
attribute [local go_sem] cell_over frozen_over

theorem rdec_b (n : Int) (h0 : 0 ≤ n) (h1 : n ≤ 9223372036854775807) (w : World) : Calls Tryz.prog 90 #[.int .i64 n] w fun e w' => e = .returned (.string ⟨(Lib.itoa n).toArray⟩) ∧ Below w.heap.size w w' := by
  obtain ⟨u, rfl⟩ : ∃ u : Nat, n = (u : Int) := ⟨n.toNat, by omega⟩
  rw [Tr.itoa_nat]
  refine (rdec_ok 18 u (Nat.lt_of_le_of_lt (show u ≤ 9223372036854775807 by omega) (by decide)) (by omega) (by omega) w).mono ?_
  rintro e w' ⟨rfl, rfl⟩
  exact ⟨rfl, Below.refl _ _⟩
theorem line_bytes (a b c d e : List UInt8) : (((((((((⟨a.toArray⟩ : ByteArray) ++ (⟨#[32]⟩ : ByteArray)) ++ (⟨b.toArray⟩ : ByteArray)) ++ (⟨#[32]⟩ : ByteArray)) ++ (⟨c.toArray⟩ : ByteArray)) ++ (⟨#[32]⟩ : ByteArray)) ++ (⟨d.toArray⟩ : ByteArray)) ++ (⟨#[32]⟩ : ByteArray)) ++ (⟨e.toArray⟩ : ByteArray)) = ⟨(Lib.join [a, b, c, d, e] [32]).toArray⟩ := by
  rw [Tr.join_two, Tr.join_two, Tr.join_two, Tr.join_two, Lib.join_one]
  exact Tag.bytes_ext (by simp)
set_option maxRecDepth 100000 in
set_option maxHeartbeats 4000000 in
theorem rtrline_ok (e : Tr.E) (he : Tr.ok e) (h0 : 0 ≤ e.1) (h1 : 0 ≤ e.2.2.2.1) (hs : e.2.2.2.2.size ≤ 1000) (w : World) :
    Calls Tryz.prog 20 #[trV e] w fun r w' => r = .returned (.string ⟨(Tr.line e).toArray⟩) ∧ Below w.heap.size w w' := by
  obtain ⟨⟨a0, a1⟩, hwho, hlab, b0, b1⟩ := he
  have I1 := Lib.hid (fun w => rdec_b e.1 h0 a1 w)
  have I2 := Lib.hid (fun w => rdec_b e.2.2.2.1 h1 b1 w)
  have T1 := Lib.hid (fun w => ridtext_ok e.2.1 hwho w)
  have T2 := Lib.hid (fun w => rltext_ok e.2.2.1 hlab w)
  have X1 := Lib.hid (fun w => rhex_ok e.2.2.2.2 hs w)
  have l1 : (⟨(Lib.itoa e.1).toArray⟩ : ByteArray).size ≤ 21 := by show (Lib.itoa e.1).toArray.size ≤ 21; rw [List.size_toArray]; exact Lib.itoa_length_le e.1 a0 a1
  have l2 : (⟨(Lib.itoa e.2.2.2.1).toArray⟩ : ByteArray).size ≤ 21 := by show (Lib.itoa e.2.2.2.1).toArray.size ≤ 21; rw [List.size_toArray]; exact Lib.itoa_length_le e.2.2.2.1 b0 b1
  have l3 : (⟨(Idn.text e.2.1).toArray⟩ : ByteArray).size ≤ 102 := by show (Idn.text e.2.1).toArray.size ≤ 102; rw [List.size_toArray]; exact idtext_len e.2.1
  have l4 := labtext_size e.2.2.1
  have l5 : (⟨(Tr.hex e.2.2.2.2.data.toList).toArray⟩ : ByteArray).size ≤ 2001 := by
    show (Tr.hex e.2.2.2.2.data.toList).toArray.size ≤ 2001
    rw [List.size_toArray]
    unfold Tr.hex
    split
    · simp
    · rw [Tr.hexl_len, Array.length_toList]; have : e.2.2.2.2.data.size ≤ 1000 := hs; omega
  have HS : Hid ((⟨(Tr.line e).toArray⟩ : ByteArray) = _) := Lib.hid (line_bytes (Lib.itoa e.1) (Idn.text e.2.1) (Lab.text e.2.2.1) (Lib.itoa e.2.2.2.1) (Tr.hex e.2.2.2.2.data.toList)).symm
  have HB := Lib.hid (below_fresh w (.cells #[.int .i64 e.1, .int .u16 (e.2.1.1.1 : Int), .int .u16 (e.2.1.1.2 : Int), .int .i64 e.2.1.2.1, .int .i64 e.2.1.2.2, .int .u16 (e.2.2.1.1 : Int), .int .u16 (e.2.2.1.2 : Int), .int .i64 e.2.2.2.1, .string e.2.2.2.2] 31))
  generalize (⟨(Lib.itoa e.1).toArray⟩ : ByteArray) = s1 at I1 l1 HS
  generalize (⟨(Idn.text e.2.1).toArray⟩ : ByteArray) = s2 at T1 l3 HS
  generalize (⟨(Lab.text e.2.2.1).toArray⟩ : ByteArray) = s3 at T2 l4 HS
  generalize (⟨(Lib.itoa e.2.2.2.1).toArray⟩ : ByteArray) = s4 at I2 l2 HS
  generalize (⟨(Tr.hex e.2.2.2.2.data.toList).toArray⟩ : ByteArray) = s5 at X1 l5 HS
  generalize (⟨(Tr.line e).toArray⟩ : ByteArray) = res at HS ⊢
  obtain ⟨at', ⟨⟨x1, x2⟩, x3, x4⟩, ⟨y1, y2⟩, er, da⟩ := e
  simp only at I1 I2 T1 T2 X1 HB
  have g1 : ¬ 9223372036854775807 < s1.size + 1 := by omega
  have g2 : ¬ 9223372036854775807 < s1.size + 1 + s2.size := by omega
  have g3 : ¬ 9223372036854775807 < s1.size + 1 + s2.size + 1 := by omega
  have g4 : ¬ 9223372036854775807 < s1.size + 1 + s2.size + 1 + s3.size := by omega
  have g5 : ¬ 9223372036854775807 < s1.size + 1 + s2.size + 1 + s3.size + 1 := by omega
  have g6 : ¬ 9223372036854775807 < s1.size + 1 + s2.size + 1 + s3.size + 1 + s4.size := by omega
  have g7 : ¬ 9223372036854775807 < s1.size + 1 + s2.size + 1 + s3.size + 1 + s4.size + 1 := by omega
  have g8 : ¬ 9223372036854775807 < s1.size + 1 + s2.size + 1 + s3.size + 1 + s4.size + 1 + s5.size := by omega
  clear hs hwho hlab a0 a1 b0 b1 h0 h1 l1 l2 l3 l4 l5
  go_enter Tryz.func20, Tryz.ntmps20
  go_wp2_with fail
  refine wp_region_over (by kernel_rfl) (by kernel_rfl) ?_
  repeat (go_big_quiet_step (first
    | ((go_at_call 90; with_reducible exact Calls.over_of (I1.out _)))
    | ((go_at_call 90; with_reducible exact Calls.over_of (I2.out _)))
    | ((go_at_call 47; exact Calls.over_of (T1.out _)))
    | ((go_at_call 91; exact Calls.over_of (T2.out _)))
    | ((go_at_call 92; exact Calls.over_of (X1.out _)))))
  refine wpQuiet_nil ?_
  intro W7 hW7
  have hb7 := below_here HB.out (below_of_over hW7)
  clear hW7
  go_wp2_with fail
  go_ret
  exact ⟨by rw [HS.out]; rfl, hb7⟩
end Go.Proofs.YtdjndnoiankicaaGreatDoor
namespace Go.Proofs.YtdjndnoiankicaaGreatDoor
open Go.RowKit Go.Shelf
set_option linter.unusedSimpArgs false
set_option linter.unusedVariables false
attribute [local go_sem] cell_over frozen_over

theorem info_rent : (Tryz.prog.info? 31).map (·.size) = some 9 := by kernel_rfl
theorem rent_ret2 {fn : Func} {a : Act} {W : World} {R : Ending → World → Prop} {p u : Tmp} (h : fn.results = #[.cell p 31, .tmp u]) (b : Nat) (hp : a.tmps.getD p undef = .pointer (some ⟨b, 0, none⟩)) (x0 x1 x2 x3 x4 x5 x6 x7 x8 : Value)
    (hb : W.heap[b]? = some (.cells #[x0, x1, x2, x3, x4, x5, x6, x7, x8] 31 (0, 0))) (hdf : a.defers = []) (hR : R (.returned (.tuple #[.agg #[x0, x1, x2, x3, x4, x5, x6, x7, x8], a.tmps.getD u undef])) W) : bodyPost Tryz.prog fn R .ret a W :=
  ret_cell_tmp h b 0 hp [x0, x1, x2, x3, x4, x5, x6, x7, x8] _ (range_of_block hb 0 _ fun j _ => by rw [Nat.zero_add]) Tryz.underlying31 rfl info_rent hdf hR
abbrev zent : Obj := .cells #[.int .i64 0, .int .u16 0, .int .u16 0, .int .i64 0, .int .i64 0, .int .u16 0, .int .u16 0, .int .i64 0, .string ⟨#[]⟩] 31
/-- What the function keeps in blocks. -/
structure Rq (r p g : Nat) (y : Value) (a b c d e : ByteArray) (W : World) : Prop where
  res : W.heap[r]? = some (.cells #[.int .i64 0, .int .u16 0, .int .u16 0, .int .i64 0, .int .i64 0, .int .u16 0, .int .u16 0, .int .i64 0, .string ⟨#[]⟩] 31 (0, 0))
  ent : W.heap[p]? = some (.cells #[y, .int .u16 0, .int .u16 0, .int .i64 0, .int .i64 0, .int .u16 0, .int .u16 0, .int .i64 0, .string ⟨#[]⟩] 31 (0, 0))
  row : ∃ cur, W.heap[g]? = some (.cells cur 9 (0, 0)) ∧ cur.toList.take 5 = [.string a, .string b, .string c, .string d, .string e]
theorem Rq.below {r p g : Nat} {y : Value} {a b c d e : ByteArray} {W W' : World} (h : Rq r p g y a b c d e W) (hb : Below W.heap.size W W') : Rq r p g y a b c d e W' := by
  obtain ⟨h1, h2, cur, h3, h4⟩ := h
  exact ⟨block_below hb h1, block_below hb h2, cur, block_below hb h3, h4⟩
theorem Rq.cells {r p g : Nat} {y : Value} {a b c d e : ByteArray} {W : World} (h : Rq r p g y a b c d e W) : W.cell? ⟨g, 0, none⟩ = some (.string a) ∧ W.cell? ⟨g, 1, none⟩ = some (.string b) ∧ W.cell? ⟨g, 2, none⟩ = some (.string c) ∧ W.cell? ⟨g, 3, none⟩ = some (.string d) ∧ W.cell? ⟨g, 4, none⟩ = some (.string e) ∧ g < W.heap.size := by
  obtain ⟨cur, h3, h4⟩ := h.row
  have k : ∀ j, j < 5 → W.cell? ⟨g, j, none⟩ = ([.string a, .string b, .string c, .string d, .string e] : List Value)[j]? := fun j hj => by
    rw [cell_of_row W g j cur _ (0, 0) h3, ← h4, List.getElem?_take_of_lt hj, Array.getElem?_toList]
  exact ⟨k 0 (by omega), k 1 (by omega), k 2 (by omega), k 3 (by omega), k 4 (by omega), (Array.getElem?_eq_some_iff.1 h3).1⟩
def rres : Option Tr.E → Value
  | some x => .tuple #[trV x, .bool true]
  | none => .tuple #[trV Tr.zero, .bool false]
theorem words_bound (s : ByteArray) (hs : s.size ≤ 1000) : ∀ x ∈ Tr.wordsL s.data.toList, (⟨x.toArray⟩ : ByteArray).size ≤ 1000 := fun x hx => by
  have hl : s.data.toList.length = s.size := by rw [Array.length_toList]; rfl
  have := Tr.fold_size s.data.toList [[]] 0 (by simp) x (by rw [Tr.fold_words0]; exact hx)
  show x.toArray.size ≤ 1000
  rw [List.size_toArray]; omega
set_option maxRecDepth 100000 in
set_option maxHeartbeats 4000000 in
theorem rtrparse_no (s : ByteArray) (hs : s.size ≤ 1000) (hn : (Tr.wordsL s.data.toList).length ≠ 5) (w : World) :
    Calls Tryz.prog 17 #[.string s] w fun e w' => e = .returned (.tuple #[trV Tr.zero, .bool false]) ∧ Below w.heap.size w w' := by
  have HB0 := Lib.hid (below_fresh w zent)
  have HR0 := Lib.hid (heap_alloc_new w zent)
  have HW := Lib.hid (rwords_ok s hs (w.alloc zent))
  generalize Tr.wordsL s.data.toList = ws at HW hn
  have hni : ¬ (ws.length : Int) = 5 := by omega
  go_enter Tryz.func17, Tryz.ntmps17
  go_wp2_with fail
  refine HW.out.mono ?_
  rintro r w1 ⟨v, rfl, ho, hb1⟩
  obtain ⟨A0, c0, rfl⟩ : ∃ A c, v = .slice A ws.length c := by
    rcases ho.2 with ⟨rfl, h⟩ | ⟨g, cap, cur, rfl, _⟩
    · exact ⟨none, 0, by rw [h]⟩
    · exact ⟨_, _, rfl⟩
  have hr1 := block_below hb1 HR0.out
  have HR1 := Lib.hid hr1
  have HB1 := Lib.hid (below_here HB0.out hb1)
  obtain ⟨⟨x0, x1, x2, x3, x4, x5, x6, x7, x8⟩, ⟨z0, z1, z2, z3, z4, z5, z6, z7, z8⟩, hlt⟩ := nine_cells hr1
  generalize ws.length = n at hni ⊢
  clear hr1 hb1 ho hn
  go_wp2_with fail
  refine rent_ret2 Tryz.results17 w.heap.size rfl _ _ _ _ _ _ _ _ _ (set_nine _ _ _ _ _ _ _ _ _ _ _ _ _ _ _ _ _ _ _ _ _ HR1.out) rfl ⟨rfl, below_nine HB1.out (Nat.le_refl _) _ _ _ _ _ _ _ _ _⟩
/-- The ways at the test behind the calls. -/
theorem rtr_ways (a b c d e : List UInt8) {ds : ByteArray} {bb : Bool} (hd : DataP (Tr.rdata e) ds bb) :
    (Tr.rcand [a, b, c, d, e] = none ∧ (Tr.number a < 0 ∨ (0 ≤ Tr.number a ∧ Tr.number d < 0) ∨ (0 ≤ Tr.number a ∧ 0 ≤ Tr.number d ∧ decide ((Idn.parse b).2 = 0) = false) ∨ (0 ≤ Tr.number a ∧ 0 ≤ Tr.number d ∧ decide ((Idn.parse b).2 = 0) = true ∧ decide ((Lab.parse c).2 = 0) = false) ∨ (0 ≤ Tr.number a ∧ 0 ≤ Tr.number d ∧ decide ((Idn.parse b).2 = 0) = true ∧ decide ((Lab.parse c).2 = 0) = true ∧ bb = false))) ∨
    (Tr.rcand [a, b, c, d, e] = some (Tr.number a, (Idn.parse b).1, (Lab.parse c).1, Tr.number d, ds) ∧ 0 ≤ Tr.number a ∧ 0 ≤ Tr.number d ∧ decide ((Idn.parse b).2 = 0) = true ∧ decide ((Lab.parse c).2 = 0) = true ∧ bb = true) := by
  have HC : Tr.rcand [a, b, c, d, e] = (match Tr.rdata e with
    | some x => if 0 ≤ Tr.number a ∧ 0 ≤ Tr.number d ∧ (Idn.parse b).2 = 0 ∧ (Lab.parse c).2 = 0 then some (Tr.number a, (Idn.parse b).1, (Lab.parse c).1, Tr.number d, ⟨x.toArray⟩) else none
    | none => none) := rfl
  rw [HC]
  clear HC
  cases hr : Tr.rdata e with
  | none =>
    rw [hr] at hd
    have hb : bb = false := hd
    refine .inl ⟨rfl, ?_⟩
    by_cases h1 : 0 ≤ Tr.number a
    · by_cases h2 : 0 ≤ Tr.number d
      · by_cases h3 : (Idn.parse b).2 = 0
        · by_cases h4 : (Lab.parse c).2 = 0
          · exact .inr (.inr (.inr (.inr ⟨h1, h2, decide_eq_true h3, decide_eq_true h4, hb⟩)))
          · exact .inr (.inr (.inr (.inl ⟨h1, h2, decide_eq_true h3, decide_eq_false h4⟩)))
        · exact .inr (.inr (.inl ⟨h1, h2, decide_eq_false h3⟩))
      · exact .inr (.inl ⟨h1, by omega⟩)
    · exact .inl (by omega)
  | some x =>
    rw [hr] at hd
    obtain ⟨hb, rfl⟩ : bb = true ∧ ds = ⟨x.toArray⟩ := hd
    by_cases h1 : 0 ≤ Tr.number a
    · by_cases h2 : 0 ≤ Tr.number d
      · by_cases h3 : (Idn.parse b).2 = 0
        · by_cases h4 : (Lab.parse c).2 = 0
          · refine .inr ⟨?_, h1, h2, decide_eq_true h3, decide_eq_true h4, hb⟩
            simp only
            rw [if_pos ⟨h1, h2, h3, h4⟩]
          · refine .inl ⟨?_, .inr (.inr (.inr (.inl ⟨h1, h2, decide_eq_true h3, decide_eq_false h4⟩)))⟩
            simp only
            rw [if_neg (fun h => h4 h.2.2.2)]
        · refine .inl ⟨?_, .inr (.inr (.inl ⟨h1, h2, decide_eq_false h3⟩))⟩
          simp only
          rw [if_neg (fun h => h3 h.2.2.1)]
      · refine .inl ⟨?_, .inr (.inl ⟨h1, by omega⟩)⟩
        simp only
        rw [if_neg (fun h => h2 h.2.1)]
    · refine .inl ⟨?_, .inl (by omega)⟩
      simp only
      rw [if_neg (fun h => h1 h.1)]
theorem rlparse_b (s : ByteArray) (hs : s.size ≤ 1000) (w : World) : Calls Tryz.prog 84 #[.string s] w fun e w' => e = .returned (.tuple #[labV (Lab.parse s.data.toList).1, .bool (decide ((Lab.parse s.data.toList).2 = 0))]) ∧ Below w.heap.size w w' := by
  refine (rlparse_ok s hs w).mono ?_
  rintro e w' ⟨rfl, hb⟩
  unfold Lab.parse
  cases Lab.rparse s.data.toList with
  | none => exact ⟨rfl, hb⟩
  | some a => exact ⟨rfl, hb⟩
end Go.Proofs.YtdjndnoiankicaaGreatDoor
namespace Go.Proofs.YtdjndnoiankicaaGreatDoor
open Go.RowKit Go.Shelf
set_option linter.unusedSimpArgs false
set_option linter.unusedVariables false
attribute [local go_sem] cell_over frozen_over

set_option maxRecDepth 100000 in
set_option maxHeartbeats 8000000 in
theorem rtrparse_five (s : ByteArray) (hs : s.size ≤ 1000) (a b c d e : ByteArray) (h5 : (Tr.wordsL s.data.toList).length = 5) (hst : strs (Tr.wordsL s.data.toList) = [.string a, .string b, .string c, .string d, .string e]) (za : a.size ≤ 1000) (zb : b.size ≤ 1000) (zc : c.size ≤ 1000) (zd : d.size ≤ 1000) (ze : e.size ≤ 1000) (w : World) :
    Calls Tryz.prog 17 #[.string s] w fun r w' => r = .returned (rres (Tr.rcand [a.data.toList, b.data.toList, c.data.toList, d.data.toList, e.data.toList])) ∧ Below w.heap.size w w' := by
  have HB0 := Lib.hid (below_fresh w zent)
  have HR0 := Lib.hid (heap_alloc_new w zent)
  have HW := Lib.hid (rwords_ok s hs (w.alloc zent))
  rw [hst, h5] at HW
  have N1 := Lib.hid (fun w => rnumber_ok a za w)
  have P1 := Lib.hid (fun w => ridparse_ok b zb w)
  have P2 := Lib.hid (fun w => rlparse_b c zc w)
  have N2 := Lib.hid (fun w => rnumber_ok d zd w)
  have D1 := Lib.hid (fun w => rdata_ok e ze w)
  have HWY := Lib.hid (fun ds bb h => rtr_ways a.data.toList b.data.toList c.data.toList d.data.toList e.data.toList (ds := ds) (bb := bb) h)
  generalize Tr.rcand [a.data.toList, b.data.toList, c.data.toList, d.data.toList, e.data.toList] = RES at HWY ⊢
  generalize Tr.number a.data.toList = n1 at N1 HWY
  generalize Tr.number d.data.toList = n2 at N2 HWY
  generalize decide ((Idn.parse b.data.toList).2 = 0) = bo at P1 HWY
  generalize decide ((Lab.parse c.data.toList).2 = 0) = bl at P2 HWY
  generalize (Idn.parse b.data.toList).1 = xi at P1 HWY
  generalize (Lab.parse c.data.toList).1 = xl at P2 HWY
  clear h5 hst za zb zc zd ze hs
  go_enter Tryz.func17, Tryz.ntmps17
  go_wp2_with fail
  refine HW.out.mono ?_
  rintro r w1 ⟨v, rfl, ho, hb1⟩
  obtain ⟨g, cap, rfl⟩ := ownsRow_succ ho
  have HQ0 : Rq w.heap.size w1.heap.size g (.int .i64 0) a b c d e (w1.alloc zent) := by
    refine ⟨block_below (below_fresh w1 zent) (block_below hb1 HR0.out), heap_alloc_new w1 zent, ?_⟩
    rcases ho.2 with ⟨h1, _⟩ | ⟨g', cap', cur, h1, _, hg, _, _, _, hx⟩
    · cases h1
    · simp only [Value.slice.injEq, Option.some.injEq, Addr.mk.injEq] at h1
      obtain ⟨⟨rfl, _, _⟩, _⟩ := h1
      exact ⟨cur, block_below (below_fresh w1 zent) hg, hx⟩
  have hgl : g < w1.heap.size := by
    rcases ho.2 with ⟨h1, _⟩ | ⟨g', cap', cur, h1, _, hg, _⟩
    · cases h1
    · simp only [Value.slice.injEq, Option.some.injEq, Addr.mk.injEq] at h1
      obtain ⟨⟨rfl, _, _⟩, _⟩ := h1
      exact (Array.getElem?_eq_some_iff.1 hg).1
  have hrl : w.heap.size < w1.heap.size := (Array.getElem?_eq_some_iff.1 (block_below hb1 HR0.out)).1
  have HB1 := Lib.hid (below_new (below_here HB0.out hb1) zent)
  have HQ := Lib.hid HQ0
  clear hb1 ho HQ0 HW HR0 HB0
  obtain ⟨c0, c1, c2, c3, c4, cl⟩ := HQ.out.cells
  go_wp2_with fail
  refine (N1.out _).mono ?_
  rintro r w2 ⟨rfl, hb2⟩
  have hq2 := HQ.out.below hb2
  have HB2 := Lib.hid (below_here HB1.out hb2)
  obtain ⟨⟨x0, x1, x2, x3, x4, x5, x6, x7, x8⟩, ⟨z0, z1, z2, z3, z4, z5, z6, z7, z8⟩, hpl⟩ := nine_cells hq2.ent
  clear c0 c1 c2 c3 c4 cl hb2
  generalize hp : w1.heap.size = p at hq2 x0 x1 x2 x3 x4 x5 x6 x7 x8 z0 z1 z2 z3 z4 z5 z6 z7 z8 hpl hgl hrl ⊢
  have hq3 : Rq w.heap.size p g (.int .i64 n1) a b c d e (w2.setCell ⟨p, 0, none⟩ (.int .i64 n1)) := by
    obtain ⟨h1, h2, cur, h3, h4⟩ := hq2
    refine ⟨(Below.heap_setCell w2 ⟨p, 0, none⟩ _ _ (by simp; omega)).trans h1, ?_, cur, (Below.heap_setCell w2 ⟨p, 0, none⟩ _ _ (by simp; omega)).trans h3, h4⟩
    simp [World.setCell, Array.getElem?_modify, h2]
  have HQ3 := Lib.hid hq3
  have HB3 := Lib.hid (HB2.out.setCell (p := ⟨p, 0, none⟩) (Nat.le_of_lt hrl) (.int .i64 n1))
  go_upto_region 6 with (fail)
  clear hq2 hq3 x0 x1 x2 x3 x4 x5 x6 x7 x8 z0 z1 z2 z3 z4 z5 z6 z7 z8 hpl HQ
  generalize hW3 : w2.setCell ⟨p, 0, none⟩ (.int .i64 n1) = w3 at HQ3 HB3 ⊢
  clear hW3 HB2 HB1
  obtain ⟨c0, c1, c2, c3, c4, cl⟩ := HQ3.out.cells
  go_wp2_with fail
  refine (P1.out _).mono ?_
  rintro r w4 ⟨rfl, hb⟩
  have hpq1 : p < w4.heap.size := (Array.getElem?_eq_some_iff.1 (HQ3.out.below hb).ent).1
  replace HQ3 := Lib.hid ((HQ3.out.below hb).below (below_fresh w4 (.cells #[.int .u16 (xi.1.1 : Int), .int .u16 (xi.1.2 : Int), .int .i64 xi.2.1, .int .i64 xi.2.2] 26)))
  replace HB3 := Lib.hid (below_new (below_here HB3.out hb) (.cells #[.int .u16 (xi.1.1 : Int), .int .u16 (xi.1.2 : Int), .int .i64 xi.2.1, .int .i64 xi.2.2] 26))
  have HI := Lib.hid (show IdIn w4.heap.size xi (w4.alloc (.cells #[.int .u16 (xi.1.1 : Int), .int .u16 (xi.1.2 : Int), .int .i64 xi.2.1, .int .i64 xi.2.2] 26)) from heap_alloc_new w4 _)
  clear c0 c1 c2 c3 c4 cl hb
  obtain ⟨c0, c1, c2, c3, c4, cl⟩ := HQ3.out.cells
  go_wp2_with fail
  refine (P2.out _).mono ?_
  rintro r w5 ⟨rfl, hb⟩
  have hpq2 : p < w5.heap.size := (Array.getElem?_eq_some_iff.1 (HQ3.out.below hb).ent).1
  replace HQ3 := Lib.hid ((HQ3.out.below hb).below (below_fresh w5 (.cells #[.int .u16 (xl.1 : Int), .int .u16 (xl.2 : Int)] 24)))
  replace HB3 := Lib.hid (below_new (below_here HB3.out hb) (.cells #[.int .u16 (xl.1 : Int), .int .u16 (xl.2 : Int)] 24))
  replace HI := Lib.hid ((HI.out.below hb).below (below_fresh w5 (.cells #[.int .u16 (xl.1 : Int), .int .u16 (xl.2 : Int)] 24)))
  have HL := Lib.hid (LabIn.new w5 xl)
  clear c0 c1 c2 c3 c4 cl hb
  obtain ⟨c0, c1, c2, c3, c4, cl⟩ := HQ3.out.cells
  go_wp2_with fail
  refine (N2.out _).mono ?_
  rintro r w6 ⟨rfl, hb⟩
  replace HQ3 := Lib.hid (HQ3.out.below hb)
  replace HB3 := Lib.hid (below_here HB3.out hb)
  replace HI := Lib.hid (HI.out.below hb)
  replace HL := Lib.hid (HL.out.below hb)
  clear c0 c1 c2 c3 c4 cl hb
  obtain ⟨c0, c1, c2, c3, c4, cl⟩ := HQ3.out.cells
  go_wp2_with fail
  refine (D1.out _).mono ?_
  rintro r w7 ⟨ds, bb, rfl, hd, hb⟩
  replace HQ3 := Lib.hid (HQ3.out.below hb)
  replace HB3 := Lib.hid (below_here HB3.out hb)
  replace HI := Lib.hid (HI.out.below hb)
  replace HL := Lib.hid (HL.out.below hb)
  have hways := HWY.out ds bb hd
  clear c0 c1 c2 c3 c4 cl hb hd HWY N1 N2 P1 P2 D1
  generalize w4.heap.size = q1 at HI hpq1 ⊢
  generalize w5.heap.size = q2 at HL hpq2 ⊢
  obtain ⟨⟨x0, x1, x2, x3, x4, x5, x6, x7, x8⟩, ⟨z0, z1, z2, z3, z4, z5, z6, z7, z8⟩, hpl⟩ := nine_cells HQ3.out.ent
  obtain ⟨⟨y0, y1, y2, y3, y4, y5, y6, y7, y8⟩, ⟨t0, t1, t2, t3, t4, t5, t6, t7, t8⟩, hrl7⟩ := nine_cells HQ3.out.res
  rcases hways with ⟨rfl, h | ⟨h1, h⟩ | ⟨h1, h2, rfl⟩ | ⟨h1, h2, rfl, rfl⟩ | ⟨h1, h2, rfl, rfl, rfl⟩⟩ | ⟨rfl, h1, h2, rfl, rfl, rfl⟩
  case inr =>
    obtain ⟨⟨i0, i1, i2, i3⟩, i4, i5, i6, i7, i8⟩ := quad_cells HI.out
    obtain ⟨l0, l1, l2, l3⟩ := pair_cells HL.out
    have hll := HL.out.cells.2.2
    have g1 : ¬ n1 < 0 := by omega
    have g2 : ¬ n2 < 0 := by omega
    have e1 : ¬ q1 = p := by omega
    have e2 : ¬ p = q1 := by omega
    have e3 : ¬ q2 = p := by omega
    have e4 : ¬ p = q2 := by omega
    clear h1 h2
    go_upto_region 15 with (fail)
    have hp8 : (((((((((w7.setCell ⟨p, 1, none⟩ (.int .u16 (xi.1.1 : Int))).setCell ⟨p, 2, none⟩ (.int .u16 (xi.1.2 : Int))).setCell ⟨p, 3, none⟩ (.int .i64 xi.2.1)).setCell ⟨p, 4, none⟩ (.int .i64 xi.2.2)).setCell ⟨p, 5, none⟩ (.int .u16 (xl.1 : Int))).setCell ⟨p, 6, none⟩ (.int .u16 (xl.2 : Int))).setCell ⟨p, 7, none⟩ (.int .i64 n2)).setCell ⟨p, 8, none⟩ (.string ds))).heap[p]? = some (.cells #[.int .i64 n1, .int .u16 (xi.1.1 : Int), .int .u16 (xi.1.2 : Int), .int .i64 xi.2.1, .int .i64 xi.2.2, .int .u16 (xl.1 : Int), .int .u16 (xl.2 : Int), .int .i64 n2, .string ds] 31 (0, 0)) := by
      have h := heap_setCells_same p 31 [.int .u16 (xi.1.1 : Int), .int .u16 (xi.1.2 : Int), .int .i64 xi.2.1, .int .i64 xi.2.2, .int .u16 (xl.1 : Int), .int .u16 (xl.2 : Int), .int .i64 n2, .string ds] 1 w7 _ HQ3.out.ent (by simp)
      exact h
    have hr8 : (((((((((w7.setCell ⟨p, 1, none⟩ (.int .u16 (xi.1.1 : Int))).setCell ⟨p, 2, none⟩ (.int .u16 (xi.1.2 : Int))).setCell ⟨p, 3, none⟩ (.int .i64 xi.2.1)).setCell ⟨p, 4, none⟩ (.int .i64 xi.2.2)).setCell ⟨p, 5, none⟩ (.int .u16 (xl.1 : Int))).setCell ⟨p, 6, none⟩ (.int .u16 (xl.2 : Int))).setCell ⟨p, 7, none⟩ (.int .i64 n2)).setCell ⟨p, 8, none⟩ (.string ds))).heap[w.heap.size]? = _ := (heap_setCells_other p [.int .u16 (xi.1.1 : Int), .int .u16 (xi.1.2 : Int), .int .i64 xi.2.1, .int .i64 xi.2.2, .int .u16 (xl.1 : Int), .int .u16 (xl.2 : Int), .int .i64 n2, .string ds] 1 w7 w.heap.size (by omega)).trans HQ3.out.res
    have hb8 : Below w.heap.size w (((((((((w7.setCell ⟨p, 1, none⟩ (.int .u16 (xi.1.1 : Int))).setCell ⟨p, 2, none⟩ (.int .u16 (xi.1.2 : Int))).setCell ⟨p, 3, none⟩ (.int .i64 xi.2.1)).setCell ⟨p, 4, none⟩ (.int .i64 xi.2.2)).setCell ⟨p, 5, none⟩ (.int .u16 (xl.1 : Int))).setCell ⟨p, 6, none⟩ (.int .u16 (xl.2 : Int))).setCell ⟨p, 7, none⟩ (.int .i64 n2)).setCell ⟨p, 8, none⟩ (.string ds))) := below_setCells HB3.out (Nat.le_of_lt hrl) 1 [.int .u16 (xi.1.1 : Int), .int .u16 (xi.1.2 : Int), .int .i64 xi.2.1, .int .i64 xi.2.2, .int .u16 (xl.1 : Int), .int .u16 (xl.2 : Int), .int .i64 n2, .string ds]
    have HP8 := Lib.hid hp8
    have HR8 := Lib.hid hr8
    have HB8 := Lib.hid hb8
    clear hp8 hr8 hb8 x0 x1 x2 x3 x4 x5 x6 x7 x8 z0 z1 z2 z3 z4 z5 z6 z7 z8 hpl y0 y1 y2 y3 y4 y5 y6 y7 y8 t0 t1 t2 t3 t4 t5 t6 t7 t8 hrl7 i0 i1 i2 i3 i4 i5 i6 i7 i8 l0 l1 l2 l3 hll
    generalize hW8 : ((((((((w7.setCell ⟨p, 1, none⟩ (.int .u16 (xi.1.1 : Int))).setCell ⟨p, 2, none⟩ (.int .u16 (xi.1.2 : Int))).setCell ⟨p, 3, none⟩ (.int .i64 xi.2.1)).setCell ⟨p, 4, none⟩ (.int .i64 xi.2.2)).setCell ⟨p, 5, none⟩ (.int .u16 (xl.1 : Int))).setCell ⟨p, 6, none⟩ (.int .u16 (xl.2 : Int))).setCell ⟨p, 7, none⟩ (.int .i64 n2)).setCell ⟨p, 8, none⟩ (.string ds)) = w8 at HP8 HR8 HB8 ⊢
    clear hW8 HQ3 HB3 HI HL
    obtain ⟨⟨x0, x1, x2, x3, x4, x5, x6, x7, x8⟩, ⟨z0, z1, z2, z3, z4, z5, z6, z7, z8⟩, hpl⟩ := nine_cells HP8.out
    obtain ⟨⟨y0, y1, y2, y3, y4, y5, y6, y7, y8⟩, ⟨t0, t1, t2, t3, t4, t5, t6, t7, t8⟩, hrl7⟩ := nine_cells HR8.out
    go_wp2_with fail
    refine rent_ret2 Tryz.results17 w.heap.size rfl _ _ _ _ _ _ _ _ _ (set_nine _ _ _ _ _ _ _ _ _ _ _ _ _ _ _ _ _ _ _ _ _ HR8.out) rfl ⟨rfl, below_nine HB8.out (Nat.le_refl _) _ _ _ _ _ _ _ _ _⟩
  all_goals
    go_wp2_with fail
    refine rent_ret2 Tryz.results17 w.heap.size rfl _ _ _ _ _ _ _ _ _ (set_nine _ _ _ _ _ _ _ _ _ _ _ _ _ _ _ _ _ _ _ _ _ HQ3.out.res) rfl ⟨rfl, below_nine HB3.out (Nat.le_refl _) _ _ _ _ _ _ _ _ _⟩
theorem rtrparse_ok (s : ByteArray) (hs : s.size ≤ 1000) (w : World) :
    Calls Tryz.prog 17 #[.string s] w fun r w' => r = .returned (rres (Tr.rparse s.data.toList)) ∧ Below w.heap.size w w' := by
  by_cases h5 : (Tr.wordsL s.data.toList).length = 5
  · obtain ⟨a, b, c, d, e, hw⟩ : ∃ a b c d e, Tr.wordsL s.data.toList = [a, b, c, d, e] := by
      match h : Tr.wordsL s.data.toList, h5 with
      | [a, b, c, d, e], _ => exact ⟨a, b, c, d, e, rfl⟩
    have hb := words_bound s hs
    rw [hw] at hb
    have := rtrparse_five s hs ⟨a.toArray⟩ ⟨b.toArray⟩ ⟨c.toArray⟩ ⟨d.toArray⟩ ⟨e.toArray⟩ h5 (by rw [hw]; rfl) (hb a (by simp)) (hb b (by simp)) (hb c (by simp)) (hb d (by simp)) (hb e (by simp)) w
    simp only [List.toList_toArray] at this
    unfold Tr.rparse
    rw [hw]
    exact this
  · have hr : Tr.rparse s.data.toList = none := by
      unfold Tr.rparse Tr.rcand
      split
      · rename_i h; rw [h] at h5; exact absurd rfl h5
      · rfl
    rw [hr]
    exact rtrparse_no s hs h5 w
end Go.Proofs.YtdjndnoiankicaaGreatDoor
