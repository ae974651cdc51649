/- The document's numbers, digits and words of a line: what they return. The document's digits of bytes, and the words of a line: what they return. The words of a line, as the document cuts it: what they are. No conditions. -/
import Derived.Test.YtlmacaenbililaaGreatDoorKt
import Derived.Test.YtlmacaenbililaaGreatDoorKh
import Derived.Test.YtlmacaenbililaaGreatDoorKind
namespace Go.Proofs.YtlmacaenbililaaGreatDoor
open Go.RowKit Go.Shelf
set_option linter.unusedSimpArgs false
set_option linter.unusedVariables false
attribute [local go_sem] cell_over frozen_over

theorem digit_of : ∀ d : Fin 10, (⟨#[48, 49, 50, 51, 52, 53, 54, 55, 56, 57]⟩ : ByteArray).extract d.val (d.val + 1) = ⟨#[UInt8.ofNat (48 + d.val)]⟩ := by decide
theorem slice_digit (u : Nat) (W : World) : (Instr.slice 9 (.string ⟨#[48, 49, 50, 51, 52, 53, 54, 55, 56, 57]⟩) (some (.int .i64 ((u % 10 : Nat) : Int))) (some (.int .i64 (((u % 10 : Nat) : Int) + 1))) none).run Tryz.prog W = .ok (.string ⟨#[UInt8.ofNat (48 + u % 10)]⟩) W := by
  have h : u % 10 < 10 := Nat.mod_lt _ (by omega)
  rw [run_slice_string W 9 _ .i64 .i64 ((u % 10 : Nat) : Int) (((u % 10 : Nat) : Int) + 1) Tryz.underlying9 (by omega) (by omega) (by show (((u % 10 : Nat) : Int) + 1) ≤ 10; omega)]
  have := digit_of ⟨u % 10, h⟩
  rw [Int.toNat_natCast, show (((u % 10 : Nat) : Int) + 1).toNat = u % 10 + 1 by omega, this]
set_option maxRecDepth 100000 in
theorem rdec_ok : ∀ (n u : Nat), u < 10 ^ (n + 1) → u ≤ 9223372036854775807 → n ≤ 18 → ∀ w : World, Calls Tryz.prog 85 #[.int .i64 (u : Int)] w fun e w' => e = .returned (.string ⟨(Lib.decDigits u).toArray⟩) ∧ w' = w := by
  intro n
  induction n with
  | zero =>
    intro u hu hb hn w
    have h10 : u < 10 := by simpa using hu
    have hi : (u : Int) < 10 := by omega
    have hm : u % 10 = u := Nat.mod_eq_of_lt h10
    have hs := slice_digit u
    rw [hm] at hs
    have ht : (u : Int).tmod 10 = (u : Int) := by rw [Int.tmod_eq_emod_of_nonneg (by omega)]; omega
    rw [Lib.decDigits_one h10]
    generalize UInt8.ofNat (48 + u) = c at hs ⊢
    clear hu hm
    go_enter Tryz.func85, Tryz.ntmps85
    go_wp2_with fail
    go_ret
    exact ⟨rfl, rfl⟩
  | succ n ih =>
    intro u hu hb hn w
    by_cases h10 : u < 10
    · exact ih u (Nat.lt_of_lt_of_le h10 (Nat.le_self_pow (by omega) 10)) hb (by omega) w
    · have hi : ¬ (u : Int) < 10 := by omega
      have hs := slice_digit u
      have ht : (u : Int).tmod 10 = ((u % 10 : Nat) : Int) := by rw [Int.tmod_eq_emod_of_nonneg (by omega)]; omega
      have hq : (u : Int).tdiv 10 = ((u / 10 : Nat) : Int) := by rw [Int.tdiv_eq_ediv_of_nonneg (by omega)]; omega
      have HI := Lib.hid (fun w => ih (u / 10) (by rw [Nat.pow_succ] at hu; omega) (by omega) (by omega) w)
      have hd : (⟨(Lib.decDigits (u / 10)).toArray⟩ : ByteArray) ++ ⟨#[UInt8.ofNat (48 + u % 10)]⟩ = ⟨(Lib.decDigits u).toArray⟩ := by
        rw [Lib.decDigits.eq_1 u, dif_neg h10]
        exact Tag.bytes_ext (by simp)
      have hl : (⟨(Lib.decDigits (u / 10)).toArray⟩ : ByteArray).size ≤ 19 := by
        have h1 : Lib.nDigits (u / 10) ≤ 19 := Nat.le_of_lt_succ (by
          have key : ∀ k v : Nat, v < 10 ^ (k + 1) → Lib.nDigits v ≤ k + 1 := by
            intro k
            induction k with
            | zero => intro v hv; rw [Lib.nDigits_small (by simpa using hv)]; exact Nat.le_refl _
            | succ k ih =>
              intro v hv
              by_cases h1 : v < 10
              · rw [Lib.nDigits_small h1]; omega
              · rw [Lib.nDigits_big h1]
                have := ih (v / 10) (by rw [Nat.pow_succ] at hv; omega)
                omega
          exact Nat.lt_succ_of_le (key 18 (u / 10) (Nat.lt_of_le_of_lt (show u / 10 ≤ 9223372036854775807 by omega) (by decide))))
        show (Lib.decDigits (u / 10)).toArray.size ≤ 19
        rw [List.size_toArray, Lib.decDigits_length]; exact h1
      have hr : u % 10 < 10 := Nat.mod_lt _ (by omega)
      rw [← hd]
      generalize UInt8.ofNat (48 + u % 10) = c at hs ⊢
      generalize (⟨(Lib.decDigits (u / 10)).toArray⟩ : ByteArray) = D at HI hl ⊢
      generalize u % 10 = r at hs ht hr ⊢
      have hq2 : u / 10 ≤ 922337203685477580 := by omega
      generalize u / 10 = q at HI hq hq2
      have hq3 : wrap64 (q : Int) = (q : Int) := by unfold wrap64; omega
      clear hu ih hd
      go_enter Tryz.func85, Tryz.ntmps85
      go_wp2_with (go_at_call 85; refine (HI.out _).mono ?_; rintro e w1 ⟨rfl, hw1⟩; obtain rfl := hw1.symm)
      go_ret
      exact ⟨rfl, rfl⟩
end Go.Proofs.YtlmacaenbililaaGreatDoor
namespace Go.Proofs.YtlmacaenbililaaGreatDoor
open Go.RowKit Go.Shelf
set_option linter.unusedSimpArgs false
set_option linter.unusedVariables false
attribute [local go_sem] cell_over frozen_over

theorem hexd_slice : ∀ d : Fin 16, (⟨#[48, 49, 50, 51, 52, 53, 54, 55, 56, 57, 97, 98, 99, 100, 101, 102]⟩ : ByteArray).extract d.val (d.val + 1) = ⟨#[Tr.hexd d.val]⟩ := by decide
theorem slice_hex (j : Nat) (hj : j < 16) (W : World) : (Instr.slice 9 (.string ⟨#[48, 49, 50, 51, 52, 53, 54, 55, 56, 57, 97, 98, 99, 100, 101, 102]⟩) (some (.int .i64 (j : Int))) (some (.int .i64 ((j : Int) + 1))) none).run Tryz.prog W = .ok (.string ⟨#[Tr.hexd j]⟩) W := by
  rw [run_slice_string W 9 _ .i64 .i64 (j : Int) ((j : Int) + 1) Tryz.underlying9 (by omega) (by omega) (by show ((j : Int) + 1) ≤ 16; omega)]
  have := hexd_slice ⟨j, hj⟩
  simp only at this
  rw [Int.toNat_natCast, show ((j : Int) + 1).toNat = j + 1 by omega, this]
end Go.Proofs.YtlmacaenbililaaGreatDoor
namespace Go.Proofs.YtlmacaenbililaaGreatDoor
open Go.RowKit Go.Shelf
set_option linter.unusedSimpArgs false
set_option linter.unusedVariables false
attribute [local go_sem] cell_over frozen_over

theorem own_new1 (w : World) (base : Nat) (hb : base ≤ w.heap.size) (e : TypeId) (x : Value) : (w.alloc (.cells #[x] e)).ownsRow base e 1 (.slice (some ⟨w.heap.size, 0, none⟩) 1 1) 1 [x] :=
  ⟨rfl, .inr ⟨w.heap.size, 1, #[x], rfl, hb, heap_alloc_new w _, Nat.le_refl _, by unfold maxLen; omega, rfl, rfl⟩⟩
theorem own_set {w : World} {base g cap n : Nat} {e : TypeId} {xs : List Value} (h : w.ownsRow base e 1 (.slice (some ⟨g, 0, none⟩) n cap) n xs) (i : Nat) (hi : i < n) (v : Value) :
    (w.setCell ⟨g, i, none⟩ v).ownsRow base e 1 (.slice (some ⟨g, 0, none⟩) n cap) n (xs.set i v) := by
  refine ⟨by rw [List.length_set]; exact h.1, ?_⟩
  rcases h.2 with ⟨h1, _⟩ | ⟨g', cap', cur, h1, hb, hg, hc1, hc2, hcs, hx⟩
  · cases h1
  · simp only [Value.slice.injEq, Option.some.injEq, Addr.mk.injEq] at h1
    obtain ⟨⟨rfl, _, _⟩, _, rfl⟩ := h1
    refine .inr ⟨g, cap, cur.setIfInBounds i v, rfl, hb, ?_, hc1, hc2, by simpa using hcs, ?_⟩
    · have hlt : g < w.heap.size := (Array.getElem?_eq_some_iff.1 hg).1
      simp [World.setCell, Array.getElem?_modify, hg]
    · rw [← hx, Array.toList_setIfInBounds, List.take_set]
theorem own_cell {w : World} {base g cap n : Nat} {e : TypeId} {xs : List Value} (h : w.ownsRow base e 1 (.slice (some ⟨g, 0, none⟩) n cap) n xs) (i : Nat) (v : Value) (hv : xs[i]? = some v) : w.cell? ⟨g, i, none⟩ = some v ∧ w.frozen? ⟨g, i, none⟩ = false ∧ g < w.heap.size := by
  have h2 := h.cells (g := g) rfl i v hv
  rw [addr_mid, Nat.zero_add] at h2
  rcases h.2 with ⟨h1, _⟩ | ⟨g', cap', cur, h1, hb, hg, _⟩
  · cases h1
  · simp only [Value.slice.injEq, Option.some.injEq, Addr.mk.injEq] at h1
    obtain ⟨⟨rfl, _, _⟩, _⟩ := h1
    exact ⟨h2, by simp [World.frozen?, hg], (Array.getElem?_eq_some_iff.1 hg).1⟩
def strs (l : List (List UInt8)) : List Value := l.map fun x => .string ⟨x.toArray⟩
theorem strs_len (l : List (List UInt8)) : (strs l).length = l.length := by simp [strs]
theorem info_str : (Tryz.prog.info? 9).map (fun i => (i.zero, i.size, i.bytes)) = some (some (.string ⟨#[]⟩), 1, 16) := by kernel_rfl
namespace Tr
theorem wstep_form (acc : List (List UInt8)) (c : UInt8) : ∃ i x, wstep acc c = i ++ [x] := by
  unfold wstep; split
  · exact ⟨_, _, rfl⟩
  · exact ⟨_, _, rfl⟩
theorem fold_form : ∀ (l : List UInt8), ∃ i x, l.foldl wstep [[]] = i ++ [x] := fun l => by
  rcases List.eq_nil_or_concat l with h | ⟨l', c, h⟩
  · rw [h]; exact ⟨[], [], rfl⟩
  · rw [h, List.concat_eq_append, List.foldl_append]; exact wstep_form _ _
theorem fold_len : ∀ (l : List UInt8) (acc : List (List UInt8)), acc ≠ [] → (l.foldl wstep acc).length ≤ acc.length + l.length
  | [], acc, _ => by simp
  | c :: l, acc, h => by
    have h1 : wstep acc c ≠ [] := by obtain ⟨i, x, e⟩ := wstep_form acc c; rw [e]; simp
    have h2 : (wstep acc c).length ≤ acc.length + 1 := by
      have := List.length_pos_iff.2 h
      unfold wstep; split
      · rw [List.length_append]; exact Nat.le_refl _
      · rw [List.length_append, List.length_dropLast, List.length_singleton]; omega
    have := fold_len l (wstep acc c) h1
    rw [List.foldl_cons, List.length_cons]; omega
theorem fold_size : ∀ (l : List UInt8) (acc : List (List UInt8)) (m : Nat), (∀ x ∈ acc, x.length ≤ m) → ∀ x ∈ l.foldl wstep acc, x.length ≤ m + l.length
  | [], acc, m, h => by simpa using h
  | c :: l, acc, m, h => by
    intro x hx
    rw [List.foldl_cons] at hx
    have := fold_size l (wstep acc c) (m + 1) (fun y hy => by
      unfold wstep at hy
      split at hy
      · rcases List.mem_append.1 hy with hy | hy
        · have := h y hy; omega
        · simp at hy; rw [hy]; simp
      · rcases List.mem_append.1 hy with hy | hy
        · have := h y ((List.dropLast_sublist acc).subset hy); omega
        · simp only [List.mem_singleton] at hy
          rw [hy, List.length_append]
          cases hl : acc.getLast? with
          | none => simp
          | some z => have := h z (List.mem_of_getLast? hl); simp; omega) x hx
    rw [List.length_cons]; omega
end Tr
end Go.Proofs.YtlmacaenbililaaGreatDoor
