/- The reference's labels (package forepeakref02): Parse: what it returns. No conditions. -/
import Derived.Test.YtdjndnoiankicaaGreatDoorLrefc
namespace Go.Proofs.YtdjndnoiankicaaGreatDoor
open Go.RowKit Go.Shelf
set_option linter.unusedSimpArgs false
set_option linter.unusedVariables false

theorem bytes_split (s : ByteArray) (k : Nat) (h : k < s.size) : s.data.toList = s.data.toList.take k ++ s[k] :: s.data.toList.drop (k + 1) := by
  have hk : k < s.data.toList.length := by rw [Array.length_toList]; exact h
  rw [show s[k] = s.data.toList[k] from rfl, List.getElem_cons_drop, List.take_append_drop]
theorem extract_take (s : ByteArray) (k : Nat) : (s.extract 0 k).data.toList = s.data.toList.take k := by simp [ByteArray.data_extract]
theorem extract_drop (s : ByteArray) (k : Nat) : (s.extract k s.size).data.toList = s.data.toList.drop k := by
  have : s.data.toList.length = s.size := by rw [Array.length_toList]; rfl
  simp [ByteArray.data_extract]
  rw [List.take_of_length_le]
  rw [List.length_drop, this]
  exact Nat.le_refl _
set_option maxRecDepth 100000 in
set_option maxHeartbeats 2000000 in
theorem rlparse_ok (s : ByteArray) (hs : s.size ≤ 1000) (w : World) :
    Calls Tryz.prog 84 #[.string s] w fun e w' => e = .returned (match Lab.rparse s.data.toList with | some a => .tuple #[labV a, .bool true] | none => .tuple #[labV (0, 0), .bool false]) ∧ Below w.heap.size w w' := by
  obtain ⟨res, hres⟩ : ∃ res, res = Lab.rparse s.data.toList := ⟨_, rfl⟩
  rw [← hres]
  have HRES := Lib.hid hres
  clear hres
  go_enter Tryz.func84, Tryz.ntmps84
  go_wp2_with fail
  go_loopw [4, 5, 6, 7, 8] (fun i _ _ _ _ wr => ∃ (k : Nat), i = .int .i64 (k : Int) ∧ k ≤ s.size ∧ Hid (∀ b ∈ s.data.toList.take k, b ≠ 47) ∧ wr = w.alloc (.cells #[.int .u16 0, .int .u16 0] 24)) (fun i _ _ _ _ _ => s.size - (intOf i).toNat)
  case atStart => exact ⟨0, rfl, by omega, Lib.hid (by simp), rfl⟩
  case round =>
    obtain ⟨k, rfl, hk, hf, rfl⟩ := hrel
    by_cases hkl : k = s.size
    · have hno : Lab.rparse s.data.toList = none := by
        have h := hf.out
        have hl : s.data.toList.length = s.size := by rw [Array.length_toList]; rfl
        rw [List.take_of_length_le (by omega)] at h
        unfold Lab.rparse
        rw [Lab.cut_no 47 _ h]; rfl
      have hr : res = none := by rw [HRES.out, hno]
      subst hr
      clear hno
      subst hkl
      go_wp2_with fail
      exact bodyPost_ret (v := .tuple #[labV (0, 0), .bool false]) (by simp [results, Tryz.results84, go_sem]) rfl ⟨rfl, below_new (Below.refl _ _) _⟩
    · have hkn : k < s.size := by omega
      have hki : (k : Int) < (s.size : Int) := by omega
      have hsp := bytes_split s k hkn
      have htk : s.data.toList.take (k + 1) = s.data.toList.take k ++ [s[k]] := by
        have hk : k < s.data.toList.length := by rw [Array.length_toList]; exact hkn
        rw [List.take_succ_eq_append_getElem hk]; rfl
      by_cases hc : s[k] = 47
      · have hcb : ((s[k].toNat : Int) == 47) = true := by rw [hc]; rfl
        rw [hc] at hsp
        have hr : res = (match Tag.rparse (s.data.toList.take k), Tag.rparse (s.data.toList.drop (k + 1)) with | some a, some b => some (a, b) | _, _ => none) := by
          rw [HRES.out]
          unfold Lab.rparse
          rw [hsp, Lab.cut_at 47 _ _ hf.out]
          simp only [if_true]
          rw [← hsp]
          rfl
        have HX := Lib.hid (fun w => rparse_ok (s.extract 0 k) (by rw [ByteArray.size_extract]; omega) w)
        have HY := Lib.hid (fun w => rparse_ok (s.extract (k + 1) s.size) (by rw [ByteArray.size_extract]; omega) w)
        rw [extract_take] at HX
        rw [extract_drop] at HY
        generalize Tag.rparse (s.data.toList.take k) = rx at HX hr
        generalize Tag.rparse (s.data.toList.drop (k + 1)) = ry at HY hr
        have HAB := Lib.hid (show ∀ w : World, True from fun _ => trivial)
        have hk1 : (0 : Int) ≤ (k : Int) + 1 := by omega
        have hk2 : (k : Int) + 1 ≤ (s.size : Int) := by omega
        subst hr
        clear hc hsp htk hkl HRES hf
        cases rx <;> cases ry
        all_goals
          go_wp2_with (first
            | (go_at_call 144; have _h := HAB; refine (HX.out _).mono ?_; rintro e w1 ⟨rfl, hw1⟩; obtain rfl := hw1.symm; clear HAB)
            | (go_at_call 144; refine (HY.out _).mono ?_; rintro e w1 ⟨rfl, hw1⟩; obtain rfl := hw1.symm))
          first
            | exact bodyPost_ret (v := .tuple #[labV (0, 0), .bool false]) (by simp [results, Tryz.results84, go_sem]) rfl ⟨rfl, below_new (Below.refl _ _) _⟩
            | exact bodyPost_ret (v := .tuple #[labV (_, _), .bool true]) (by simp [results, Tryz.results84, go_sem]) rfl ⟨rfl, below_new (Below.refl _ _) _⟩
      · have hcb : ((s[k].toNat : Int) == 47) = false := by
          rw [beq_eq_false_iff_ne]
          intro h
          exact hc (UInt8.toNat_inj.1 (by have : (47 : UInt8).toNat = 47 := rfl; omega))
        have HN : Hid (∀ b ∈ s.data.toList.take (k + 1), b ≠ 47) := Lib.hid (by
          rw [htk]
          intro b hb
          rcases List.mem_append.1 hb with h | h
          · exact hf.out b h
          · rw [List.mem_singleton.1 h]; exact hc)
        clear hc hsp htk hkl
        go_wp2_with fail
        go_roundw
        case rel => exact ⟨k + 1, by go_num, by omega, HN, trivial⟩
        case measure => simp [intOf]; omega
end Go.Proofs.YtdjndnoiankicaaGreatDoor
