/- The reference's Parse (package forepeakref01), as a plain law. No conditions. -/
import Derived.Test.YtlmacaenbililaaGreatDoorTrefc
import Derived.Lib.SlicesS
namespace Go.Proofs.YtlmacaenbililaaGreatDoor
open Go.RowKit Go.Shelf
set_option linter.unusedSimpArgs false
set_option linter.unusedVariables false

namespace Tag
/-- Piece by piece, from the least tag on. -/
def rp : Nat → Nat → List UInt8 → Nat → Option Nat
  | 0, _, _, _ => none
  | n + 1, t, rest, out => if rest = dig t then some (out ||| 2 ^ t) else if (dig t).length < rest.length ∧ rest.take ((dig t).length + 1) = dig t ++ [44] then rp n (t + 1) (rest.drop ((dig t).length + 1)) (out ||| 2 ^ t) else rp n (t + 1) rest out
theorem join_cons (x : Nat) (l : List Nat) (h : l ≠ []) : joinB (x :: l) = dig x ++ 44 :: joinB l := by
  cases l with
  | nil => exact absurd rfl h
  | cons a r => simp [joinB]
theorem or_below {out t : Nat} (h : out < 2 ^ t) : out ||| 2 ^ t < 2 ^ (t + 1) := Nat.or_lt_two_pow (by rw [Nat.pow_succ]; omega) (by rw [Nat.pow_succ]; have := Nat.two_pow_pos t; omega)
theorem high_bit {out t i : Nat} (h : out < 2 ^ t) (hi : t ≤ i) : out.testBit i = false := Nat.testBit_lt_two_pow (Nat.lt_of_lt_of_le h (Nat.pow_le_pow_right (by omega) hi))
theorem range_cut {t : Nat} (ht : t < 16) : List.range 16 = List.range t ++ t :: List.range' (t + 1) (15 - t) := by
  rw [List.range_eq_range', List.range_eq_range', show t :: List.range' (t + 1) (15 - t) = List.range' t (16 - t) by rw [show 16 - t = (15 - t) + 1 by omega, List.range'_succ]]
  have := @List.range'_append 0 t (16 - t) 1
  rw [show t + (16 - t) = 16 by omega] at this
  simpa using this.symm
theorem tags_or {out t : Nat} (ht : t < 16) (h : out < 2 ^ t) : tags (out ||| 2 ^ t) = tags out ++ [t] := by
  unfold tags
  rw [range_cut ht, List.filter_append, List.filter_append, List.filter_cons, List.filter_cons, if_pos (by rw [bit_add ht]; simp), if_neg (by rw [high_bit h (Nat.le_refl _)]; simp)]
  have e1 : (List.range t).filter (fun i => (out ||| 2 ^ t).testBit i) = (List.range t).filter (fun i => out.testBit i) := List.filter_congr fun i hi => by
    rw [bit_add ht]
    have := List.mem_range.1 hi
    simp; omega
  have e2 : ∀ o, o < 2 ^ (t + 1) → (List.range' (t + 1) (15 - t)).filter (fun i => o.testBit i) = [] := fun o ho => List.filter_eq_nil_iff.2 fun i hi => by
    have := List.mem_range'_1.1 hi
    rw [high_bit ho (by omega)]; simp
  rw [e1, e2 _ (or_below h), e2 out (by rw [Nat.pow_succ]; omega), List.append_nil]
theorem rp_sound : ∀ (n t : Nat) (rest : List UInt8) (out x : Nat), n + t = 16 → out < 2 ^ t → rp n t rest out = some x → ∃ l, l ≠ [] ∧ tags x = tags out ++ l ∧ rest = joinB l ∧ x < 65536
  | 0, t, rest, out, x, hn, ho, h => by simp [rp] at h
  | n + 1, t, rest, out, x, hn, ho, h => by
    have ht : t < 16 := by omega
    have hp : (2 : Nat) ^ (t + 1) ≤ 2 ^ 16 := Nat.pow_le_pow_right (by omega) (by omega)
    have hob := or_below ho
    unfold rp at h
    split at h
    · rename_i e
      cases h
      exact ⟨[t], by simp, tags_or ht ho, by rw [e, join_one], by omega⟩
    · split at h
      · rename_i e1 e2
        obtain ⟨l, h1, h2, h3, h4⟩ := rp_sound n (t + 1) _ _ x (by omega) hob h
        refine ⟨t :: l, by simp, by rw [h2, tags_or ht ho]; simp, ?_, h4⟩
        rw [join_cons t l h1, ← h3]
        have := List.take_append_drop ((dig t).length + 1) rest
        rw [e2.2] at this
        simpa using this.symm
      · obtain ⟨l, h1, h2, h3, h4⟩ := rp_sound n (t + 1) _ _ x (by omega) (by rw [Nat.pow_succ]; omega) h
        exact ⟨l, h1, h2, h3, h4⟩
theorem dig_inj : ∀ x y : Fin 16, dig x.1 = dig y.1 → x = y := by decide
theorem dig_eq {x y : Nat} (hx : x < 16) (hy : y < 16) (h : dig x = dig y) : x = y := by
  have := dig_inj ⟨x, hx⟩ ⟨y, hy⟩ h
  simpa using this
theorem first_eq {a b : List UInt8} {u v : List UInt8} (ha : ∀ c ∈ a, c ≠ 44) (hb : ∀ c ∈ b, c ≠ 44) (h : a ++ 44 :: u = b ++ 44 :: v) : a = b := by
  have h1 := index_at a u ha
  have h2 := index_at b v hb
  rw [h, h2] at h1
  exact (List.append_inj h (by omega)).1
theorem rp_whole : ∀ (n t : Nat) (l : List Nat) (out : Nat), n + t = 16 → l ≠ [] → (∀ y ∈ l, t ≤ y ∧ y < 16) → l.Pairwise (· < ·) → rp n t (joinB l) out = some (l.foldl (fun o t => o ||| 2 ^ t) out)
  | 0, t, [], out, hn, hl, h, hs => absurd rfl hl
  | 0, t, y :: r, out, hn, hl, h, hs => by have := h y (by simp); omega
  | n + 1, t, [], out, hn, hl, h, hs => absurd rfl hl
  | n + 1, t, y :: r, out, hn, hl, h, hs => by
    have hy := h y (by simp)
    have ht : t < 16 := by omega
    have hno : ∀ c ∈ dig t, c ≠ 44 := dig_no t ht
    have hyo : ∀ c ∈ dig y, c ≠ 44 := dig_no y hy.2
    have hs' := List.pairwise_cons.1 hs
    unfold rp
    by_cases e : y = t
    · subst e
      by_cases hr : r = []
      · subst hr
        rw [if_pos (by rw [join_one])]; rfl
      · rw [join_cons y r hr]
        have hl0 := join_pos hr
        rw [if_neg (by intro e; have := congrArg List.length e; rw [List.length_append, List.length_cons] at this; omega), if_pos ⟨by rw [List.length_append, List.length_cons]; omega, by rw [show dig y ++ 44 :: joinB r = (dig y ++ [44]) ++ joinB r by simp, List.take_append_of_le_length (by simp)]; exact List.take_of_length_le (by simp)⟩]
        rw [show (dig y ++ 44 :: joinB r).drop ((dig y).length + 1) = joinB r by simp [List.drop_append]]
        rw [rp_whole n (y + 1) r (out ||| 2 ^ y) (by omega) hr (fun z hz => ⟨hs'.1 z hz, (h z (by simp [hz])).2⟩) hs'.2]
        rfl
    · have hty : t + 1 ≤ y := by omega
      have hrest : ¬ joinB (y :: r) = dig t := by
        intro e2
        by_cases hr : r = []
        · subst hr
          rw [join_one] at e2
          exact e (dig_eq hy.2 ht e2)
        · rw [join_cons y r hr] at e2
          exact hno 44 (by rw [← e2]; simp) rfl
      have hcut : ¬ ((dig t).length < (joinB (y :: r)).length ∧ (joinB (y :: r)).take ((dig t).length + 1) = dig t ++ [44]) := by
        rintro ⟨_, e2⟩
        have e3 : joinB (y :: r) = dig t ++ 44 :: (joinB (y :: r)).drop ((dig t).length + 1) := by
          have := List.take_append_drop ((dig t).length + 1) (joinB (y :: r))
          rw [e2] at this
          simpa using this.symm
        generalize (joinB (y :: r)).drop ((dig t).length + 1) = v at e3
        by_cases hr : r = []
        · subst hr
          rw [join_one] at e3
          exact hyo 44 (by rw [e3]; simp) rfl
        · rw [join_cons y r hr] at e3
          exact e (dig_eq hy.2 ht (first_eq hyo hno e3))
      rw [if_neg hrest, if_neg hcut]
      exact rp_whole n (t + 1) (y :: r) out (by omega) hl (fun z hz => by
        rcases List.mem_cons.1 hz with rfl | hz
        · exact ⟨hty, hy.2⟩
        · exact ⟨by have := hs'.1 z hz; omega, (h z (by simp [hz])).2⟩) hs
def rparse (s : List UInt8) : Option Nat := if s = [45] then some 0 else rp 16 0 s 0
theorem foldP_lt : ∀ (l : List ByteArray) (o x : Nat), o < 65536 → foldP l o = some x → x < 65536
  | [], o, x, ho, h => by simp [foldP] at h; omega
  | p :: r, o, x, ho, h => by
    unfold foldP at h
    split at h
    · exact foldP_lt r _ x (Nat.or_lt_two_pow (n := 16) ho (of_lt _)) h
    · cases h
theorem parse_is (s : ByteArray) : parse s = (match rparse s.data.toList with | some x => ((x : Nat), (0 : Int)) | none => (0, 3)) := by
  by_cases h : s = ⟨#[45]⟩
  · subst h
    unfold parse rparse
    rw [if_pos rfl, if_pos rfl]
  · have hl : ¬ s.data.toList = [45] := fun e => h (bytes_ext e)
    unfold rparse
    rw [if_neg hl]
    cases hr : rp 16 0 s.data.toList 0 with
    | some x =>
      obtain ⟨l, h1, h2, h3, h4⟩ := rp_sound 16 0 _ 0 x rfl (by decide) hr
      rw [tags_zero, List.nil_append] at h2
      have hx0 : x ≠ 0 := fun e => by subst e; rw [tags_zero] at h2; exact h1 h2.symm
      have ht : text x = s.data.toList := by unfold text; rw [if_neg hx0, h2, h3]
      have := parse_text x h4
      rw [show (⟨(text x).toArray⟩ : ByteArray) = s from bytes_ext (by simp [ht])] at this
      exact this
    | none =>
      unfold parse
      rw [if_neg h]
      cases hf : foldP (pieces s) 0 with
      | none => rfl
      | some o =>
        have ho := foldP_lt _ 0 o (by decide) hf
        have : ¬ text o = s.data.toList := by
          intro e
          by_cases h0 : o = 0
          · subst h0; exact hl e.symm
          · have hne := tags_ne h0 ho
            have hw := rp_whole 16 0 (tags o) 0 rfl hne (fun y hy => ⟨Nat.zero_le _, (tags_lt o y hy).1⟩) (tags_sorted o)
            rw [show joinB (tags o) = s.data.toList by rw [← e]; unfold text; rw [if_neg h0], hr] at hw
            cases hw
        simp [this]
end Tag
theorem bytes_of (B : ByteArray) : (⟨B.data.toList.toArray⟩ : ByteArray) = B := Tag.bytes_ext (by simp)
set_option maxRecDepth 100000 in
set_option maxHeartbeats 4000000 in
theorem rparse_ok (s : ByteArray) (hs : s.size ≤ 1000) (w : World) :
    Calls Tryz.prog 125 #[.string s] w fun e w' => e = .returned (match Tag.rparse s.data.toList with | some x => .tuple #[.int .u16 (x : Int), .bool true] | none => .tuple #[.int .u16 0, .bool false]) ∧ w' = w := by
  by_cases h0 : s = ⟨#[45]⟩
  · subst h0
    have : Tag.rparse [45] = some 0 := rfl
    rw [show (⟨#[45]⟩ : ByteArray).data.toList = [45] from rfl, this]
    go_enter Tryz.func125, Tryz.ntmps125
    go_wp2_with fail
    go_ret2
    exact ⟨rfl, rfl⟩
  · have hl : ¬ s.data.toList = [45] := fun e => h0 (Tag.bytes_ext e)
    have hb0 : (s.toList == ([45] : List UInt8)) = false := by rw [ByteArray.toList_eq, beq_eq_false_iff_ne]; exact hl
    obtain ⟨res, hres⟩ : ∃ res, res = Tag.rparse s.data.toList := ⟨_, rfl⟩
    have hrp : Tag.rp 16 0 s.data.toList 0 = res := by rw [hres]; unfold Tag.rparse; rw [if_neg hl]
    rw [← hres]
    have HRP := Lib.hid hrp
    clear hrp hres hl h0
    go_enter Tryz.func125, Tryz.ntmps125
    go_wp2_with fail
    go_loopw [4, 5, 6] (fun o r i wr => ∃ (k out : Nat) (R : ByteArray), i = .int .i64 (k : Int) ∧ o = .int .u16 (out : Int) ∧ r = .string R ∧ k ≤ 16 ∧ out < 65536 ∧ R.size ≤ 1000 ∧ Hid (Tag.rp (16 - k) k R.data.toList out = res) ∧ wr = w) (fun o r i _ => 16 - (intOf i).toNat)
    case atStart => exact ⟨0, 0, s, rfl, rfl, rfl, by omega, by omega, hs, HRP, rfl⟩
    case round =>
      obtain ⟨k, out, R, rfl, rfl, rfl, hk, ho, hR, hp, rfl⟩ := hrel
      by_cases hk16 : k = 16
      · subst hk16
        have : res = none := hp.out.symm
        subst this
        go_wp2_with fail
        go_ret2
        exact ⟨rfl, rfl⟩
      · have hkl : k < 16 := by omega
        have hki : (k : Int) < 16 := by omega
        have e := hp.out
        rw [show 16 - k = (15 - k) + 1 by omega] at e
        unfold Tag.rp at e
        rw [show 15 - k = 16 - (k + 1) by omega] at e
        have HX := Lib.hid (fun w => number_ok k hkl w)
        have hadd : Tag.add out (k : Int) = out ||| 2 ^ k := by unfold Tag.add; rw [if_pos (by omega), Int.toNat_natCast]
        have hal := Tag.add_lt ho (k : Int)
        have HW := Lib.hid (fun w => rwith_ok out ho (k : Int) w)
        rw [hadd] at HW hal
        have hdl := Tag.dig_len k
        obtain ⟨D, hD⟩ : ∃ D : ByteArray, D = ⟨(Tag.dig k).toArray⟩ := ⟨_, rfl⟩
        have hDd : D.data.toList = Tag.dig k := by rw [hD]
        have hDs : D.size = (Tag.dig k).length := by rw [hD]; simp [ByteArray.size]
        rw [← hD] at HX
        rw [← hDd] at e
        rw [← hDs] at hdl
        have hRs : R.data.toList.length = R.size := by rw [Array.length_toList]; rfl
        have hDs2 : D.data.toList.length = D.size := by rw [Array.length_toList]; rfl
        rw [hRs, hDs2] at e
        generalize out ||| 2 ^ k = out' at e HW hal
        clear hk16 hp hadd hD hDd hDs
        by_cases c1 : R.data.toList = D.data.toList
        · rw [if_pos c1] at e
          have cb : (R.toList == D.toList) = true := (Lib.bytes_beq_iff _ _).2 (Tag.bytes_ext c1)
          subst e
          clear c1 hRs hDs2
          go_wp2_with (first
            | (go_at_call 176; refine (HX.out _).mono ?_; rintro e w2 ⟨rfl, hw2⟩; obtain rfl := hw2.symm)
            | (go_at_call 103; refine (HW.out _).mono ?_; rintro e w2 ⟨rfl, hw2⟩; obtain rfl := hw2.symm))
          go_ret2
          exact ⟨rfl, rfl⟩
        · rw [if_neg c1] at e
          have cb : (R.toList == D.toList) = false := (Lib.bytes_beq_false_iff _ _).2 (fun h : R = D => c1 (by rw [h]))
          have hcat : ¬ 9223372036854775807 < D.size + 1 := by omega
          by_cases c2 : D.size < R.size
          · have c2i : (D.size : Int) < (R.size : Int) := by omega
            have hle : (D.size : Int) + 1 ≤ (R.size : Int) := by omega
            have hle0 : (0 : Int) ≤ (D.size : Int) + 1 := by omega
            have htk : (R.extract 0 (D.size + 1)).data.toList = R.data.toList.take (D.size + 1) := by simp [ByteArray.data_extract]
            have hcd : (D ++ (⟨#[44]⟩ : ByteArray)).data.toList = D.data.toList ++ [44] := by simp [ByteArray.data_append]
            have hdr : (R.extract (D.size + 1) R.size).data.toList = R.data.toList.drop (D.size + 1) := by simp [ByteArray.data_extract]; rw [List.take_of_length_le (by simp)]
            have hds : (R.extract (D.size + 1) R.size).size ≤ 1000 := by rw [ByteArray.size_extract]; omega
            by_cases c3 : R.data.toList.take (D.size + 1) = D.data.toList ++ [44]
            · rw [if_pos ⟨c2, c3⟩, ← hdr] at e
              have c3b : ((R.extract 0 (D.size + 1)).toList == (D ++ (⟨#[44]⟩ : ByteArray)).toList) = true := by
                rw [← htk, ← hcd] at c3
                exact (Lib.bytes_beq_iff _ _).2 (Tag.bytes_ext c3)
              have HE := Lib.hid e
              clear e c1 c3 htk hcd hdr hRs hDs2
              go_wp2_with (first
                | (go_at_call 176; refine (HX.out _).mono ?_; rintro e w2 ⟨rfl, hw2⟩; obtain rfl := hw2.symm)
                | (go_at_call 103; refine (HW.out _).mono ?_; rintro e w2 ⟨rfl, hw2⟩; obtain rfl := hw2.symm))
              go_roundw
              case rel => exact ⟨k + 1, out', _, congrArg (Value.int IntKind.i64) (show (k : Int) + 1 = ((k + 1 : Nat) : Int) by omega), rfl, rfl, by omega, hal, hds, HE, trivial⟩
              case measure => show 16 - ((k : Int) + 1).toNat < 16 - (k : Int).toNat; omega
            · rw [if_neg (fun h => c3 h.2)] at e
              have c3b : ((R.extract 0 (D.size + 1)).toList == (D ++ (⟨#[44]⟩ : ByteArray)).toList) = false := by
                rw [← htk, ← hcd] at c3
                exact (Lib.bytes_beq_false_iff _ _).2 (fun h => c3 (by rw [h]))
              have HE := Lib.hid e
              clear e c1 c3 htk hcd hdr hRs hDs2
              go_wp2_with (go_at_call 176; refine (HX.out _).mono ?_; rintro e w2 ⟨rfl, hw2⟩; obtain rfl := hw2.symm)
              go_roundw
              case rel => exact ⟨k + 1, out, R, by go_num, rfl, rfl, by omega, ho, hR, HE, trivial⟩
              case measure => simp [intOf]; omega
          · rw [if_neg (fun h => c2 h.1)] at e
            have c2i : ¬ (D.size : Int) < (R.size : Int) := by omega
            have HE := Lib.hid e
            clear e c1 hRs hDs2
            go_wp2_with (go_at_call 176; refine (HX.out _).mono ?_; rintro e w2 ⟨rfl, hw2⟩; obtain rfl := hw2.symm)
            go_roundw
            case rel => exact ⟨k + 1, out, R, by go_num, rfl, rfl, by omega, ho, hR, HE, trivial⟩
            case measure => simp [intOf]; omega
end Go.Proofs.YtlmacaenbililaaGreatDoor
