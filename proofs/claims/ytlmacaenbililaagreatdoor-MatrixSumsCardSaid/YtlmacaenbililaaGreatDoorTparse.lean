/- Package tagset: Parse: what it returns. No conditions. -/
import Derived.Test.YtlmacaenbililaaGreatDoorTtext
import Derived.Test.YtlmacaenbililaaGreatDoorTfun
namespace Go.Proofs.YtlmacaenbililaaGreatDoor
open Go.RowKit Go.Shelf
set_option linter.unusedSimpArgs false
set_option linter.unusedVariables false

namespace Tag
def comma : ByteArray := ⟨#[44]⟩
def pieces (s : ByteArray) : List ByteArray := Lib.splitB comma 0 (Lib.countB s comma) s
def foldP : List ByteArray → Nat → Option Nat
  | [], out => some out
  | p :: r, out => match Lib.atoiAll p.data.toList with
    | .ok v => foldP r (out ||| of [v])
    | _ => none
def parse (s : ByteArray) : Nat × Int := if s = ⟨#[45]⟩ then (0, 0) else match foldP (pieces s) 0 with
  | none => (0, 3)
  | some o => if text o = s.data.toList then (o, 0) else (0, 3)
theorem splitB_size (sep : ByteArray) : ∀ (k : Nat) (s : ByteArray), ∀ p ∈ Lib.splitB sep 0 k s, p.size ≤ s.size
  | 0, s, p, hp => by
    rw [Lib.splitB_zero, List.mem_singleton] at hp
    rw [hp]; exact Nat.le_refl _
  | k + 1, s, p, hp => by
    unfold Lib.splitB at hp
    split at hp
    · rw [List.mem_singleton] at hp
      rw [hp]; exact Nat.le_refl _
    · rcases List.mem_cons.1 hp with rfl | hp
      · rw [ByteArray.size_extract]; omega
      · have := splitB_size sep k _ p hp
        rw [ByteArray.size_extract] at this
        omega
theorem pieces_len (s : ByteArray) : (pieces s).length = Lib.countB s comma + 1 := Lib.splitB_all comma (by decide) 0 _ s rfl
end Tag
/-- What start-up has laid. -/
structure LaidAt (w : World) : Prop where
  tab : TabAt w
  pow : PowAt w
  max : ∃ m, w.cell? ⟨3, 0, none⟩ = some (.int .i64 m)
  syn : ∃ te pe, w.cell? ⟨1, 0, none⟩ = some (.iface te pe)
  rng : ∃ te pe, w.cell? ⟨2, 0, none⟩ = some (.iface te pe)
theorem one_at (w : World) (v : Int) (t : TypeId) (i : Nat) (hi : i < [v].length) : (w.alloc (.cells #[.int .i64 v] t)).cell? ⟨w.heap.size, 0 + i, none⟩ = some (.int .i64 [v][i]) := by
  have hi0 : i = 0 := by simp at hi; omega
  subst hi0
  rw [cell_of_row _ _ _ _ _ _ (heap_alloc_new w _)]; rfl
theorem cell_on {w W : World} {b o : Nat} {v : Value} (h : w.cell? ⟨b, o, none⟩ = some v) (hb : Below w.heap.size w W) : W.cell? ⟨b, o, none⟩ = some v := (hb.cell (p := ⟨b, o, none⟩) (World.block_lt_of_cell? w _ h)).trans h
theorem LaidAt.below {w W : World} (h : LaidAt w) (hb : Below w.heap.size w W) : LaidAt W := by
  obtain ⟨h1, h2, ⟨m, h3⟩, ⟨a, b, h4⟩, ⟨c, d, h5⟩⟩ := h
  exact ⟨h1.below hb, h2.below hb, ⟨m, cell_on h3 hb⟩, ⟨a, b, cell_on h4 hb⟩, ⟨c, d, cell_on h5 hb⟩⟩
/-- Atoi: how it ends. -/
theorem atoi_ok (p : ByteArray) (hp : p.size ≤ 1000) (v : Int) (h : Lib.atoiAll p.data.toList = .ok v) (w : World) : Calls Tryz.prog 78 #[.string p] w fun e w' => e = .returned (.tuple #[.int .i64 v, .nilIface]) ∧ Below w.heap.size w w' :=
  (Tryz.strconv_Atoi_ok p (by omega) v h w).mono fun e w' ⟨he, hw⟩ => ⟨he, by
    rcases hw with rfl | ⟨t, rfl⟩
    · exact Below.refl _ _
    · exact Lib.bytesWorld_below _ _ _⟩
theorem atoi_bad (p : ByteArray) (hp : p.size ≤ 1000) (h : ∀ v, Lib.atoiAll p.data.toList ≠ .ok v) (w : World) (hL : LaidAt w) : Calls Tryz.prog 78 #[.string p] w fun e w' => ∃ v t N, e = .returned (.tuple #[.int .i64 v, .iface t (.pointer (some ⟨N, 0, none⟩))]) ∧ Below w.heap.size w w' := by
  cases e : Lib.atoiAll p.data.toList with
  | ok v => exact absurd e (h v)
  | range =>
    obtain ⟨te, pe, hc⟩ := hL.rng
    exact (Tryz.strconv_Atoi_range p (by omega) e _ w hc (.inr ⟨te, pe, rfl⟩)).mono fun x w' ⟨N, he, _, _, hb⟩ => ⟨_, _, N, he, hb⟩
  | _ =>
    obtain ⟨te, pe, hc⟩ := hL.syn
    exact (Tryz.strconv_Atoi_syntax p (by omega) e _ w hc (.inr ⟨te, pe, rfl⟩)).mono fun x w' ⟨N, he, _, _, hb⟩ => ⟨_, _, N, he, hb⟩
set_option maxRecDepth 100000 in
set_option maxHeartbeats 2000000 in
theorem parse_ok (s : ByteArray) (hs : s.size ≤ 1000) (w : World) (hL : LaidAt w) :
    Calls Tryz.prog 124 #[.string s] w fun e w' => e = .returned (.tuple #[.int .u16 ((Tag.parse s).1 : Int), .int .i64 (Tag.parse s).2]) ∧ Below w.heap.size w w' := by
  have HL := Lib.hid hL
  clear hL
  by_cases hd : s = ⟨#[45]⟩
  · have e : Tag.parse s = (0, 0) := if_pos hd
    rw [e]
    subst hd
    clear e
    go_enter Tryz.func124, Tryz.ntmps124
    go_wp2_with fail
    go_ret2
    exact ⟨rfl, Below.refl _ _⟩
  · have e : Tag.parse s = (match Tag.foldP (Tag.pieces s) 0 with | none => (0, 3) | some o => if Tag.text o = s.data.toList then (o, 0) else (0, 3)) := if_neg hd
    obtain ⟨m, hm⟩ := HL.out.max
    have hdb : (s.toList == ([45] : List UInt8)) = false := by
      rw [beq_eq_false_iff_ne, ByteArray.toList_eq]
      exact fun h => hd (ByteArray.ext (Array.toList_inj.1 h))
    have HE := Lib.hid e
    obtain ⟨ps, hps⟩ : ∃ ps, ps = Tag.pieces s := ⟨_, rfl⟩
    have hn : Lib.countB s Tag.comma + 1 = ps.length := by rw [hps, Tag.pieces_len]
    obtain ⟨n, hnn⟩ : ∃ n, n = Lib.countB s Tag.comma := ⟨_, rfl⟩
    have hsp := Tryz.strings_Split s Tag.comma m w (by omega) hm (by decide)
    rw [show Lib.splitB Tag.comma 0 (Lib.countB s Tag.comma) s = Tag.pieces s from rfl, ← hps, hn] at hsp
    have HSP := Lib.hid hsp
    have HPS := Lib.hid hps
    have hpl : ps.length ≤ 4611686018427387904 := by
      have := Lib.countB_le Tag.comma (by decide) s.size s (Nat.le_refl _)
      omega
    clear e hsp hnn hn hps hm hd
    go_enter Tryz.func124, Tryz.ntmps124
    go_wp2_with (go_at_call 75; refine HSP.out.mono ?_; rintro e w1 ⟨rfl, rfl⟩)
    obtain ⟨w1, hw1⟩ : ∃ w1, w1 = w.alloc (.cells (ps.map Value.string).toArray 9) := ⟨_, rfl⟩
    obtain ⟨b1, hb1⟩ : ∃ b1, b1 = w.heap.size := ⟨_, rfl⟩
    have HB1 : Hid (Below w.heap.size w w1) := Lib.hid (by rw [hw1]; exact below_new (Below.refl _ _) _)
    have HC1 : Hid (∀ k (h : k < ps.length), w1.cell? ⟨b1, k, none⟩ = some (.string ps[k])) := Lib.hid (fun k h => by
      rw [hw1, hb1, cell_of_row _ _ k _ _ _ (heap_alloc_new w _)]
      simp [h])
    rw [← hw1, ← hb1]
    have HSZ : Hid (∀ p ∈ ps, p.size ≤ 1000) := Lib.hid (fun p hp => by rw [HPS.out] at hp; exact Nat.le_trans (Tag.splitB_size _ _ _ p hp) hs)
    clear hw1 hb1 HSP
    go_loopw [4, 14] (fun o i wr => ∃ (k : Nat) (out : Nat), i = .int .i64 (k : Int) ∧ o = .int .u16 (out : Int) ∧ k ≤ ps.length ∧ out < 65536 ∧ Hid (Tag.foldP (ps.drop k) out = Tag.foldP ps 0) ∧ Hid (Below w1.heap.size w1 wr)) (fun o i _ => ps.length - (intOf i).toNat)
    case atStart => exact ⟨0, 0, rfl, rfl, by omega, by omega, Lib.hid rfl, Lib.hid (Below.refl _ _)⟩
    case round =>
      obtain ⟨k, out, rfl, rfl, hk, ho, hf, HB⟩ := hrel
      have HLr : Hid (LaidAt wr) := Lib.hid (HL.out.below (below_here HB1.out HB.out))
      by_cases hkl : k = ps.length
      · subst hkl
        have hfe : Tag.foldP ps 0 = some out := by have := hf.out; rw [List.drop_length] at this; exact this.symm
        have HTX := Lib.hid (text_ok out ho wr HLr.out.tab HLr.out.pow)
        have hpe : Tag.parse s = if Tag.text out = s.data.toList then (out, 0) else (0, 3) := by rw [HE.out, ← HPS.out, hfe]
        obtain ⟨tx, htx⟩ : ∃ tx : ByteArray, tx = ⟨(Tag.text out).toArray⟩ := ⟨_, rfl⟩
        rw [← htx] at HTX
        have htl : tx.toList = Tag.text out := by rw [ByteArray.toList_eq, htx]
        by_cases hT : Tag.text out = s.data.toList
        · rw [if_pos hT] at hpe
          have HPE := Lib.hid hpe
          have hcmp : (tx.toList == s.toList) = true := by rw [htl, hT, ByteArray.toList_eq]; simp
          clear hT hpe htl htx hfe
          go_wp2_with (go_at_call 126; refine HTX.out.mono ?_; rintro e w2 ⟨rfl, hb2⟩)
          go_ret2
          refine ⟨by rw [HPE.out]; rfl, below_here (below_here HB1.out HB.out) hb2⟩
        · rw [if_neg hT] at hpe
          have HPE := Lib.hid hpe
          have hcmp : (tx.toList == s.toList) = false := by rw [htl, ByteArray.toList_eq, beq_eq_false_iff_ne]; exact hT
          clear hT hpe htl htx hfe
          go_wp2_with (go_at_call 126; refine HTX.out.mono ?_; rintro e w2 ⟨rfl, hb2⟩)
          go_ret2
          refine ⟨by rw [HPE.out]; rfl, below_here (below_here HB1.out HB.out) hb2⟩
      · have hkn : k < ps.length := by omega
        have hki : (k : Int) < (ps.length : Int) := by omega
        have hc := (HB.out.cell (p := ⟨b1, k, none⟩) (World.block_lt_of_cell? w1 _ (HC1.out k hkn))).trans (HC1.out k hkn)
        have hfn := hf.out
        rw [List.drop_eq_getElem_cons hkn] at hfn
        have hsz := HSZ.out _ (List.getElem_mem hkn)
        obtain ⟨p, hp⟩ : ∃ p, p = ps[k] := ⟨_, rfl⟩
        rw [← hp] at hc hfn hsz
        clear hp hkl
        by_cases hv : ∃ v, Lib.atoiAll p.data.toList = .ok v
        · obtain ⟨v, hv⟩ := hv
          have hstep : Tag.foldP (ps.drop (k + 1)) (out ||| Tag.of [v]) = Tag.foldP ps 0 := by
            rw [← hfn]
            show _ = (match Lib.atoiAll p.data.toList with | .ok v => Tag.foldP (ps.drop (k + 1)) (out ||| Tag.of [v]) | _ => none)
            rw [hv]
          have HST := Lib.hid hstep
          have HAT := Lib.hid (fun w => atoi_ok p hsz v hv w)
          have hor := u16_or out (Tag.of [v]) ho (Tag.of_lt _)
          obtain ⟨out', ho'⟩ : ∃ o', o' = out ||| Tag.of [v] := ⟨_, rfl⟩
          have hol : out' < 65536 := by rw [ho']; exact Nat.or_lt_two_pow (n := 16) ho (Tag.of_lt _)
          rw [← ho'] at hor HST
          obtain ⟨z, hz⟩ : ∃ z, z = Tag.of [v] := ⟨_, rfl⟩
          have hofz : ∀ (A : Option Addr) (c : Nat) (w : World), IntsAt w A [v] → Calls Tryz.prog 106 #[.slice A 1 c] w fun e w' => e = .returned (.int .u16 (z : Int)) ∧ w' = w := fun A c w h => by rw [hz]; exact of_ok A c [v] (by simp) w h
          rw [← hz] at hor
          have HOF := Lib.hid hofz
          have HF1 := Lib.hid hfn
          clear hstep hv hfn ho' hz hofz
          go_wp2_with (first
            | (go_at_call 78; refine (HAT.out _).mono ?_; rintro e w3 ⟨rfl, hb3⟩)
            | (go_at_call 106; refine (HOF.out _ _ _ (.inr ⟨w3.heap.size, 0, rfl, one_at w3 v _⟩)).mono ?_; rintro e w4 ⟨rfl, rfl⟩))
          go_roundw
          case rel => exact ⟨k + 1, out', by go_num, rfl, by omega, hol, HST, Lib.hid (below_new (below_here HB.out hb3) _)⟩
          case measure => simp [intOf]; omega
        · have hnv : ∀ v, Lib.atoiAll p.data.toList ≠ .ok v := fun v h => hv ⟨v, h⟩
          have hfe : Tag.foldP ps 0 = none := by
            rw [← hfn]
            show (match Lib.atoiAll p.data.toList with | .ok v => Tag.foldP (ps.drop (k + 1)) (out ||| Tag.of [v]) | _ => none) = none
            cases e : Lib.atoiAll p.data.toList with
            | ok v => exact absurd e (hnv v)
            | range => rfl
            | _ => rfl
          have hpe : Tag.parse s = (0, 3) := by rw [HE.out, ← HPS.out, hfe]
          have HPE := Lib.hid hpe
          have HAT := Lib.hid (fun w => atoi_bad p hsz hnv w)
          clear hpe hfe hnv hv hfn
          go_wp2_with (go_at_call 78; refine (HAT.out _ HLr.out).mono ?_; rintro e w3 ⟨v, t, N, rfl, hb3⟩)
          go_ret2
          refine ⟨by rw [HPE.out]; rfl, below_here (below_here HB1.out HB.out) hb3⟩
end Go.Proofs.YtlmacaenbililaaGreatDoor
