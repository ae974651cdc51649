/- Package trace: Same (slices.Equal at entries): what it returns. Package trace: Crossed: what it returns. Entries copied one by one (law37.entries). The reference's Crosses and Same at entries of a trace: what they return. The reference's Seen: what it returns. Entries that are seen: plain laws; the two lines of alive. Package trace: Seen (a range over a closure): what it returns. Entries, events, and rows of them, that came in, opened. No conditions. -/
import Derived.Test.YtdjndnoiankicaaGreatDoorJa
import Derived.Test.YtdjndnoiankicaaGreatDoorKind
import Derived.Test.YtdjndnoiankicaaGreatDoorLrefb
import Derived.Test.YtdjndnoiankicaaGreatDoorTtext
import Derived.Test.YtdjndnoiankicaaGreatDoorLopen
namespace Go.Proofs.YtdjndnoiankicaaGreatDoor
theorem own_base {w : World} {B B' n : Nat} {e : TypeId} {s : Nat} {v : Value} {xs : List Value} (h : w.ownsRow B e s v n xs) (hb : B' ≤ B) : w.ownsRow B' e s v n xs := by
  refine ⟨h.1, ?_⟩
  rcases h.2 with h | ⟨g, cap, cur, h1, h2, h3⟩
  · exact .inl h
  · exact .inr ⟨g, cap, cur, h1, by omega, h3⟩
end Go.Proofs.YtdjndnoiankicaaGreatDoor
namespace Go.Proofs.YtdjndnoiankicaaGreatDoor
open Go.RowKit Go.Shelf
set_option linter.unusedSimpArgs false
set_option linter.unusedVariables false
attribute [local go_sem] cell_over frozen_over

def Ent9 (w : World) (b o : Nat) (e : Tr.E) : Prop := w.cell? ⟨b, o, none⟩ = some (.int .i64 e.1) ∧ w.cell? ⟨b, o + 1, none⟩ = some (.int .u16 (e.2.1.1.1 : Int)) ∧ w.cell? ⟨b, o + 2, none⟩ = some (.int .u16 (e.2.1.1.2 : Int)) ∧ w.cell? ⟨b, o + 3, none⟩ = some (.int .i64 e.2.1.2.1) ∧ w.cell? ⟨b, o + 4, none⟩ = some (.int .i64 e.2.1.2.2) ∧ w.cell? ⟨b, o + 5, none⟩ = some (.int .u16 (e.2.2.1.1 : Int)) ∧ w.cell? ⟨b, o + 6, none⟩ = some (.int .u16 (e.2.2.1.2 : Int)) ∧ w.cell? ⟨b, o + 7, none⟩ = some (.int .i64 e.2.2.2.1) ∧ w.cell? ⟨b, o + 8, none⟩ = some (.string e.2.2.2.2)
theorem Ent9.below {w W : World} {b o : Nat} {e : Tr.E} (h : Ent9 w b o e) (hb : Below w.heap.size w W) : Ent9 W b o e := by
  obtain ⟨h0, h1, h2, h3, h4, h5, h6, h7, h8⟩ := h
  exact ⟨cell_on h0 hb, cell_on h1 hb, cell_on h2 hb, cell_on h3 hb, cell_on h4 hb, cell_on h5 hb, cell_on h6 hb, cell_on h7 hb, cell_on h8 hb⟩
def EntsAt (w : World) (A : Option Addr) (l : List Tr.E) : Prop := l = [] ∨ ∃ b off, A = some ⟨b, off, none⟩ ∧ ∀ i (h : i < l.length), Ent9 w b (off + i * 9) l[i]
theorem EntsAt.below {w W : World} {A : Option Addr} {l : List Tr.E} (h : EntsAt w A l) (hb : Below w.heap.size w W) : EntsAt W A l := by
  rcases h with h | ⟨b, off, h1, h2⟩
  · exact .inl h
  · exact .inr ⟨b, off, h1, fun i hi => (h2 i hi).below hb⟩
theorem neqE_run {a : Act} {o : Oper} {X Y : Operand} (x y : Tr.E) (ho : o.op = .binOp .neq 33 X Y 33) (hx : a.eval X = trV x) (hy : a.eval Y = trV y) (W : World) : (execOp a.eval o).run Tryz.prog W = .ok (.value (.bool (!decide (x = y)))) W := by
  obtain ⟨at1, ⟨⟨a1, a2⟩, k1, n1⟩, ⟨l1, l2⟩, e1, d1⟩ := x
  obtain ⟨at2, ⟨⟨b1, b2⟩, k2, n2⟩, ⟨m1, m2⟩, e2, d2⟩ := y
  unfold execOp
  simp only [ho, hx, hy]
  by_cases h0 : at1 = at2
  · subst h0
    by_cases h1 : (a1 : Int) = (b1 : Int)
    · obtain rfl : a1 = b1 := by omega
      by_cases h2 : (a2 : Int) = (b2 : Int)
      · obtain rfl : a2 = b2 := by omega
        by_cases h3 : k1 = k2
        · subst h3
          by_cases h4 : n1 = n2
          · subst h4
            by_cases h5 : (l1 : Int) = (m1 : Int)
            · obtain rfl : l1 = m1 := by omega
              by_cases h6 : (l2 : Int) = (m2 : Int)
              · obtain rfl : l2 = m2 := by omega
                by_cases h7 : e1 = e2
                · subst h7
                  by_cases h8 : d1 = d2
                  · subst h8; go_simp
                  · have h9 : (d1.toList == d2.toList) = false := (Lib.bytes_beq_false_iff _ _).2 h8
                    go_simp
                · go_simp
              · have h6' : ¬ l2 = m2 := by omega
                go_simp
            · have h5' : ¬ l1 = m1 := by omega
              go_simp
          · go_simp
        · go_simp
      · have h2' : ¬ a2 = b2 := by omega
        go_simp
    · have h1' : ¬ a1 = b1 := by omega
      go_simp
  · go_simp
set_option maxRecDepth 100000 in
set_option maxHeartbeats 2000000 in
theorem sliceequal_ok (A B : Option Addr) (ca cb : Nat) (l m : List Tr.E) (hl : l.length ≤ 1000000000) (hm : m.length ≤ 1000000000) (w : World) (hA : EntsAt w A l) (hB : EntsAt w B m) :
    Calls Tryz.prog 165 #[.slice A l.length ca, .slice B m.length cb] w fun e w' => e = .returned (.bool (decide (l = m))) ∧ Below w.heap.size w w' := by
  by_cases hlen : l.length = m.length
  · have HA := Lib.hid hA
    have HB := Lib.hid hB
    have HL := Lib.hid hlen
    have hne : ((l.length : Int) != (m.length : Int)) = false := by simp [hlen]
    obtain ⟨n, hn⟩ : ∃ n, n = l.length := ⟨_, rfl⟩
    have hnm : m.length = n := by omega
    rw [hnm, ← hn] at hne ⊢
    have HNL := Lib.hid hn
    have hnn : n ≤ 1000000000 := by omega
    have HNM := Lib.hid hnm
    clear hA hB hlen hl hm hn hnm
    go_enter Tryz.func165, Tryz.ntmps165
    go_wp2_with fail
    go_loopw [13] (fun i wr => ∃ (k : Nat), i = .int .i64 (k : Int) ∧ k ≤ n ∧ Hid (l.take k = m.take k) ∧ Hid (Below w.heap.size w wr)) (fun i _ => n - (intOf i).toNat)
    case atStart => exact ⟨0, rfl, Nat.zero_le _, Lib.hid rfl, Lib.hid (Below.refl _ _)⟩
    case round =>
      obtain ⟨k, rfl, hk, hT, hW⟩ := hrel
      by_cases hkn : k = n
      · subst hkn
        have hd : decide (l = m) = true := by
          have h := hT.out
          rw [List.take_of_length_le (Nat.le_of_eq HNL.out.symm), List.take_of_length_le (Nat.le_of_eq HNM.out)] at h
          simpa using h
        have HD := Lib.hid hd
        clear hd
        go_wp2_with fail
        go_ret
        exact ⟨by rw [HD.out]; rfl, hW.out⟩
      · have hlt : k < n := by omega
        have hki : (k : Int) < (n : Int) := by omega
        have hkl : k < l.length := by rw [← HNL.out]; exact hlt
        have hkm : k < m.length := by rw [HNM.out]; exact hlt
        obtain ⟨b, off, rfl, e0⟩ : ∃ b off, A = some ⟨b, off, none⟩ ∧ Ent9 wr b (off + k * 9) l[k] := by
          rcases HA.out.below hW.out with h | ⟨b, off, h1, h2⟩
          · rw [h] at hkl; simp at hkl
          · exact ⟨b, off, h1, h2 k hkl⟩
        obtain ⟨b', off', rfl, f0⟩ : ∃ b off, B = some ⟨b, off, none⟩ ∧ Ent9 wr b (off + k * 9) m[k] := by
          rcases HB.out.below hW.out with h | ⟨b, off, h1, h2⟩
          · rw [h] at hkm; simp at hkm
          · exact ⟨b, off, h1, h2 k hkm⟩
        have hnx : l[k] = m[k] → l.take (k + 1) = m.take (k + 1) := fun h => by
          rw [List.take_succ_eq_append_getElem hkl, List.take_succ_eq_append_getElem hkm, hT.out, h]
        have hno : l[k] ≠ m[k] → decide (l = m) = false := fun h => by
          rw [decide_eq_false_iff_not]; intro h1; subst h1; exact h rfl
        have HNX := Lib.hid hnx
        have HNO := Lib.hid hno
        clear hnx hno hkn
        generalize l[k] = x at e0 HNX HNO
        generalize m[k] = y at f0 HNX HNO
        clear hkl hkm
        have HE : Hid (∀ (a : Act) (o : Oper) (X Y : Operand), o.op = .binOp .neq 33 X Y 33 → a.eval X = trV x → a.eval Y = trV y → ∀ W : World, (execOp a.eval o).run Tryz.prog W = .ok (.value (.bool (!decide (x = y)))) W) := Lib.hid (fun a o X Y h1 h2 h3 W => neqE_run x y h1 h2 h3 W)
        have e1 := e0
        obtain ⟨a0, a1, a2, a3, a4, a5, a6, a7, a8⟩ := e1
        have f1 := f0
        obtain ⟨d0, d1, d2, d3, d4, d5, d6, d7, d8⟩ := f1
        have hlb : b < wr.heap.size := World.block_lt_of_cell? wr _ a0
        have hlb' : b' < wr.heap.size := World.block_lt_of_cell? wr _ d0
        clear e0 f0
        go_wp2_with fail
        refine wp_region_over (by kernel_rfl) (by kernel_rfl) ?_
        repeat (first
          | go_big_quiet_step (fail)
          | (go_big_quiet_want; refine quiet_value (.bool (!decide (x = y))) (fun W' _ => HE.out _ _ _ _ rfl rfl rfl W') ?_; simp only [Act.put, List.setIfInBounds_toArray, List.set_cons_succ, List.set_cons_zero]; rename_i K hK; refine hK _ ?_; clear hK K))
        refine wpQuiet_nil ?_
        intro W7 hW7
        have HB7 := Lib.hid (below_here hW.out (below_of_over hW7))
        clear hW7 HE
        by_cases hxy : x = y
        · have hb : decide (x = y) = true := by simpa using hxy
          have HN := Lib.hid (HNX.out hxy)
          clear hxy
          rw [hb]
          go_wp2_with fail
          go_roundw
          case rel => exact ⟨k + 1, by go_num, by omega, HN, HB7⟩
          case measure => simp [intOf]; omega
        · have hb : decide (x = y) = false := by simpa using hxy
          have HN := Lib.hid (HNO.out hxy)
          clear hxy
          rw [hb]
          go_wp2_with fail
          go_ret
          exact ⟨by rw [HN.out]; rfl, HB7.out⟩
  · have hd : decide (l = m) = false := by rw [decide_eq_false_iff_not]; intro h; exact hlen (by rw [h])
    have hne : ¬ (l.length : Int) = (m.length : Int) := by omega
    rw [hd]
    clear hA hB hlen hd
    go_enter Tryz.func165, Tryz.ntmps165
    go_wp2_with fail
    go_ret
    exact ⟨rfl, Below.refl _ _⟩
theorem same_ok (A B : Option Addr) (ca cb : Nat) (l m : List Tr.E) (hl : l.length ≤ 1000000000) (hm : m.length ≤ 1000000000) (w : World) (hA : EntsAt w A l) (hB : EntsAt w B m) :
    Calls Tryz.prog 77 #[.slice A l.length ca, .slice B m.length cb] w fun e w' => e = .returned (.bool (decide (l = m))) ∧ Below w.heap.size w w' := by
  have HS := Lib.hid (sliceequal_ok A B ca cb l m hl hm w hA hB)
  generalize l.length = n1 at HS ⊢
  generalize m.length = n2 at HS ⊢
  generalize decide (l = m) = d at HS ⊢
  clear hA hB hl hm
  go_enter Tryz.func77, Tryz.ntmps77
  go_wp2_with fail
  refine HS.out.mono ?_
  rintro r w1 ⟨rfl, hb1⟩
  go_wp2_with fail
  go_ret
  exact ⟨rfl, hb1⟩
end Go.Proofs.YtdjndnoiankicaaGreatDoor
namespace Go.Proofs.YtdjndnoiankicaaGreatDoor
open Go.RowKit Go.Shelf
set_option linter.unusedSimpArgs false
set_option linter.unusedVariables false
attribute [local go_sem] cell_over frozen_over

def Ev10 (w : World) (b o : Nat) (e : Tr.Ev) : Prop := w.cell? ⟨b, o, none⟩ = some (.int .i64 e.kind) ∧ w.cell? ⟨b, o + 1, none⟩ = some (.int .u16 (e.src.1 : Int)) ∧ w.cell? ⟨b, o + 2, none⟩ = some (.int .u16 (e.src.2 : Int)) ∧ w.cell? ⟨b, o + 3, none⟩ = some (.int .u16 (e.dst.1 : Int)) ∧ w.cell? ⟨b, o + 4, none⟩ = some (.int .u16 (e.dst.2 : Int)) ∧ w.cell? ⟨b, o + 5, none⟩ = some (.int .i64 e.epoch) ∧ w.cell? ⟨b, o + 6, none⟩ = some (.int .i64 e.role) ∧ w.cell? ⟨b, o + 7, none⟩ = some (.int .u16 (e.under.1 : Int)) ∧ w.cell? ⟨b, o + 8, none⟩ = some (.int .u16 (e.under.2 : Int)) ∧ w.cell? ⟨b, o + 9, none⟩ = some (.int .u16 (e.used : Int))
theorem Ev10.below {w W : World} {b o : Nat} {e : Tr.Ev} (h : Ev10 w b o e) (hb : Below w.heap.size w W) : Ev10 W b o e := by
  obtain ⟨h0, h1, h2, h3, h4, h5, h6, h7, h8, h9⟩ := h
  exact ⟨cell_on h0 hb, cell_on h1 hb, cell_on h2 hb, cell_on h3 hb, cell_on h4 hb, cell_on h5 hb, cell_on h6 hb, cell_on h7 hb, cell_on h8 hb, cell_on h9 hb⟩
def EvsAt (w : World) (A : Option Addr) (l : List Tr.Ev) : Prop := l = [] ∨ ∃ b off, A = some ⟨b, off, none⟩ ∧ ∀ i (h : i < l.length), Ev10 w b (off + i * 10) l[i]
theorem EvsAt.below {w W : World} {A : Option Addr} {l : List Tr.Ev} (h : EvsAt w A l) (hb : Below w.heap.size w W) : EvsAt W A l := by
  rcases h with h | ⟨b, off, h1, h2⟩
  · exact .inl h
  · exact .inr ⟨b, off, h1, fun i hi => (h2 i hi).below hb⟩
set_option maxRecDepth 100000 in
set_option maxHeartbeats 1000000 in
theorem crossedf_ok (e : Tr.Ev) (he : e.ok) (p : Nat) (l : Lab.L) (hl : Lab.ok l) (w : World) (hp : LabIn p l w) : Calls Tryz.prog 163 #[evV e, .pointer (some ⟨p, 0, none⟩)] w fun r w' => r = .returned (.bool (Tr.crosses e l)) ∧ Below w.heap.size w w' := by
  have HC := Lib.hid (fun w => crosses_ok e he l hl w)
  generalize Tr.crosses e l = d at HC
  obtain ⟨c1, c2, c3, c4⟩ := pair_cells hp
  have hlt : p < w.heap.size := World.block_lt_of_cell? w _ c1
  obtain ⟨kd, ⟨s1, s2⟩, ⟨d1, d2⟩, ep, rl, ⟨u1, u2⟩, us⟩ := e
  clear he hl hp
  go_enter Tryz.func163, Tryz.ntmps163
  go_wp2_with fail
  refine (HC.out _).mono ?_
  rintro r w1 ⟨rfl, hb1⟩
  go_wp2_with fail
  go_ret
  exact ⟨rfl, below_here (below_fresh _ _) hb1⟩
abbrev crF (p : Nat) : Value := .func (.func 163) #[] #[.pointer (some ⟨p, 0, none⟩)]
set_option maxRecDepth 100000 in
set_option maxHeartbeats 2000000 in
theorem indexcr_ok (A : Option Addr) (c : Nat) (l : List Tr.Ev) (hlen : l.length ≤ 1000000000) (hok : ∀ e ∈ l, e.ok) (p : Nat) (b : Lab.L) (hb : Lab.ok b) (w : World) (hA : EvsAt w A l) (hp : LabIn p b w) :
    Calls Tryz.prog 213 #[.slice A l.length c, crF p] w fun e w' => ∃ r : Int, e = .returned (.int .i64 r) ∧ decide (0 ≤ r) = (l.any fun e => Tr.crosses e b) ∧ Below w.heap.size w w' := by
  have HA := Lib.hid hA
  have HP := Lib.hid hp
  have HOK := Lib.hid hok
  obtain ⟨n, hn⟩ : ∃ n, n = l.length := ⟨_, rfl⟩
  rw [← hn] at hlen ⊢
  have HN := Lib.hid hn
  clear hA hp hok hn
  go_enter Tryz.func213, Tryz.ntmps213
  go_wp2_with fail
  go_loopw [8] (fun i wr => ∃ (k : Nat), i = .int .i64 (k : Int) ∧ k ≤ n ∧ Hid (((l.take k).any fun e => Tr.crosses e b) = false) ∧ Hid (Below w.heap.size w wr)) (fun i _ => n - (intOf i).toNat)
  case atStart => exact ⟨0, rfl, Nat.zero_le _, Lib.hid rfl, Lib.hid (Below.refl _ _)⟩
  case round =>
    obtain ⟨k, rfl, hk, hT, hW⟩ := hrel
    by_cases hkn : k = n
    · subst hkn
      have hd : (l.any fun e => Tr.crosses e b) = false := by
        have h := hT.out
        rwa [List.take_of_length_le (Nat.le_of_eq HN.out.symm)] at h
      have HD := Lib.hid hd
      clear hd
      go_wp2_with fail
      go_ret
      exact ⟨-1, rfl, by rw [HD.out]; rfl, hW.out⟩
    · have hlt : k < n := by omega
      have hki : (k : Int) < (n : Int) := by omega
      have hkl : k < l.length := by rw [← HN.out]; exact hlt
      obtain ⟨b', off, rfl, e0⟩ : ∃ b off, A = some ⟨b, off, none⟩ ∧ Ev10 wr b (off + k * 10) l[k] := by
        rcases HA.out.below hW.out with h | ⟨b, off, h1, h2⟩
        · rw [h] at hkl; simp at hkl
        · exact ⟨b, off, h1, h2 k hkl⟩
      have HC := Lib.hid (fun w hp => crossedf_ok l[k] (HOK.out _ (List.getElem_mem hkl)) p b hb w hp)
      have hnx : Tr.crosses l[k] b = false → ((l.take (k + 1)).any fun e => Tr.crosses e b) = false := fun h => by
        rw [List.take_succ_eq_append_getElem hkl, List.any_append, hT.out]; simp [h]
      have hyes : Tr.crosses l[k] b = true → (l.any fun e => Tr.crosses e b) = true := fun h => List.any_eq_true.2 ⟨_, List.getElem_mem hkl, h⟩
      have HNX := Lib.hid hnx
      have HY := Lib.hid hyes
      clear hnx hyes hkn
      generalize Tr.crosses l[k] b = d at HC HNX HY
      generalize l[k] = x at e0 HC
      clear hkl
      have e1 := e0
      obtain ⟨a0, a1, a2, a3, a4, a5, a6, a7, a8, a9⟩ := e1
      have hlb : b' < wr.heap.size := World.block_lt_of_cell? wr _ a0
      clear e0
      cases d with
      | false =>
        have HN1 := Lib.hid (HNX.out rfl)
        go_wp2_with fail
        refine (HC.out _ (HP.out.below hW.out)).mono ?_
        rintro r w1 ⟨rfl, hb1⟩
        have HW1 := Lib.hid (below_here hW.out hb1)
        clear hb1
        go_wp2_with fail
        go_roundw
        case rel => exact ⟨k + 1, by go_num, by omega, HN1, HW1⟩
        case measure => simp [intOf]; omega
      | true =>
        have HN1 := Lib.hid (HY.out rfl)
        go_wp2_with fail
        refine (HC.out _ (HP.out.below hW.out)).mono ?_
        rintro r w1 ⟨rfl, hb1⟩
        have HW1 := Lib.hid (below_here hW.out hb1)
        clear hb1
        go_wp2_with fail
        go_ret
        exact ⟨(k : Int), rfl, by rw [HN1.out]; simp, HW1.out⟩
theorem containscr_ok (A : Option Addr) (c : Nat) (l : List Tr.Ev) (hlen : l.length ≤ 1000000000) (hok : ∀ e ∈ l, e.ok) (p : Nat) (b : Lab.L) (hb : Lab.ok b) (w : World) (hA : EvsAt w A l) (hp : LabIn p b w) :
    Calls Tryz.prog 162 #[.slice A l.length c, crF p] w fun e w' => e = .returned (.bool (l.any fun e => Tr.crosses e b)) ∧ Below w.heap.size w w' := by
  have HI := Lib.hid (indexcr_ok A c l hlen hok p b hb w hA hp)
  generalize (l.any fun e => Tr.crosses e b) = d at HI ⊢
  generalize l.length = n at HI ⊢
  clear hA hp hok hlen hb
  go_enter Tryz.func162, Tryz.ntmps162
  go_wp2_with fail
  refine HI.out.mono ?_
  rintro r w1 ⟨x, rfl, hx, hb1⟩
  have HX := Lib.hid hx
  clear hx
  go_wp2_with fail
  go_ret
  exact ⟨by rw [← HX.out]; rfl, hb1⟩
theorem crossed_ok (A : Option Addr) (c : Nat) (l : List Tr.Ev) (hlen : l.length ≤ 1000000000) (hok : ∀ e ∈ l, e.ok) (b : Lab.L) (hb : Lab.ok b) (w : World) (hA : EvsAt w A l) :
    Calls Tryz.prog 75 #[.slice A l.length c, labV b] w fun e w' => e = .returned (.bool (l.any fun e => Tr.crosses e b)) ∧ Below w.heap.size w w' := by
  have HI := Lib.hid (containscr_ok A c l hlen hok w.heap.size b hb _ (hA.below (below_fresh w (.cells #[.int .u16 (b.1 : Int), .int .u16 (b.2 : Int)] 24))) (LabIn.new w b))
  generalize (l.any fun e => Tr.crosses e b) = d at HI ⊢
  generalize l.length = n at HI ⊢
  clear hA hok hlen hb
  go_enter Tryz.func75, Tryz.ntmps75
  go_wp2_with fail
  refine HI.out.mono ?_
  rintro r w1 ⟨rfl, hb1⟩
  go_wp2_with fail
  go_ret
  exact ⟨rfl, below_here (below_fresh _ _) hb1⟩
end Go.Proofs.YtdjndnoiankicaaGreatDoor
namespace Go.Proofs.YtdjndnoiankicaaGreatDoor
open Go.RowKit Go.Shelf
set_option linter.unusedSimpArgs false
set_option linter.unusedVariables false
attribute [local go_sem] cell_over frozen_over

abbrev trC (e : Tr.E) : List Value := [.int .i64 e.1, .int .u16 (e.2.1.1.1 : Int), .int .u16 (e.2.1.1.2 : Int), .int .i64 e.2.1.2.1, .int .i64 e.2.1.2.2, .int .u16 (e.2.2.1.1 : Int), .int .u16 (e.2.2.1.2 : Int), .int .i64 e.2.2.2.1, .string e.2.2.2.2]
def flatE (l : List Tr.E) : List Value := l.flatMap trC
theorem flatE_snoc (l : List Tr.E) (e : Tr.E) : flatE (l ++ [e]) = flatE l ++ trC e := by simp [flatE, List.flatMap_append]
theorem flatE_len : ∀ l : List Tr.E, (flatE l).length = l.length * 9
  | [] => rfl
  | e :: l => by
    have := flatE_len l
    unfold flatE at this ⊢
    rw [List.flatMap_cons, List.length_append, this]; simp; omega
theorem flatE_at : ∀ (l : List Tr.E) (i j : Nat) (h : i < l.length), j < 9 → (flatE l)[i * 9 + j]? = (trC l[i])[j]?
  | [], _, _, h, _ => by simp at h
  | e :: l, 0, j, _, hj => by
    unfold flatE
    rw [List.flatMap_cons, Nat.zero_mul, Nat.zero_add, List.getElem?_append_left (by simpa using hj)]
    rfl
  | e :: l, i + 1, j, h, hj => by
    have ih := flatE_at l i j (by simpa using h) hj
    unfold flatE at ih ⊢
    rw [List.flatMap_cons, List.getElem?_append_right (by simp; omega)]
    rw [show (i + 1) * 9 + j - (trC e).length = i * 9 + j by simp; omega, ih]
    rfl
theorem ents_of_own {w : World} {B n : Nat} {t : TypeId} {v : Value} {l : List Tr.E} (h : w.ownsRow B t 9 v n (flatE l)) : ∃ A cap, v = .slice A l.length cap ∧ EntsAt w A l ∧ n = l.length := by
  have hn : n = l.length := by have := h.1; rw [flatE_len] at this; omega
  rcases h.2 with ⟨rfl, h0⟩ | ⟨g, cap, cur, rfl, _⟩
  · have hl : l = [] := List.length_eq_zero_iff.1 (by omega)
    subst hl
    exact ⟨none, 0, rfl, .inl rfl, hn⟩
  · refine ⟨some ⟨g, 0, none⟩, cap, by rw [hn], .inr ⟨g, 0, rfl, fun i hi => ?_⟩, hn⟩
    have hc : ∀ j u, j < 9 → (trC l[i])[j]? = some u → w.cell? ⟨g, 0 + i * 9 + j, none⟩ = some u := fun j u hj hu => by
      have := h.cells (g := g) rfl (i * 9 + j) u (by rw [flatE_at l i j hi hj]; exact hu)
      rw [addr_mid] at this
      rw [show 0 + i * 9 + j = 0 + (i * 9 + j) by omega]; exact this
    exact ⟨hc 0 _ (by omega) rfl, hc 1 _ (by omega) rfl, hc 2 _ (by omega) rfl, hc 3 _ (by omega) rfl, hc 4 _ (by omega) rfl, hc 5 _ (by omega) rfl, hc 6 _ (by omega) rfl, hc 7 _ (by omega) rfl, hc 8 _ (by omega) rfl⟩
theorem info_tre : (Tryz.prog.info? 33).map (fun i => (i.zero, i.size, i.bytes)) = some (some (.agg #[.int .i64 0, .int .u16 0, .int .u16 0, .int .i64 0, .int .i64 0, .int .u16 0, .int .u16 0, .int .i64 0, .string ⟨#[]⟩]), 9, 64) := by kernel_rfl
theorem news_nine {w : World} {g : Nat} {C : List Value} {t : TypeId} (h : w.heap[g]? = some (.cells C.toArray t (0, 0))) : ∀ j u, C[j]? = some u → w.cell? ((⟨g, 0, none⟩ : Addr).add j) = some u := news_block h
end Go.Proofs.YtdjndnoiankicaaGreatDoor
namespace Go.Proofs.YtdjndnoiankicaaGreatDoor
open Go.RowKit Go.Shelf
set_option linter.unusedSimpArgs false
set_option linter.unusedVariables false
attribute [local go_sem] cell_over frozen_over

theorem neqR_run {a : Act} {o : Oper} {X Y : Operand} (x y : Tr.E) (ho : o.op = .binOp .neq 31 X Y 31) (hx : a.eval X = trV x) (hy : a.eval Y = trV y) (W : World) : (execOp a.eval o).run Tryz.prog W = .ok (.value (.bool (!decide (x = y)))) W := by
  obtain ⟨at1, ⟨⟨a1, a2⟩, k1, n1⟩, ⟨l1, l2⟩, e1, d1⟩ := x
  obtain ⟨at2, ⟨⟨b1, b2⟩, k2, n2⟩, ⟨m1, m2⟩, e2, d2⟩ := y
  unfold execOp
  simp only [ho, hx, hy]
  by_cases h0 : at1 = at2
  · subst h0
    by_cases h1 : (a1 : Int) = (b1 : Int)
    · obtain rfl : a1 = b1 := by omega
      by_cases h2 : (a2 : Int) = (b2 : Int)
      · obtain rfl : a2 = b2 := by omega
        by_cases h3 : k1 = k2
        · subst h3
          by_cases h4 : n1 = n2
          · subst h4
            by_cases h5 : (l1 : Int) = (m1 : Int)
            · obtain rfl : l1 = m1 := by omega
              by_cases h6 : (l2 : Int) = (m2 : Int)
              · obtain rfl : l2 = m2 := by omega
                by_cases h7 : e1 = e2
                · subst h7
                  by_cases h8 : d1 = d2
                  · subst h8; go_simp
                  · have h9 : (d1.toList == d2.toList) = false := (Lib.bytes_beq_false_iff _ _).2 h8
                    go_simp
                · go_simp
              · have h6' : ¬ l2 = m2 := by omega
                go_simp
            · have h5' : ¬ l1 = m1 := by omega
              go_simp
          · go_simp
        · go_simp
      · have h2' : ¬ a2 = b2 := by omega
        go_simp
    · have h1' : ¬ a1 = b1 := by omega
      go_simp
  · go_simp
end Go.Proofs.YtdjndnoiankicaaGreatDoor
namespace Go.Proofs.YtdjndnoiankicaaGreatDoor
open Go.RowKit Go.Shelf
set_option linter.unusedSimpArgs false
set_option linter.unusedVariables false
attribute [local go_sem] cell_over frozen_over

def Tr.seen (l : List Tr.E) (b : Lab.L) : List Tr.E := l.filter fun e => Lab.flows e.2.2.1 b
theorem Tr.seen_snoc (l : List Tr.E) (b : Lab.L) (e : Tr.E) : Tr.seen (l ++ [e]) b = Tr.seen l b ++ if Lab.flows e.2.2.1 b then [e] else [] := by
  unfold Tr.seen; rw [List.filter_append]; simp only [List.filter_cons, List.filter_nil]
theorem info_rre : (Tryz.prog.info? 31).map (fun i => (i.zero, i.size, i.bytes)) = some (some (.agg #[.int .i64 0, .int .u16 0, .int .u16 0, .int .i64 0, .int .i64 0, .int .u16 0, .int .u16 0, .int .i64 0, .string ⟨#[]⟩]), 9, 64) := by kernel_rfl
end Go.Proofs.YtdjndnoiankicaaGreatDoor
namespace Go.Proofs.YtdjndnoiankicaaGreatDoor
open Go.RowKit Go.Shelf
set_option linter.unusedSimpArgs false
set_option linter.unusedVariables false

namespace Tr
theorem seen_twice (l : List E) (a : Lab.L) : seen (seen l a) a = seen l a := by unfold seen; rw [List.filter_filter]; simp
theorem seen_under {a b : Lab.L} (h : Lab.flows a b = true) (l : List E) : seen (seen l b) a = seen l a := by
  unfold seen
  rw [List.filter_filter]
  refine List.filter_congr fun e _ => ?_
  cases h1 : Lab.flows e.2.2.1 a with
  | false => rfl
  | true => rw [Lab.flows_trans h1 h]; rfl
theorem seen_len (l : List E) (a : Lab.L) : (seen l a).length ≤ l.length := List.length_filter_le _ _
theorem seen_in {l : List E} {a : Lab.L} {e : E} (h : e ∈ seen l a) : e ∈ l := (List.mem_filter.1 h).1
theorem flows_no {e : Ev} {a : Lab.L} (h : Lab.flows e.src e.dst = true) : crosses e a = false := by
  unfold crosses
  cases h1 : Lab.flows e.dst a with
  | false => simp
  | true => rw [Lab.flows_trans h h1]; simp
theorem crosses_in {e : Ev} {a : Lab.L} (h : crosses e a = true) : Lab.flows e.dst a = true ∧ decide (e.used ≠ 0) = true := by
  unfold crosses at h
  simp only [Bool.and_eq_true] at h
  exact ⟨h.2, h.1.1⟩
/-- The entry of alive. -/
def alE : E := (3, ((0, 0), 1, 0), (1, 0), 0, ⟨#[97, 98]⟩)
theorem al_line : line alE = [51, 32, 112, 45, 47, 45, 46, 48, 32, 48, 47, 45, 32, 48, 32, 54, 49, 54, 50] := by decide +kernel
theorem al_parse : parse ⟨#[51, 32, 112, 45, 47, 45, 46, 48, 32, 48, 47, 45, 32, 48, 32, 54, 49, 54, 50]⟩ = (alE, 0) := by decide +kernel
theorem al_parse2 : parse ⟨#[51, 32, 112, 45, 47, 45, 46, 48, 32, 48, 47, 45, 32, 48, 32, 54, 49, 54]⟩ = (zero, 3) := by decide +kernel
end Tr
end Go.Proofs.YtdjndnoiankicaaGreatDoor
namespace Go.Proofs.YtdjndnoiankicaaGreatDoor
open Go.RowKit Go.Shelf
set_option linter.unusedSimpArgs false
set_option linter.unusedVariables false
attribute [local go_sem] Oper.semAt_some

/-- The blocks below M + 4 lie as they lay, but for one. -/
def KeepS (M : Nat) (A B : World) : Prop := ∀ k, k < M + 4 → k ≠ M + 1 → B.heap[k]? = A.heap[k]?
theorem keepS_t {M : Nat} {A B C : World} (h : KeepS M A B) (k : KeepS M B C) : KeepS M A C := fun q h1 h2 => (k q h1 h2).trans (h q h1 h2)
theorem keepS_b {M : Nat} {w : World} (hN : M + 4 ≤ w.heap.size) (W : World) (l : Nat) (o o' : Obj) (hl : w.heap.size ≤ l) (_ : W.heap[l]? = some o) (_ : o.isCells = false) (_ : o.isWalk = false) : KeepS M W (W.putObj l o') := fun q hq _ => by
  show (W.heap.setIfInBounds l o')[q]? = _
  rw [Array.getElem?_setIfInBounds_ne (by omega)]
theorem keepS_below {M : Nat} {A B : World} (hN : M + 4 ≤ A.heap.size) (h : Below A.heap.size A B) : KeepS M A B := fun q hq _ => h.block q (by omega)
/-- What the closure reads. -/
def SeenEnv (M : Nat) (A : Option Addr) (c : Nat) (es : List Tr.E) (b : Lab.L) (W : World) : Prop :=
  W.heap[M + 2]? = some (.cells #[.slice A es.length c] 131 (0, 0)) ∧ LabIn (M + 3) b W ∧ (es = [] ∨ ∃ blk off, A = some ⟨blk, off, none⟩ ∧ blk < M ∧ ∀ i (h : i < es.length), Ent9 W blk (off + i * 9) es[i])
theorem Ent9.keep {A B : World} {b o : Nat} {e : Tr.E} (h : Ent9 A b o e) (hb : B.heap[b]? = A.heap[b]?) : Ent9 B b o e := by
  have k : ∀ i, B.cell? ⟨b, i, none⟩ = A.cell? ⟨b, i, none⟩ := fun i => World.cell?_of_block (w := A) (a := ⟨b, i, none⟩) hb
  unfold Ent9
  simp only [k]
  exact h
theorem SeenEnv.keep {M : Nat} {A : Option Addr} {c : Nat} {es : List Tr.E} {b : Lab.L} {W W' : World} (h : SeenEnv M A c es b W) (hk : KeepS M W W') : SeenEnv M A c es b W' := by
  obtain ⟨h1, h2, h3⟩ := h
  refine ⟨(hk _ (by omega) (by omega)).trans h1, (hk _ (by omega) (by omega)).trans h2, ?_⟩
  rcases h3 with h3 | ⟨blk, off, h4, h5, h6⟩
  · exact .inl h3
  · exact .inr ⟨blk, off, h4, h5, fun i hi => (h6 i hi).keep (hk _ (by omega) (by omega))⟩
theorem SeenEnv.below {M : Nat} {A : Option Addr} {c : Nat} {es : List Tr.E} {b : Lab.L} {W W' : World} (h : SeenEnv M A c es b W) (hb : Below W.heap.size W W') : SeenEnv M A c es b W' := by
  obtain ⟨h1, h2, h3⟩ := h
  refine ⟨block_below hb h1, block_below hb h2, ?_⟩
  rcases h3 with h3 | ⟨blk, off, h4, h5, h6⟩
  · exact .inl h3
  · exact .inr ⟨blk, off, h4, h5, fun i hi => (h6 i hi).below hb⟩
theorem seq_ok (A : Option Addr) (n c : Nat) (b : Lab.L) (w : World) : Calls Tryz.prog 164 #[.slice A n c, labV b] w fun e w' => e = .returned (.func (.func 214) #[] #[.pointer (some ⟨w.heap.size, 0, none⟩), .pointer (some ⟨w.heap.size + 1, 0, none⟩)]) ∧ w' = (w.alloc (.cells #[.slice A n c] 131)).alloc (.cells #[.int .u16 (b.1 : Int), .int .u16 (b.2 : Int)] 24) := by
  go_enter Tryz.func164, Tryz.ntmps164
  go_wp2_with fail
  go_ret
  exact ⟨rfl, rfl⟩
set_option maxRecDepth 100000 in
set_option maxHeartbeats 2000000 in
theorem seen1_in (n l M c B : Nat) (A : Option Addr) (es : List Tr.E) (hlen : es.length ≤ 1000000) (hok : ∀ e ∈ es, Lab.ok e.2.2.1) (b : Lab.L) (hb : Lab.ok b) (J Jx : List Tr.E → World → Prop) (hJA : AbidesFrom B J)
    (hY : ∀ (pre : List Tr.E) (x : Tr.E) (W : World), J pre W → pre.length < es.length → YieldAt Fence.wide (n - 1) Tryz.prog l #[trV x] W fun e W' =>
      (e = .returned (.bool true) ∧ J (pre ++ [x]) W' ∧ KeepS M W W') ∨ (e = .returned (.bool false) ∧ Jx (pre ++ [x]) W'))
    (W : World) (hE : SeenEnv M A c es b W) (h0 : J [] W) :
    CallsIn Fence.wide n Tryz.prog 214 #[.func (.yield l) #[] #[], .pointer (some ⟨M + 2, 0, none⟩), .pointer (some ⟨M + 3, 0, none⟩)] W fun e W' => (∃ v, e = .returned v) ∧
      ((∃ ys, ys = Tr.seen es b ∧ J ys W') ∨ (∃ pre, pre <+: Tr.seen es b ∧ Jx pre W')) := by
  refine callsIn_of_wp Tryz.func214 rfl trivial ?_ rfl
  simp only [Tryz.ntmps214, List.size_toArray, List.length_cons, List.length_nil, Nat.reduceAdd, Nat.reduceSub, Array.replicate_succ, Array.replicate_zero, List.push_toArray, List.append_toArray, List.nil_append, List.cons_append]
  have hc := cell_of_one hE.1
  obtain ⟨N, hN⟩ : ∃ N, N = es.length := ⟨_, rfl⟩
  have HN := Lib.hid hN
  have HE := Lib.hid hE
  have HJ := Lib.hid h0
  have HOK := Lib.hid hok
  have HF := Lib.hid (fun e (h : Lab.ok e) w => flows_ok e b h hb w)
  rw [← hN] at hc hlen
  clear hE h0 hok hb hN
  gi_wp2
  gi_loopw [8] (fun i wr => ∃ (k : Nat) (pre : List Tr.E), i = .int .i64 (k : Int) ∧ k ≤ N ∧ Hid (pre = Tr.seen (es.take k) b) ∧ Hid (SeenEnv M A c es b wr) ∧ Hid (J pre wr)) (fun i _ => N - (intOf i).toNat)
  case atStart => exact ⟨0, [], rfl, Nat.zero_le _, Lib.hid rfl, HE, HJ⟩
  case round =>
    obtain ⟨k, pre, rfl, hk, hp, HE1, HJ1⟩ := hrel
    by_cases hkn : k = N
    · subst hkn
      gi_wp2
      go_end0
      refine ⟨⟨_, rfl⟩, .inl ⟨_, ?_, HJ1.out⟩⟩
      rw [hp.out, HN.out, List.take_length]
    · have hlt : k < N := by omega
      have hki : (k : Int) < (N : Int) := by omega
      have hkl : k < es.length := by rw [← HN.out]; exact hlt
      obtain ⟨b', off, rfl, hbM, e0⟩ : ∃ b off, A = some ⟨b, off, none⟩ ∧ b < M ∧ Ent9 wr b (off + k * 9) es[k] := by
        rcases HE1.out.2.2 with h | ⟨b, off, h1, h2, h3⟩
        · rw [h] at hkl; simp at hkl
        · exact ⟨b, off, h1, h2, h3 k hkl⟩
      have HFK := Lib.hid (HF.out _ (HOK.out _ (List.getElem_mem hkl)))
      have hsn := Tr.seen_snoc (es.take k) b es[k]
      rw [← List.take_succ_eq_append_getElem hkl, ← hp.out] at hsn
      have hpl : pre.length < es.length := by
        have h1 := Tr.seen_len (es.take k) b
        have h2 := List.length_take_le k es
        rw [hp.out]; omega
      have hpf : ∀ z, Tr.seen (es.take (k + 1)) b = z → z <+: Tr.seen es b := fun z hz => by
        subst hz
        conv => rhs; rw [← List.take_append_drop (k + 1) es]
        unfold Tr.seen
        rw [List.filter_append]
        exact List.prefix_append _ _
      have HPF := Lib.hid hpf
      have HPL := Lib.hid hpl
      have HS := Lib.hid hsn
      clear hsn hpl hpf
      generalize es[k] = x at e0 HS HFK
      generalize Lab.flows x.2.2.1 b = d at HS HFK
      obtain ⟨at', ⟨⟨x1, x2⟩, x3, x4⟩, ⟨y1, y2⟩, er, da⟩ := x
      have e1 := e0
      obtain ⟨a0, a1, a2, a3, a4, a5, a6, a7, a8⟩ := e1
      obtain ⟨c1, c2, c3, c4⟩ := pair_cells HE1.out.2.1
      have hlp : M + 3 < wr.heap.size := World.block_lt_of_cell? wr _ c1
      have hlb : b' < wr.heap.size := by omega
      clear e0 hkl hkn
      gi_wp2
      refine ⟨trivial, (fun h => by cases h), ?_⟩
      refine (callsIn_wide.2 (HFK.out _)).mono ?_
      rintro e w1 ⟨rfl, hb1⟩
      have hbl := block_below hb1 (heap_alloc_new wr (.cells #[.int .i64 at', .int .u16 (x1 : Int), .int .u16 (x2 : Int), .int .i64 x3, .int .i64 x4, .int .u16 (y1 : Int), .int .u16 (y2 : Int), .int .i64 er, .string da] 33))
      have hB1 : Below wr.heap.size wr w1 := below_here (below_fresh wr _) hb1
      have HE2 := Lib.hid (HE1.out.below hB1)
      have HJ2 := Lib.hid (hJA _ _ _ none HJ1.out (grown_below hB1 none) (fun r e => by cases e))
      clear a0 a1 a2 a3 a4 a5 a6 a7 a8 c1 c2 c3 c4 hlb hlp hb1 hB1 HE1 HJ1 HJ HE
      obtain ⟨⟨n0, n1, n2, n3, n4, n5, n6, n7, n8⟩, ⟨f0, f1, f2, f3, f4, f5, f6, f7, f8⟩, hl9⟩ := nine_cells hbl
      clear hbl
      cases d with
      | false =>
        have HSS : Hid (pre = Tr.seen (es.take (k + 1)) b) := Lib.hid (by rw [HS.out]; simp)
        gi_wp2
        refine ⟨(fun f h => by cases h), ?_⟩
        gi_wp2
        go_roundw
        case rel => exact ⟨k + 1, pre, by go_num, by omega, HSS, HE2, HJ2⟩
        case measure => simp [intOf]; omega
      | true =>
        have HSS : Hid (pre ++ [(at', ((x1, x2), x3, x4), (y1, y2), er, da)] = Tr.seen (es.take (k + 1)) b) := Lib.hid (by rw [HS.out]; simp)
        clear HS HFK
        gi_wp2
        obtain ⟨fn, tmps, assign, body, hy, hR⟩ := hY pre (at', ((x1, x2), x3, x4), (y1, y2), er, da) _ HJ2.out HPL.out
        rw [hy, Oper.uponIn_round]
        refine ⟨(fun h => by cases h), ?_⟩
        refine hR.mono ?_
        rintro e W3 (⟨rfl, hJ3, hk3⟩ | ⟨rfl, hJx3⟩)
        · clear hy hR
          have HE3 := Lib.hid (HE2.out.keep hk3)
          have HJ3 := Lib.hid hJ3
          clear hJ3 hk3 n0 n1 n2 n3 n4 n5 n6 n7 n8 f0 f1 f2 f3 f4 f5 f6 f7 f8 hl9
          gi_wp2
          go_roundw
          case rel => exact ⟨k + 1, _, by go_num, by omega, HSS, HE3, HJ3⟩
          case measure => simp [intOf]; omega
        · clear hy hR n0 n1 n2 n3 n4 n5 n6 n7 n8 f0 f1 f2 f3 f4 f5 f6 f7 f8 hl9
          gi_wp2
          refine bodyPost_ret (results_none rfl _ _ _) rfl ?_
          exact ⟨⟨_, rfl⟩, .inr ⟨_, HPF.out _ HSS.out.symm, hJx3⟩⟩
theorem seen_seqK (n M c : Nat) (A : Option Addr) (es : List Tr.E) (hlen : es.length ≤ 1000000) (hok : ∀ e ∈ es, Lab.ok e.2.2.1) (b : Lab.L) (hb : Lab.ok b) (w : World) (hE : SeenEnv M A c es b w) :
    SeqStopsK Fence.wide n Tryz.prog 214 #[.pointer (some ⟨M + 2, 0, none⟩), .pointer (some ⟨M + 3, 0, none⟩)] (fun x : Tr.E => #[trV x]) (KeepS M) (fun ys => ys = Tr.seen es b) (fun pre => pre <+: Tr.seen es b) es.length w := fun l J Jx W hW hJ _ hY h0 =>
  seen1_in n l M c W.heap.size A es hlen hok b hb J Jx hJ (fun pre x W hj hl => hY pre x W hj hl) W (hE.below hW) h0
set_option maxRecDepth 100000 in
set_option maxHeartbeats 2000000 in
theorem tseen_ok (A : Option Addr) (c : Nat) (es : List Tr.E) (hlen : es.length ≤ 1000000) (hok : ∀ e ∈ es, Lab.ok e.2.2.1) (b : Lab.L) (hb : Lab.ok b) (w : World) (hA : EntsAt w A es) :
    Calls Tryz.prog 76 #[.slice A es.length c, labV b] w fun e w' => ∃ v, e = .returned v ∧ w'.ownsRow w.heap.size 33 9 v (Tr.seen es b).length (flatE (Tr.seen es b)) ∧ Below w.heap.size w w' := by
  refine (callsIn_wide (n := 9)).1 ?_
  refine callsIn_of_wp_marks Tryz.func76 rfl trivial ?_ rfl
  simp only [Tryz.ntmps76, List.size_toArray, List.length_cons, List.length_nil, Nat.reduceAdd, Nat.reduceSub, Array.replicate_succ, Array.replicate_zero, List.push_toArray, List.append_toArray, List.nil_append, List.cons_append]
  gi_wp2_with (refine ⟨trivial, ?_⟩; refine (callsIn_wide.2 (seq_ok A es.length c b _)).mono ?_; rintro e w1 ⟨rfl, rfl⟩)
  obtain ⟨i0, hi, hz0, hz1, hz2⟩ := info_parts info_tre
  have hB0 : Below w.heap.size w ((((w.alloc (.cells #[.int .u16 (b.1 : Int), .int .u16 (b.2 : Int)] 24)).alloc (.cells #[.slice none 0 0] 131)).alloc (.cells #[.slice A es.length c] 131)).alloc (.cells #[.int .u16 (b.1 : Int), .int .u16 (b.2 : Int)] 24)) := below_new (below_new (below_new (below_new (Below.refl _ _) _) _) _) _
  have hsz : ((((w.alloc (.cells #[.int .u16 (b.1 : Int), .int .u16 (b.2 : Int)] 24)).alloc (.cells #[.slice none 0 0] 131)).alloc (.cells #[.slice A es.length c] 131)).alloc (.cells #[.int .u16 (b.1 : Int), .int .u16 (b.2 : Int)] 24)).heap.size = w.heap.size + 4 := by simp
  have hbx : Boxed ((((w.alloc (.cells #[.int .u16 (b.1 : Int), .int .u16 (b.2 : Int)] 24)).alloc (.cells #[.slice none 0 0] 131)).alloc (.cells #[.slice A es.length c] 131)).alloc (.cells #[.int .u16 (b.1 : Int), .int .u16 (b.2 : Int)] 24)) (w.heap.size + 1) 131 (.slice none 0 0) := by
    have := ((Boxed.new (w.alloc (.cells #[.int .u16 (b.1 : Int), .int .u16 (b.2 : Int)] 24)) 131 (.slice none 0 0)).alloc (.cells #[.slice A es.length c] 131)).alloc (.cells #[.int .u16 (b.1 : Int), .int .u16 (b.2 : Int)] 24)
    rwa [World.size_alloc] at this
  have hE : SeenEnv w.heap.size A c es b ((((w.alloc (.cells #[.int .u16 (b.1 : Int), .int .u16 (b.2 : Int)] 24)).alloc (.cells #[.slice none 0 0] 131)).alloc (.cells #[.slice A es.length c] 131)).alloc (.cells #[.int .u16 (b.1 : Int), .int .u16 (b.2 : Int)] 24)) := by
    refine ⟨?_, ?_, ?_⟩
    · have := block_below (below_fresh _ (.cells #[.int .u16 (b.1 : Int), .int .u16 (b.2 : Int)] 24)) (heap_alloc_new ((w.alloc (.cells #[.int .u16 (b.1 : Int), .int .u16 (b.2 : Int)] 24)).alloc (.cells #[.slice none 0 0] 131)) (.cells #[.slice A es.length c] 131))
      rwa [World.size_alloc, World.size_alloc] at this
    · have := LabIn.new (((w.alloc (.cells #[.int .u16 (b.1 : Int), .int .u16 (b.2 : Int)] 24)).alloc (.cells #[.slice none 0 0] 131)).alloc (.cells #[.slice A es.length c] 131)) b
      rwa [World.size_alloc, World.size_alloc, World.size_alloc] at this
    · rcases hA with h | ⟨blk, off, h1, h2⟩
      · exact .inl h
      · by_cases h0 : es = []
        · exact .inl h0
        · refine .inr ⟨blk, off, h1, ?_, fun i hi => (h2 i hi).below hB0⟩
          have hp : 0 < es.length := List.length_pos_iff.2 h0
          exact World.block_lt_of_cell? w _ (h2 0 hp).1
  obtain ⟨W4, hW4⟩ : ∃ W4, W4 = ((((w.alloc (.cells #[.int .u16 (b.1 : Int), .int .u16 (b.2 : Int)] 24)).alloc (.cells #[.slice none 0 0] 131)).alloc (.cells #[.slice A es.length c] 131)).alloc (.cells #[.int .u16 (b.1 : Int), .int .u16 (b.2 : Int)] 24)) := ⟨_, rfl⟩
  rw [← hW4] at hB0 hsz hbx hE ⊢
  clear hW4
  have hseq := seen_seqK 8 w.heap.size c A es hlen hok b hb W4 hE
  refine wpIn_rangeFunc_ownH rfl (by omega) (gf := 214) (lb := #[.pointer (some ⟨w.heap.size + 1 + 1, 0, none⟩), .pointer (some ⟨w.heap.size + 1 + 1 + 1, 0, none⟩)]) rfl trivial (enters_of Tryz.func214 (by kernel_rfl) rfl)
    hseq keepS_t (keepS_b (by omega)) (Below.refl _ _) (fun _ => rfl)
    (fun pre W => (∃ v, Boxed W (w.heap.size + 1) 131 v ∧ W.ownsRow (w.heap.size + 4) 33 9 v pre.length (flatE pre) ∧ True) ∧ Below w.heap.size W4 W)
    (fun _ _ _ => False)
    (OwnFrom.and (Own.from (holdsRow_own (w.heap.size + 4) (w.heap.size + 1) 131 33 9 (fun pre : List Tr.E => pre.length) (fun pre : List Tr.E => flatE pre) (fun _ _ => True)) _) (ownFrom_below (by omega) (by omega)))
    (fun _ _ _ _ _ hs _ _ => hs)
    ⟨⟨_, hbx, World.ownsRow_nil _ _ _ _, trivial⟩, Below.refl _ _⟩
    (fun x a' W => ∃ g', W.heap[g']? = some (.cells #[.int .i64 x.1, .int .u16 (x.2.1.1.1 : Int), .int .u16 (x.2.1.1.2 : Int), .int .i64 x.2.1.2.1, .int .i64 x.2.1.2.2, .int .u16 (x.2.2.1.1 : Int), .int .u16 (x.2.2.1.2 : Int), .int .i64 x.2.2.2.1, .string x.2.2.2.2] 33 (0, 0)) ∧ a' = { tmps := #[.slice A es.length c, labV b, undef, .pointer (some ⟨w.heap.size, 0, none⟩), .slice none 0 0, .pointer (some ⟨w.heap.size + 1, 0, none⟩), .pointer (some ⟨g', 0, none⟩), .slice A es.length c, .agg #[.int .u16 (b.1 : Int), .int .u16 (b.2 : Int)], .func (.func 214) #[] #[.pointer (some ⟨w.heap.size + 1 + 1, 0, none⟩), .pointer (some ⟨w.heap.size + 1 + 1 + 1, 0, none⟩)], trV x, undef, undef, undef, undef, undef], defers := [] })
    (fun x a' _ A B row hs hg hr => by
      obtain ⟨g', h1, h2⟩ := hs
      refine ⟨g', (hg.block g' (Array.getElem?_eq_some_iff.1 h1).1 fun e => ?_).trans h1, h2⟩
      obtain ⟨_, o, ho, hc⟩ := hr g' e.symm
      rw [h1] at ho; cases ho; cases hc) ?assign ?body ?done ?stop
  case assign =>
    rintro l pre x W K ⟨⟨v, hv, hrow, _⟩, hB⟩ hK
    have hsW := hB.size
    simp only [List.zip_toArray, List.zip_cons_cons, List.zip_nil_right, List.foldl_toArray', List.foldl_cons, List.foldl_nil, List.setIfInBounds_toArray, List.set_cons_succ, List.set_cons_zero]
    gi_wp2
    exact hK _ _ ((KeepsOthers.alloc W _).from _) (fun k hk _ => Below.heap_alloc W _ k (by omega)) ⟨⟨v, hv.alloc _, hrow.alloc _, trivial⟩, hB.alloc (by omega) _⟩ ⟨W.heap.size, heap_alloc_new W _, rfl⟩
  case body =>
    rintro l pre x a' W hl _ ⟨⟨v, hv, hrow, _⟩, hB⟩ ⟨g', hg', rfl⟩ hlen1
    have hcv := hv.cell
    have hfv := hv.frozen
    have hsW := hB.size
    obtain ⟨at', ⟨⟨x1, x2⟩, x3, x4⟩, ⟨y1, y2⟩, er, da⟩ := x
    dsimp only at hg' ⊢
    obtain ⟨⟨n0, n1, n2, n3, n4, n5, n6, n7, n8⟩, ⟨f0, f1, f2, f3, f4, f5, f6, f7, f8⟩, hl9⟩ := nine_cells hg'
    clear hg'
    gi_wp2_with (gi_at_builtin; refine wpListIn_append_own _ rfl (.tmp 11) (.tmp 13) 131 rfl (w.heap.size + 4) 33 i0 _ 9 64 Tryz.underlying131 hi hz0 hz1 hz2 rfl (by decide) v pre.length (flatE pre) (by simp [Act.eval, Act.put]) (hrow.alloc _) ⟨W.heap.size, 0, none⟩ 1 1 [.int .i64 at', .int .u16 (x1 : Int), .int .u16 (x2 : Int), .int .i64 x3, .int .i64 x4, .int .u16 (y1 : Int), .int .u16 (y2 : Int), .int .i64 er, .string da] (by simp [Act.eval, Act.put]) rfl (news_block (heap_alloc_new W _)) (by simp [Value.oneCell']) (by unfold maxLen; omega) (by omega) (by simp; omega) ?_; intro v' w2 hown' hgrow _; obtain ⟨gg, cap2, rfl⟩ := ownsRow_succ hown'; have hv2 : Boxed w2 (w.heap.size + 1) 131 v := (hv.appended (by decide) (own_base hrow (Nat.le_add_right _ _)) (by omega) (by omega) (own_base hown' (Nat.le_add_right _ _)) hgrow).1; have hcv2 := hv2.cell; have hfv2 := hv2.frozen; have HO := Lib.hid hown'; have HG := Lib.hid hgrow; clear hown' hgrow)
    obtain ⟨_, hb3, _, hk3, hw3⟩ := hv.appended (by decide) (own_base hrow (Nat.le_add_right w.heap.size 4)) (by omega) (by omega) (own_base HO.out (Nat.le_add_right w.heap.size 4)) HG.out
    have hown3 := HO.out.kept (grownBy_setCell' w2 (w.heap.size + 1) (.slice (some ⟨gg, 0, none⟩) (pre.length + 1) cap2)) (.inr (hv2.not_row (by decide) HO.out).symm)
    have hkS : KeepS w.heap.size W (w2.setCell ⟨w.heap.size + 1, 0, none⟩ (.slice (some ⟨gg, 0, none⟩) (pre.length + 1) cap2)) := fun k hk hne => by
      have h1 : ((w2.setCell ⟨w.heap.size + 1, 0, none⟩ (.slice (some ⟨gg, 0, none⟩) (pre.length + 1) cap2))).heap[k]? = w2.heap[k]? := Below.heap_setCell w2 ⟨w.heap.size + 1, 0, none⟩ _ k hne
      have h2 := HG.out.block k (by simp; omega) (fun e => by have := (hrow.lt k e.symm).1; omega)
      rw [h1, h2]
      exact Below.heap_alloc W _ k (by omega)
    exact ⟨hk3.from _, hkS, ⟨_, hb3, by rw [flatE_snoc]; simpa using hown3, trivial⟩, hB.trans hw3⟩
  case done =>
    rintro D ys W hD hys ⟨⟨v, hv, hrow, _⟩, hB⟩ hK
    subst hys
    have hcv := hv.cell
    gi_wp2
    refine ⟨by simp, .inl ⟨_, _, rfl, run_takeDeferred hK, _, results_tmp rfl _ _ _, _, rfl, own_base (ownsRow_putObj hrow _ hK rfl) (Nat.le_add_right w.heap.size 4), (hB0.trans hB).trans (belowK_b (w := w) (Nat.le_refl _) W D _ _ (by omega) hK rfl rfl)⟩⟩
  case stop =>
    rintro D c pre W _ _ h _
    exact h.elim
end Go.Proofs.YtdjndnoiankicaaGreatDoor
namespace Go.Proofs.YtdjndnoiankicaaGreatDoor
open Go.RowKit Go.WideShapes
set_option linter.unusedVariables false
set_option linter.unusedSimpArgs false

theorem i64_wf {n : Int} (h : (Lit.int .i64 n).wf = true) : -9223372036854775808 ≤ n ∧ n ≤ 9223372036854775807 := by
  simp [Lit.wf, IntKind.min, IntKind.max, IntKind.signed, IntKind.bits] at h
  omega
abbrev kId : Kn Idn.I := Kn.pair kLab (Kn.pair (Kn.int .i64) (Kn.int .i64))
set_option maxRecDepth 100000 in
theorem opens_id : Opens Tryz.prog 26 kId (fun x => Lab.ok x.1 ∧ ((Lit.int .i64 x.2.1).wf = true ∧ (Lit.int .i64 x.2.2).wf = true)) :=
  opens_imp (d := kId) (fun x => x) (opens_struct Tryz.underlying26 (by kernel_rfl) (opensF_cons rfl (by kernel_rfl) opens_lab (opensF_cons rfl (by kernel_rfl) (opens_int Tryz.underlying3) (opensF_one rfl (by kernel_rfl) (opens_int Tryz.underlying3))))) (fun x ⟨h1, h2, h3⟩ => ⟨h1, h2, h3⟩) (fun _ _ _ _ h => h)
abbrev kReply : Kn (Int × ByteArray) := Kn.pair (Kn.int .i64) Kn.string
set_option maxRecDepth 100000 in
theorem opens_reply : Opens Tryz.prog 29 kReply (fun x => (Lit.int .i64 x.1).wf = true ∧ x.2.size ≤ 9223372036854775807) :=
  opens_imp (d := kReply) (fun x => x) (opens_struct Tryz.underlying29 (by kernel_rfl) (opensF_cons rfl (by kernel_rfl) (opens_int Tryz.underlying27) (opensF_one rfl (by kernel_rfl) (opens_string Tryz.underlying9)))) (fun x ⟨h1, h2⟩ => ⟨h1, h2⟩) (fun _ _ _ _ h => h)
def kEnt : Kn Tr.E := ⟨9, fun _ e cs => cs = trC e⟩
def Tr.okE (e : Tr.E) : Prop := (-9223372036854775808 ≤ e.1 ∧ e.1 ≤ 9223372036854775807) ∧ Lab.ok e.2.1.1 ∧ Lab.ok e.2.2.1 ∧ (-9223372036854775808 ≤ e.2.2.2.1 ∧ e.2.2.2.1 ≤ 9223372036854775807) ∧ e.2.2.2.2.size ≤ 9223372036854775807 ∧ (-9223372036854775808 ≤ e.2.1.2.1 ∧ e.2.1.2.1 ≤ 9223372036854775807) ∧ (-9223372036854775808 ≤ e.2.1.2.2 ∧ e.2.1.2.2 ≤ 9223372036854775807)
set_option maxRecDepth 100000 in
theorem opens_ent : Opens Tryz.prog 31 kEnt Tr.okE :=
  opens_imp (d := Kn.pair (Kn.int .i64) (Kn.pair kId (Kn.pair kLab kReply))) (fun x : Int × Idn.I × Lab.L × Int × ByteArray => (x : Tr.E))
    (opens_struct Tryz.underlying31 (by kernel_rfl) (opensF_cons rfl (by kernel_rfl) (opens_int Tryz.underlying3) (opensF_cons rfl (by kernel_rfl) opens_id (opensF_cons rfl (by kernel_rfl) opens_lab (opensF_one rfl (by kernel_rfl) opens_reply)))))
    (fun x ⟨h1, ⟨h2, h3, h4⟩, h5, h6, h7⟩ => ⟨i64_wf h1, h2, h5, i64_wf h6, h7, i64_wf h3, i64_wf h4⟩)
    (fun w x cs _ hK => by
      obtain ⟨c1, r1, rfl, h1, c2, r2, rfl, ⟨c3, r3, rfl, h3, c4, r4, rfl, h4, h5⟩, c6, r6, rfl, h6, c7, r7, rfl, h7, h8⟩ := hK
      have e1 : c1 = _ := h1
      have e3 : c3 = _ := h3
      have e4 : c4 = _ := h4
      have e5 : r4 = _ := h5
      have e6 : c6 = _ := h6
      have e7 : c7 = _ := h7
      have e8 : r7 = _ := h8
      subst e1 e3 e4 e5 e6 e7 e8
      rfl)
def kEv : Kn Tr.Ev := ⟨10, fun _ e cs => cs = [.int .i64 e.kind, .int .u16 (e.src.1 : Int), .int .u16 (e.src.2 : Int), .int .u16 (e.dst.1 : Int), .int .u16 (e.dst.2 : Int), .int .i64 e.epoch, .int .i64 e.role, .int .u16 (e.under.1 : Int), .int .u16 (e.under.2 : Int), .int .u16 (e.used : Int)]⟩
set_option maxRecDepth 100000 in
theorem opens_ev : Opens Tryz.prog 127 kEv Tr.Ev.ok :=
  opens_imp (d := Kn.pair (Kn.int .i64) (Kn.pair kLab (Kn.pair kLab (Kn.pair (Kn.int .i64) (Kn.pair (Kn.int .i64) (Kn.pair kLab (Kn.int .u16))))))) (fun x : Int × Lab.L × Lab.L × Int × Int × Lab.L × Int => (⟨x.1, x.2.1, x.2.2.1, x.2.2.2.1, x.2.2.2.2.1, x.2.2.2.2.2.1, x.2.2.2.2.2.2.toNat⟩ : Tr.Ev))
    (opens_struct Tryz.underlying127 (by kernel_rfl) (opensF_cons rfl (by kernel_rfl) (opens_int Tryz.underlying3) (opensF_cons rfl (by kernel_rfl) opens_lab (opensF_cons rfl (by kernel_rfl) opens_lab (opensF_cons rfl (by kernel_rfl) (opens_int Tryz.underlying3) (opensF_cons rfl (by kernel_rfl) (opens_int Tryz.underlying3) (opensF_cons rfl (by kernel_rfl) opens_lab (opensF_one rfl (by kernel_rfl) (opens_int Tryz.underlying22)))))))))
    (fun x ⟨_, h2, h3, _, _, h6, h7⟩ => by
      obtain ⟨u, hu, hu'⟩ := u16_nat h7
      refine ⟨h2, h3, h6, ?_⟩
      show x.2.2.2.2.2.2.toNat < 65536
      omega)
    (fun w x cs ⟨_, _, _, _, _, _, h7⟩ hK => by
      obtain ⟨c1, r1, rfl, h1, c2, r2, rfl, h2, c3, r3, rfl, h3, c4, r4, rfl, h4, c5, r5, rfl, h5, c6, r6, rfl, h6, h8⟩ := hK
      obtain ⟨u, hu, hu'⟩ := u16_nat h7
      have e1 : c1 = _ := h1
      have e2 : c2 = _ := h2
      have e3 : c3 = _ := h3
      have e4 : c4 = _ := h4
      have e5 : c5 = _ := h5
      have e6 : c6 = _ := h6
      have e8 : r6 = _ := h8
      subst e1 e2 e3 e4 e5 e6 e8
      obtain ⟨k, ⟨s1, s2⟩, ⟨d1, d2⟩, ep, rl, ⟨u1, u2⟩, us⟩ := x
      simp only at hu
      subst hu
      rfl)
set_option maxRecDepth 100000 in
theorem ev_value {H : Type} {enc : TypeId × Value → H} {w : World} {base : Nat} {b0 : Nat} {r : Reach} {spare : Nat → Bool} {held : Bool} {v : Value} {x : DataW H} {p : List MemPlace} (hv : Value.okWide Tryz.prog w r b0 127 v)
    (ht : DataW.Trod enc Tryz.prog w base spare held 127 v x p) : ∃ e : Tr.Ev, v = evV e ∧ e.ok := by
  obtain ⟨cs, rfl, _⟩ := okWide_struct Tryz.underlying127 hv
  obtain ⟨e, hK, hB⟩ := opens_ev.value ht
  have hK' : cs.toList = _ := hK
  refine ⟨e, ?_, hB⟩
  rw [show cs = _ from (Array.toList_inj.1 (hK'.trans (by rfl)) : cs = #[.int .i64 e.kind, .int .u16 (e.src.1 : Int), .int .u16 (e.src.2 : Int), .int .u16 (e.dst.1 : Int), .int .u16 (e.dst.2 : Int), .int .i64 e.epoch, .int .i64 e.role, .int .u16 (e.under.1 : Int), .int .u16 (e.under.2 : Int), .int .u16 (e.used : Int)])]
set_option maxRecDepth 100000 in
theorem ent_value {H : Type} {enc : TypeId × Value → H} {w : World} {base : Nat} {b0 : Nat} {r : Reach} {spare : Nat → Bool} {held : Bool} {v : Value} {x : DataW H} {p : List MemPlace} (hv : Value.okWide Tryz.prog w r b0 31 v)
    (ht : DataW.Trod enc Tryz.prog w base spare held 31 v x p) : ∃ e : Tr.E, v = trV e ∧ Tr.okE e := by
  obtain ⟨cs, rfl, _⟩ := okWide_struct Tryz.underlying31 hv
  obtain ⟨e, hK, hB⟩ := opens_ent.value ht
  have hK' : cs.toList = trC e := hK
  refine ⟨e, ?_, hB⟩
  rw [show cs = (trC e).toArray from Array.toList_inj.1 (hK'.trans (by rfl))]
set_option maxRecDepth 100000 in
theorem evs_value {H : Type} {enc : TypeId × Value → H} {w : World} {base : Nat} {spare : Nat → Bool} {held : Bool} {A : Option Addr} {len cap : Nat} {x : DataW H} {p : List MemPlace}
    (ht : DataW.Trod enc Tryz.prog w base spare held 130 (.slice A len cap) x p) : ∃ l : List Tr.Ev, len = l.length ∧ l.length ≤ 9223372036854775807 ∧ (∀ a ∈ l, a.ok) ∧ EvsAt w A l := by
  obtain ⟨l, ⟨A', cap', hc, h1, h2, h3⟩, hB⟩ := (opens_slice (P := Tryz.prog) Tryz.underlying130 opens_ev (by kernel_rfl)).value ht
  have hc' : A = A' ∧ len = l.length ∧ cap = cap' := by
    have : [Value.slice A len cap] = [.slice A' l.length cap'] := hc
    simpa using this
  obtain ⟨rfl, hl, rfl⟩ := hc'
  refine ⟨l, hl, by omega, hB, ?_⟩
  by_cases h0 : l.length = 0
  · exact .inl (List.length_eq_zero_iff.1 h0)
  · obtain ⟨a, rfl, hx⟩ := h3 (by omega)
    obtain ⟨b, off, spot⟩ := a
    have hcell : ∀ i (h : i < l.length) j u, ([.int .i64 l[i].kind, .int .u16 (l[i].src.1 : Int), .int .u16 (l[i].src.2 : Int), .int .u16 (l[i].dst.1 : Int), .int .u16 (l[i].dst.2 : Int), .int .i64 l[i].epoch, .int .i64 l[i].role, .int .u16 (l[i].under.1 : Int), .int .u16 (l[i].under.2 : Int), .int .u16 (l[i].used : Int)] : List Value)[j]? = some u → w.cell? ((⟨b, off, spot⟩ : Addr).add (i * 10 + j)) = some u := fun i hi j u hu => by
      obtain ⟨c, _, hk, hj⟩ := hx i l[i] (by simp [hi])
      have hk' : c = _ := hk
      subst hk'
      exact hj j u hu
    obtain rfl : spot = none := by
      have := hcell 0 (by omega) 0 _ rfl
      simpa [Addr.add] using World.cell?_spot this
    refine .inr ⟨b, off, rfl, fun i hi => ?_⟩
    have h : ∀ j u, ([.int .i64 l[i].kind, .int .u16 (l[i].src.1 : Int), .int .u16 (l[i].src.2 : Int), .int .u16 (l[i].dst.1 : Int), .int .u16 (l[i].dst.2 : Int), .int .i64 l[i].epoch, .int .i64 l[i].role, .int .u16 (l[i].under.1 : Int), .int .u16 (l[i].under.2 : Int), .int .u16 (l[i].used : Int)] : List Value)[j]? = some u → w.cell? ⟨b, off + i * 10 + j, none⟩ = some u := fun j u hu => by
      have := hcell i hi j u hu
      rw [addr_mid] at this
      rw [show off + i * 10 + j = off + (i * 10 + j) by omega]; exact this
    exact ⟨h 0 _ rfl, h 1 _ rfl, h 2 _ rfl, h 3 _ rfl, h 4 _ rfl, h 5 _ rfl, h 6 _ rfl, h 7 _ rfl, h 8 _ rfl, h 9 _ rfl⟩
end Go.Proofs.YtdjndnoiankicaaGreatDoor
