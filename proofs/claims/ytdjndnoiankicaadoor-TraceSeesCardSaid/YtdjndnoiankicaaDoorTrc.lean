/- Package trace: Same (slices.Equal at entries): what it returns. Package trace: Crossed: what it returns. Entries copied one by one (law37.entries). The reference's Crosses and Same at entries of a trace: what they return. The reference's Seen: what it returns. Entries that are seen: plain laws; the two lines of alive. No conditions. -/
import Derived.Test.YtdjndnoiankicaaDoorTrb
import Derived.Test.YtdjndnoiankicaaDoorKind
import Derived.Test.YtdjndnoiankicaaDoorLrefb
import Derived.Test.YtdjndnoiankicaaDoorIalive
namespace Go.Proofs.YtdjndnoiankicaaDoor
open Go.RowKit Go.Shelf
set_option linter.unusedSimpArgs false
set_option linter.unusedVariables false
attribute [local go_sem] cell_over frozen_over

def Ent9 (w : World) (b o : Nat) (e : Tr.E) : Prop := w.cell? ⟨b, o, none⟩ = some (.int .i64 e.1) ∧ w.cell? ⟨b, o + 1, none⟩ = some (.int .u16 (e.2.1.1.1 : Int)) ∧ w.cell? ⟨b, o + 2, none⟩ = some (.int .u16 (e.2.1.1.2 : Int)) ∧ w.cell? ⟨b, o + 3, none⟩ = some (.int .i64 e.2.1.2.1) ∧ w.cell? ⟨b, o + 4, none⟩ = some (.int .i64 e.2.1.2.2) ∧ w.cell? ⟨b, o + 5, none⟩ = some (.int .u16 (e.2.2.1.1 : Int)) ∧ w.cell? ⟨b, o + 6, none⟩ = some (.int .u16 (e.2.2.1.2 : Int)) ∧ w.cell? ⟨b, o + 7, none⟩ = some (.int .i64 e.2.2.2.1) ∧ w.cell? ⟨b, o + 8, none⟩ = some (.string e.2.2.2.2)
theorem Ent9.below {w W : World} {b o : Nat} {e : Tr.E} (h : Ent9 w b o e) (hb : Below w.heap.size w W) : Ent9 W b o e := by
  obtain ⟨h0, h1, h2, h3, h4, h5, h6, h7, h8⟩ := h
  exact ⟨cell_on h0 hb, cell_on h1 hb, cell_on h2 hb, cell_on h3 hb, cell_on h4 hb, cell_on h5 hb, cell_on h6 hb, cell_on h7 hb, cell_on h8 hb⟩
def EntsAt (w : World) (A : Option Addr) (l : List Tr.E) : Prop := l = [] ∨ ∃ b off, A = some ⟨b, off, none⟩ ∧ ∀ i (h : i < l.length), Ent9 w b (off + i * 9) l[i]
theorem EntsAt.below {w W : World} {A : Option Addr} {l : List Tr.E} (h : EntsAt w A l) (hb : Below w.heap.size w W) : EntsAt W A l := by
  rcases h with h | ⟨b, off, h1, h2⟩
  · exact .inl h
  · exact .inr ⟨b, off, h1, fun i hi => (h2 i hi).below hb⟩
theorem neqE_run {a : Act} {o : Oper} {X Y : Operand} (x y : Tr.E) (ho : o.op = .binOp .neq 79 X Y 79) (hx : a.eval X = trV x) (hy : a.eval Y = trV y) (W : World) : (execOp a.eval o).run Tryd.prog W = .ok (.value (.bool (!decide (x = y)))) W := by
  obtain ⟨at1, ⟨⟨a1, a2⟩, k1, n1⟩, ⟨l1, l2⟩, e1, d1⟩ := x
  obtain ⟨at2, ⟨⟨b1, b2⟩, k2, n2⟩, ⟨m1, m2⟩, e2, d2⟩ := y
  unfold execOp
  simp only [ho, hx, hy]
  by_cases h0 : at1 = at2
  · subst h0
    by_cases h1 : (a1 : Int) = (b1 : Int)
    · obtain rfl : a1 = b1 := by omega
      by_cases h2 : (a2 : Int) = (b2 : Int)
      · obtain rfl : a2 = b2 := by omega
        by_cases h3 : k1 = k2
        · subst h3
          by_cases h4 : n1 = n2
          · subst h4
            by_cases h5 : (l1 : Int) = (m1 : Int)
            · obtain rfl : l1 = m1 := by omega
              by_cases h6 : (l2 : Int) = (m2 : Int)
              · obtain rfl : l2 = m2 := by omega
                by_cases h7 : e1 = e2
                · subst h7
                  by_cases h8 : d1 = d2
                  · subst h8; go_simp
                  · have h9 : (d1.toList == d2.toList) = false := (Lib.bytes_beq_false_iff _ _).2 h8
                    go_simp
                · go_simp
              · have h6' : ¬ l2 = m2 := by omega
                go_simp
            · have h5' : ¬ l1 = m1 := by omega
              go_simp
          · go_simp
        · go_simp
      · have h2' : ¬ a2 = b2 := by omega
        go_simp
    · have h1' : ¬ a1 = b1 := by omega
      go_simp
  · go_simp
set_option maxRecDepth 100000 in
set_option maxHeartbeats 2000000 in
theorem sliceequal_ok (A B : Option Addr) (ca cb : Nat) (l m : List Tr.E) (hl : l.length ≤ 1000000000) (hm : m.length ≤ 1000000000) (w : World) (hA : EntsAt w A l) (hB : EntsAt w B m) :
    Calls Tryd.prog 58 #[.slice A l.length ca, .slice B m.length cb] w fun e w' => e = .returned (.bool (decide (l = m))) ∧ Below w.heap.size w w' := by
  by_cases hlen : l.length = m.length
  · have HA := Lib.hid hA
    have HB := Lib.hid hB
    have HL := Lib.hid hlen
    have hne : ((l.length : Int) != (m.length : Int)) = false := by simp [hlen]
    obtain ⟨n, hn⟩ : ∃ n, n = l.length := ⟨_, rfl⟩
    have hnm : m.length = n := by omega
    rw [hnm, ← hn] at hne ⊢
    have HNL := Lib.hid hn
    have hnn : n ≤ 1000000000 := by omega
    have HNM := Lib.hid hnm
    clear hA hB hlen hl hm hn hnm
    go_enter Tryd.func58, Tryd.ntmps58
    go_wp2_with fail
    go_loopw [13] (fun i wr => ∃ (k : Nat), i = .int .i64 (k : Int) ∧ k ≤ n ∧ Hid (l.take k = m.take k) ∧ Hid (Below w.heap.size w wr)) (fun i _ => n - (intOf i).toNat)
    case atStart => exact ⟨0, rfl, Nat.zero_le _, Lib.hid rfl, Lib.hid (Below.refl _ _)⟩
    case round =>
      obtain ⟨k, rfl, hk, hT, hW⟩ := hrel
      by_cases hkn : k = n
      · subst hkn
        have hd : decide (l = m) = true := by
          have h := hT.out
          rw [List.take_of_length_le (Nat.le_of_eq HNL.out.symm), List.take_of_length_le (Nat.le_of_eq HNM.out)] at h
          simpa using h
        have HD := Lib.hid hd
        clear hd
        go_wp2_with fail
        go_ret
        exact ⟨by rw [HD.out]; rfl, hW.out⟩
      · have hlt : k < n := by omega
        have hki : (k : Int) < (n : Int) := by omega
        have hkl : k < l.length := by rw [← HNL.out]; exact hlt
        have hkm : k < m.length := by rw [HNM.out]; exact hlt
        obtain ⟨b, off, rfl, e0⟩ : ∃ b off, A = some ⟨b, off, none⟩ ∧ Ent9 wr b (off + k * 9) l[k] := by
          rcases HA.out.below hW.out with h | ⟨b, off, h1, h2⟩
          · rw [h] at hkl; simp at hkl
          · exact ⟨b, off, h1, h2 k hkl⟩
        obtain ⟨b', off', rfl, f0⟩ : ∃ b off, B = some ⟨b, off, none⟩ ∧ Ent9 wr b (off + k * 9) m[k] := by
          rcases HB.out.below hW.out with h | ⟨b, off, h1, h2⟩
          · rw [h] at hkm; simp at hkm
          · exact ⟨b, off, h1, h2 k hkm⟩
        have hnx : l[k] = m[k] → l.take (k + 1) = m.take (k + 1) := fun h => by
          rw [List.take_succ_eq_append_getElem hkl, List.take_succ_eq_append_getElem hkm, hT.out, h]
        have hno : l[k] ≠ m[k] → decide (l = m) = false := fun h => by
          rw [decide_eq_false_iff_not]; intro h1; subst h1; exact h rfl
        have HNX := Lib.hid hnx
        have HNO := Lib.hid hno
        clear hnx hno hkn
        generalize l[k] = x at e0 HNX HNO
        generalize m[k] = y at f0 HNX HNO
        clear hkl hkm
        have HE : Hid (∀ (a : Act) (o : Oper) (X Y : Operand), o.op = .binOp .neq 79 X Y 79 → a.eval X = trV x → a.eval Y = trV y → ∀ W : World, (execOp a.eval o).run Tryd.prog W = .ok (.value (.bool (!decide (x = y)))) W) := Lib.hid (fun a o X Y h1 h2 h3 W => neqE_run x y h1 h2 h3 W)
        have e1 := e0
        obtain ⟨a0, a1, a2, a3, a4, a5, a6, a7, a8⟩ := e1
        have f1 := f0
        obtain ⟨d0, d1, d2, d3, d4, d5, d6, d7, d8⟩ := f1
        have hlb : b < wr.heap.size := World.block_lt_of_cell? wr _ a0
        have hlb' : b' < wr.heap.size := World.block_lt_of_cell? wr _ d0
        clear e0 f0
        go_wp2_with fail
        refine wp_region_over (by kernel_rfl) (by kernel_rfl) ?_
        repeat (first
          | go_big_quiet_step (fail)
          | (go_big_quiet_want; refine quiet_value (.bool (!decide (x = y))) (fun W' _ => HE.out _ _ _ _ rfl rfl rfl W') ?_; simp only [Act.put, List.setIfInBounds_toArray, List.set_cons_succ, List.set_cons_zero]; rename_i K hK; refine hK _ ?_; clear hK K))
        refine wpQuiet_nil ?_
        intro W7 hW7
        have HB7 := Lib.hid (below_here hW.out (below_of_over hW7))
        clear hW7 HE
        by_cases hxy : x = y
        · have hb : decide (x = y) = true := by simpa using hxy
          have HN := Lib.hid (HNX.out hxy)
          clear hxy
          rw [hb]
          go_wp2_with fail
          go_roundw
          case rel => exact ⟨k + 1, by go_num, by omega, HN, HB7⟩
          case measure => simp [intOf]; omega
        · have hb : decide (x = y) = false := by simpa using hxy
          have HN := Lib.hid (HNO.out hxy)
          clear hxy
          rw [hb]
          go_wp2_with fail
          go_ret
          exact ⟨by rw [HN.out]; rfl, HB7.out⟩
  · have hd : decide (l = m) = false := by rw [decide_eq_false_iff_not]; intro h; exact hlen (by rw [h])
    have hne : ¬ (l.length : Int) = (m.length : Int) := by omega
    rw [hd]
    clear hA hB hlen hd
    go_enter Tryd.func58, Tryd.ntmps58
    go_wp2_with fail
    go_ret
    exact ⟨rfl, Below.refl _ _⟩
theorem same_ok (A B : Option Addr) (ca cb : Nat) (l m : List Tr.E) (hl : l.length ≤ 1000000000) (hm : m.length ≤ 1000000000) (w : World) (hA : EntsAt w A l) (hB : EntsAt w B m) :
    Calls Tryd.prog 34 #[.slice A l.length ca, .slice B m.length cb] w fun e w' => e = .returned (.bool (decide (l = m))) ∧ Below w.heap.size w w' := by
  have HS := Lib.hid (sliceequal_ok A B ca cb l m hl hm w hA hB)
  generalize l.length = n1 at HS ⊢
  generalize m.length = n2 at HS ⊢
  generalize decide (l = m) = d at HS ⊢
  clear hA hB hl hm
  go_enter Tryd.func34, Tryd.ntmps34
  go_wp2_with fail
  refine HS.out.mono ?_
  rintro r w1 ⟨rfl, hb1⟩
  go_wp2_with fail
  go_ret
  exact ⟨rfl, hb1⟩
end Go.Proofs.YtdjndnoiankicaaDoor
namespace Go.Proofs.YtdjndnoiankicaaDoor
open Go.RowKit Go.Shelf
set_option linter.unusedSimpArgs false
set_option linter.unusedVariables false
attribute [local go_sem] cell_over frozen_over

def Ev10 (w : World) (b o : Nat) (e : Tr.Ev) : Prop := w.cell? ⟨b, o, none⟩ = some (.int .i64 e.kind) ∧ w.cell? ⟨b, o + 1, none⟩ = some (.int .u16 (e.src.1 : Int)) ∧ w.cell? ⟨b, o + 2, none⟩ = some (.int .u16 (e.src.2 : Int)) ∧ w.cell? ⟨b, o + 3, none⟩ = some (.int .u16 (e.dst.1 : Int)) ∧ w.cell? ⟨b, o + 4, none⟩ = some (.int .u16 (e.dst.2 : Int)) ∧ w.cell? ⟨b, o + 5, none⟩ = some (.int .i64 e.epoch) ∧ w.cell? ⟨b, o + 6, none⟩ = some (.int .i64 e.role) ∧ w.cell? ⟨b, o + 7, none⟩ = some (.int .u16 (e.under.1 : Int)) ∧ w.cell? ⟨b, o + 8, none⟩ = some (.int .u16 (e.under.2 : Int)) ∧ w.cell? ⟨b, o + 9, none⟩ = some (.int .u16 (e.used : Int))
theorem Ev10.below {w W : World} {b o : Nat} {e : Tr.Ev} (h : Ev10 w b o e) (hb : Below w.heap.size w W) : Ev10 W b o e := by
  obtain ⟨h0, h1, h2, h3, h4, h5, h6, h7, h8, h9⟩ := h
  exact ⟨cell_on h0 hb, cell_on h1 hb, cell_on h2 hb, cell_on h3 hb, cell_on h4 hb, cell_on h5 hb, cell_on h6 hb, cell_on h7 hb, cell_on h8 hb, cell_on h9 hb⟩
def EvsAt (w : World) (A : Option Addr) (l : List Tr.Ev) : Prop := l = [] ∨ ∃ b off, A = some ⟨b, off, none⟩ ∧ ∀ i (h : i < l.length), Ev10 w b (off + i * 10) l[i]
theorem EvsAt.below {w W : World} {A : Option Addr} {l : List Tr.Ev} (h : EvsAt w A l) (hb : Below w.heap.size w W) : EvsAt W A l := by
  rcases h with h | ⟨b, off, h1, h2⟩
  · exact .inl h
  · exact .inr ⟨b, off, h1, fun i hi => (h2 i hi).below hb⟩
set_option maxRecDepth 100000 in
set_option maxHeartbeats 1000000 in
theorem crossedf_ok (e : Tr.Ev) (he : e.ok) (p : Nat) (l : Lab.L) (hl : Lab.ok l) (w : World) (hp : LabIn p l w) : Calls Tryd.prog 60 #[evV e, .pointer (some ⟨p, 0, none⟩)] w fun r w' => r = .returned (.bool (Tr.crosses e l)) ∧ Below w.heap.size w w' := by
  have HC := Lib.hid (fun w => crosses_ok e he l hl w)
  generalize Tr.crosses e l = d at HC
  obtain ⟨c1, c2, c3, c4⟩ := pair_cells hp
  have hlt : p < w.heap.size := World.block_lt_of_cell? w _ c1
  obtain ⟨kd, ⟨s1, s2⟩, ⟨d1, d2⟩, ep, rl, ⟨u1, u2⟩, us⟩ := e
  clear he hl hp
  go_enter Tryd.func60, Tryd.ntmps60
  go_wp2_with fail
  refine (HC.out _).mono ?_
  rintro r w1 ⟨rfl, hb1⟩
  go_wp2_with fail
  go_ret
  exact ⟨rfl, below_here (below_fresh _ _) hb1⟩
abbrev crF (p : Nat) : Value := .func (.func 60) #[] #[.pointer (some ⟨p, 0, none⟩)]
set_option maxRecDepth 100000 in
set_option maxHeartbeats 2000000 in
theorem indexcr_ok (A : Option Addr) (c : Nat) (l : List Tr.Ev) (hlen : l.length ≤ 1000000000) (hok : ∀ e ∈ l, e.ok) (p : Nat) (b : Lab.L) (hb : Lab.ok b) (w : World) (hA : EvsAt w A l) (hp : LabIn p b w) :
    Calls Tryd.prog 84 #[.slice A l.length c, crF p] w fun e w' => ∃ r : Int, e = .returned (.int .i64 r) ∧ decide (0 ≤ r) = (l.any fun e => Tr.crosses e b) ∧ Below w.heap.size w w' := by
  have HA := Lib.hid hA
  have HP := Lib.hid hp
  have HOK := Lib.hid hok
  obtain ⟨n, hn⟩ : ∃ n, n = l.length := ⟨_, rfl⟩
  rw [← hn] at hlen ⊢
  have HN := Lib.hid hn
  clear hA hp hok hn
  go_enter Tryd.func84, Tryd.ntmps84
  go_wp2_with fail
  go_loopw [8] (fun i wr => ∃ (k : Nat), i = .int .i64 (k : Int) ∧ k ≤ n ∧ Hid (((l.take k).any fun e => Tr.crosses e b) = false) ∧ Hid (Below w.heap.size w wr)) (fun i _ => n - (intOf i).toNat)
  case atStart => exact ⟨0, rfl, Nat.zero_le _, Lib.hid rfl, Lib.hid (Below.refl _ _)⟩
  case round =>
    obtain ⟨k, rfl, hk, hT, hW⟩ := hrel
    by_cases hkn : k = n
    · subst hkn
      have hd : (l.any fun e => Tr.crosses e b) = false := by
        have h := hT.out
        rwa [List.take_of_length_le (Nat.le_of_eq HN.out.symm)] at h
      have HD := Lib.hid hd
      clear hd
      go_wp2_with fail
      go_ret
      exact ⟨-1, rfl, by rw [HD.out]; rfl, hW.out⟩
    · have hlt : k < n := by omega
      have hki : (k : Int) < (n : Int) := by omega
      have hkl : k < l.length := by rw [← HN.out]; exact hlt
      obtain ⟨b', off, rfl, e0⟩ : ∃ b off, A = some ⟨b, off, none⟩ ∧ Ev10 wr b (off + k * 10) l[k] := by
        rcases HA.out.below hW.out with h | ⟨b, off, h1, h2⟩
        · rw [h] at hkl; simp at hkl
        · exact ⟨b, off, h1, h2 k hkl⟩
      have HC := Lib.hid (fun w hp => crossedf_ok l[k] (HOK.out _ (List.getElem_mem hkl)) p b hb w hp)
      have hnx : Tr.crosses l[k] b = false → ((l.take (k + 1)).any fun e => Tr.crosses e b) = false := fun h => by
        rw [List.take_succ_eq_append_getElem hkl, List.any_append, hT.out]; simp [h]
      have hyes : Tr.crosses l[k] b = true → (l.any fun e => Tr.crosses e b) = true := fun h => List.any_eq_true.2 ⟨_, List.getElem_mem hkl, h⟩
      have HNX := Lib.hid hnx
      have HY := Lib.hid hyes
      clear hnx hyes hkn
      generalize Tr.crosses l[k] b = d at HC HNX HY
      generalize l[k] = x at e0 HC
      clear hkl
      have e1 := e0
      obtain ⟨a0, a1, a2, a3, a4, a5, a6, a7, a8, a9⟩ := e1
      have hlb : b' < wr.heap.size := World.block_lt_of_cell? wr _ a0
      clear e0
      cases d with
      | false =>
        have HN1 := Lib.hid (HNX.out rfl)
        go_wp2_with fail
        refine (HC.out _ (HP.out.below hW.out)).mono ?_
        rintro r w1 ⟨rfl, hb1⟩
        have HW1 := Lib.hid (below_here hW.out hb1)
        clear hb1
        go_wp2_with fail
        go_roundw
        case rel => exact ⟨k + 1, by go_num, by omega, HN1, HW1⟩
        case measure => simp [intOf]; omega
      | true =>
        have HN1 := Lib.hid (HY.out rfl)
        go_wp2_with fail
        refine (HC.out _ (HP.out.below hW.out)).mono ?_
        rintro r w1 ⟨rfl, hb1⟩
        have HW1 := Lib.hid (below_here hW.out hb1)
        clear hb1
        go_wp2_with fail
        go_ret
        exact ⟨(k : Int), rfl, by rw [HN1.out]; simp, HW1.out⟩
theorem containscr_ok (A : Option Addr) (c : Nat) (l : List Tr.Ev) (hlen : l.length ≤ 1000000000) (hok : ∀ e ∈ l, e.ok) (p : Nat) (b : Lab.L) (hb : Lab.ok b) (w : World) (hA : EvsAt w A l) (hp : LabIn p b w) :
    Calls Tryd.prog 59 #[.slice A l.length c, crF p] w fun e w' => e = .returned (.bool (l.any fun e => Tr.crosses e b)) ∧ Below w.heap.size w w' := by
  have HI := Lib.hid (indexcr_ok A c l hlen hok p b hb w hA hp)
  generalize (l.any fun e => Tr.crosses e b) = d at HI ⊢
  generalize l.length = n at HI ⊢
  clear hA hp hok hlen hb
  go_enter Tryd.func59, Tryd.ntmps59
  go_wp2_with fail
  refine HI.out.mono ?_
  rintro r w1 ⟨x, rfl, hx, hb1⟩
  have HX := Lib.hid hx
  clear hx
  go_wp2_with fail
  go_ret
  exact ⟨by rw [← HX.out]; rfl, hb1⟩
theorem crossed_ok (A : Option Addr) (c : Nat) (l : List Tr.Ev) (hlen : l.length ≤ 1000000000) (hok : ∀ e ∈ l, e.ok) (b : Lab.L) (hb : Lab.ok b) (w : World) (hA : EvsAt w A l) :
    Calls Tryd.prog 36 #[.slice A l.length c, labV b] w fun e w' => e = .returned (.bool (l.any fun e => Tr.crosses e b)) ∧ Below w.heap.size w w' := by
  have HI := Lib.hid (containscr_ok A c l hlen hok w.heap.size b hb _ (hA.below (below_fresh w (.cells #[.int .u16 (b.1 : Int), .int .u16 (b.2 : Int)] 24))) (LabIn.new w b))
  generalize (l.any fun e => Tr.crosses e b) = d at HI ⊢
  generalize l.length = n at HI ⊢
  clear hA hok hlen hb
  go_enter Tryd.func36, Tryd.ntmps36
  go_wp2_with fail
  refine HI.out.mono ?_
  rintro r w1 ⟨rfl, hb1⟩
  go_wp2_with fail
  go_ret
  exact ⟨rfl, below_here (below_fresh _ _) hb1⟩
end Go.Proofs.YtdjndnoiankicaaDoor
namespace Go.Proofs.YtdjndnoiankicaaDoor
open Go.RowKit Go.Shelf
set_option linter.unusedSimpArgs false
set_option linter.unusedVariables false
attribute [local go_sem] cell_over frozen_over

abbrev trC (e : Tr.E) : List Value := [.int .i64 e.1, .int .u16 (e.2.1.1.1 : Int), .int .u16 (e.2.1.1.2 : Int), .int .i64 e.2.1.2.1, .int .i64 e.2.1.2.2, .int .u16 (e.2.2.1.1 : Int), .int .u16 (e.2.2.1.2 : Int), .int .i64 e.2.2.2.1, .string e.2.2.2.2]
def flatE (l : List Tr.E) : List Value := l.flatMap trC
theorem flatE_snoc (l : List Tr.E) (e : Tr.E) : flatE (l ++ [e]) = flatE l ++ trC e := by simp [flatE, List.flatMap_append]
theorem flatE_len : ∀ l : List Tr.E, (flatE l).length = l.length * 9
  | [] => rfl
  | e :: l => by
    have := flatE_len l
    unfold flatE at this ⊢
    rw [List.flatMap_cons, List.length_append, this]; simp; omega
theorem flatE_at : ∀ (l : List Tr.E) (i j : Nat) (h : i < l.length), j < 9 → (flatE l)[i * 9 + j]? = (trC l[i])[j]?
  | [], _, _, h, _ => by simp at h
  | e :: l, 0, j, _, hj => by
    unfold flatE
    rw [List.flatMap_cons, Nat.zero_mul, Nat.zero_add, List.getElem?_append_left (by simpa using hj)]
    rfl
  | e :: l, i + 1, j, h, hj => by
    have ih := flatE_at l i j (by simpa using h) hj
    unfold flatE at ih ⊢
    rw [List.flatMap_cons, List.getElem?_append_right (by simp; omega)]
    rw [show (i + 1) * 9 + j - (trC e).length = i * 9 + j by simp; omega, ih]
    rfl
theorem ents_of_own {w : World} {B n : Nat} {t : TypeId} {v : Value} {l : List Tr.E} (h : w.ownsRow B t 9 v n (flatE l)) : ∃ A cap, v = .slice A l.length cap ∧ EntsAt w A l ∧ n = l.length := by
  have hn : n = l.length := by have := h.1; rw [flatE_len] at this; omega
  rcases h.2 with ⟨rfl, h0⟩ | ⟨g, cap, cur, rfl, _⟩
  · have hl : l = [] := List.length_eq_zero_iff.1 (by omega)
    subst hl
    exact ⟨none, 0, rfl, .inl rfl, hn⟩
  · refine ⟨some ⟨g, 0, none⟩, cap, by rw [hn], .inr ⟨g, 0, rfl, fun i hi => ?_⟩, hn⟩
    have hc : ∀ j u, j < 9 → (trC l[i])[j]? = some u → w.cell? ⟨g, 0 + i * 9 + j, none⟩ = some u := fun j u hj hu => by
      have := h.cells (g := g) rfl (i * 9 + j) u (by rw [flatE_at l i j hi hj]; exact hu)
      rw [addr_mid] at this
      rw [show 0 + i * 9 + j = 0 + (i * 9 + j) by omega]; exact this
    exact ⟨hc 0 _ (by omega) rfl, hc 1 _ (by omega) rfl, hc 2 _ (by omega) rfl, hc 3 _ (by omega) rfl, hc 4 _ (by omega) rfl, hc 5 _ (by omega) rfl, hc 6 _ (by omega) rfl, hc 7 _ (by omega) rfl, hc 8 _ (by omega) rfl⟩
theorem info_tre : (Tryd.prog.info? 79).map (fun i => (i.zero, i.size, i.bytes)) = some (some (.agg #[.int .i64 0, .int .u16 0, .int .u16 0, .int .i64 0, .int .i64 0, .int .u16 0, .int .u16 0, .int .i64 0, .string ⟨#[]⟩]), 9, 64) := by kernel_rfl
theorem news_nine {w : World} {g : Nat} {C : List Value} {t : TypeId} (h : w.heap[g]? = some (.cells C.toArray t (0, 0))) : ∀ j u, C[j]? = some u → w.cell? ((⟨g, 0, none⟩ : Addr).add j) = some u := news_block h
set_option maxRecDepth 100000 in
set_option maxHeartbeats 2000000 in
theorem entries_ok (A : Option Addr) (c : Nat) (l : List Tr.E) (hlen : l.length ≤ 1000000) (w : World) (hA : EntsAt w A l) :
    Calls Tryd.prog 30 #[.slice A l.length c] w fun e w' => ∃ v, e = .returned v ∧ w'.ownsRow w.heap.size 79 9 v l.length (flatE l) ∧ Below w.heap.size w w' := by
  have HA := Lib.hid hA
  obtain ⟨n, hn⟩ : ∃ n, n = l.length := ⟨_, rfl⟩
  rw [← hn] at hlen ⊢
  have HN := Lib.hid hn
  obtain ⟨i0, hi, hz0, hz1, hz2⟩ := info_parts info_tre
  clear hA hn
  go_enter Tryd.func30, Tryd.ntmps30
  go_wp2_with fail
  go_loopw [3, 4] (fun v i wr => ∃ (k : Nat), i = .int .i64 (k : Int) ∧ k ≤ n ∧ Hid (wr.ownsRow w.heap.size 79 9 v k (flatE (l.take k))) ∧ Hid (Below w.heap.size w wr)) (fun _ i _ => n - (intOf i).toNat)
  case atStart => exact ⟨0, rfl, Nat.zero_le _, Lib.hid (World.ownsRow_nil _ _ _ _), Lib.hid (Below.refl _ _)⟩
  case round =>
    obtain ⟨k, rfl, hk, hO, hW⟩ := hrel
    by_cases hkn : k = n
    · subst hkn
      have ho := hO.out
      rw [List.take_of_length_le (Nat.le_of_eq HN.out.symm)] at ho
      have HO := Lib.hid ho
      clear ho hO
      go_wp2_with fail
      go_ret
      exact ⟨_, rfl, HO.out, hW.out⟩
    · have hlt : k < n := by omega
      have hki : (k : Int) < (n : Int) := by omega
      have hkl : k < l.length := by rw [← HN.out]; exact hlt
      obtain ⟨b', off, rfl, e0⟩ : ∃ b off, A = some ⟨b, off, none⟩ ∧ Ent9 wr b (off + k * 9) l[k] := by
        rcases HA.out.below hW.out with h | ⟨b, off, h1, h2⟩
        · rw [h] at hkl; simp at hkl
        · exact ⟨b, off, h1, h2 k hkl⟩
      have HS : Hid (flatE (l.take (k + 1)) = flatE (l.take k) ++ trC l[k]) := Lib.hid (by rw [List.take_succ_eq_append_getElem hkl, flatE_snoc])
      generalize l[k] = x at e0 HS
      obtain ⟨at', ⟨⟨x1, x2⟩, x3, x4⟩, ⟨y1, y2⟩, er, da⟩ := x
      have e1 := e0
      obtain ⟨a0, a1, a2, a3, a4, a5, a6, a7, a8⟩ := e1
      have hlb : b' < wr.heap.size := World.block_lt_of_cell? wr _ a0
      have hbz := hW.out.size
      have HO9 := Lib.hid (own_below hO.out (below_fresh wr (.cells #[.int .i64 at', .int .u16 (x1 : Int), .int .u16 (x2 : Int), .int .i64 x3, .int .i64 x4, .int .u16 (y1 : Int), .int .u16 (y2 : Int), .int .i64 er, .string da] 79)))
      generalize flatE (l.take k) = cs at HS HO9
      clear e0 hkl hkn hO
      go_wp2_with (at_builtin; refine wpList_append_own _ rfl (.tmp 11) (.tmp 16) 44 rfl w.heap.size 79 i0 _ 9 64 Tryd.underlying44 hi hz0 hz1 hz2 rfl (by decide) u3 k cs (by simp [Act.eval, Act.put]) HO9.out ⟨wr.heap.size, 0, none⟩ 1 1 [.int .i64 at', .int .u16 (x1 : Int), .int .u16 (x2 : Int), .int .i64 x3, .int .i64 x4, .int .u16 (y1 : Int), .int .u16 (y2 : Int), .int .i64 er, .string da] (by simp [Act.eval, Act.put]) rfl (news_block (heap_alloc_new wr _)) (by simp [Value.oneCell']) (by unfold maxLen; omega) (by omega) (by simp; omega) ?_; intro v' w2 hown' hgrow _; have HOW := Lib.hid hown'; have HG := Lib.hid hgrow; clear hown' hgrow)
      have hb2 : Below w.heap.size w w2 := (below_new hW.out (.cells #[.int .i64 at', .int .u16 (x1 : Int), .int .u16 (x2 : Int), .int .i64 x3, .int .i64 x4, .int .u16 (y1 : Int), .int .u16 (y2 : Int), .int .i64 er, .string da] 79)).grown HG.out (by simp; omega) (fun k h => (HO9.out.lt k h).1)
      have HB2 := Lib.hid hb2
      clear hb2
      go_wp2_with fail
      go_roundw
      case rel => exact ⟨k + 1, by go_num, by omega, by rw [HS.out]; exact HOW, HB2⟩
      case measure => simp [intOf]; omega
end Go.Proofs.YtdjndnoiankicaaDoor
namespace Go.Proofs.YtdjndnoiankicaaDoor
open Go.RowKit Go.Shelf
set_option linter.unusedSimpArgs false
set_option linter.unusedVariables false
attribute [local go_sem] cell_over frozen_over

set_option maxRecDepth 100000 in
set_option maxHeartbeats 1000000 in
theorem rcrosses_ok (e : Tr.Ev) (he : e.ok) (l : Lab.L) (hl : Lab.ok l) (w : World) : Calls Tryd.prog 31 #[evV e, labV l] w fun r w' => r = .returned (.bool (Tr.crosses e l)) ∧ Below w.heap.size w w' := by
  obtain ⟨h1, h2, h3, h4⟩ := he
  have F1 := Lib.hid (fun w => rflows_ok e.src l h1 hl w)
  have F2 := Lib.hid (fun w => rflows_ok e.dst l h2 hl w)
  have HC : Hid (Tr.crosses e l = (decide (e.used ≠ 0) && !Lab.flows e.src l && Lab.flows e.dst l)) := Lib.hid rfl
  obtain ⟨kd, ⟨s1, s2⟩, ⟨d1, d2⟩, ep, rl, ⟨u1, u2⟩, us⟩ := e
  simp only at F1 F2 HC
  generalize Lab.flows (s1, s2) l = x at F1 HC
  generalize Lab.flows (d1, d2) l = y at F2 HC
  have HB0 := Lib.hid (below_new (below_fresh w (.cells #[.int .i64 kd, .int .u16 (s1 : Int), .int .u16 (s2 : Int), .int .u16 (d1 : Int), .int .u16 (d2 : Int), .int .i64 ep, .int .i64 rl, .int .u16 (u1 : Int), .int .u16 (u2 : Int), .int .u16 (us : Int)] 48)) (.cells #[.int .u16 (l.1 : Int), .int .u16 (l.2 : Int)] 24))
  clear h1 h2 h3 h4 hl
  by_cases hu : us = 0
  · subst hu
    go_enter Tryd.func31, Tryd.ntmps31
    go_wp2_with fail
    go_ret
    exact ⟨by rw [HC.out]; rfl, HB0.out⟩
  · have hu' : ¬ (us : Int) = 0 := by omega
    have hu2 : (0 : Int) < (us : Int) := by omega
    have hu3 : decide ((0 : Int) < (us : Int)) = true := by simpa using hu2
    have hd : decide (us ≠ 0) = true := by simpa using hu
    rw [hd] at HC
    clear hd
    cases x with
    | true =>
      go_enter Tryd.func31, Tryd.ntmps31
      go_wp2_with fail
      refine (F1.out _).mono ?_
      rintro r w1 ⟨rfl, hb1⟩
      obtain ⟨hc, hf⟩ := bcell hb1
      go_wp2_with fail
      go_ret
      exact ⟨by rw [HC.out]; rfl, below_here HB0.out hb1⟩
    | false =>
      go_enter Tryd.func31, Tryd.ntmps31
      go_wp2_with fail
      refine (F1.out _).mono ?_
      rintro r w1 ⟨rfl, hb1⟩
      obtain ⟨hc, hf⟩ := bcell hb1
      go_wp2_with fail
      refine (F2.out _).mono ?_
      rintro r w2 ⟨rfl, hb2⟩
      go_wp2_with fail
      go_ret
      exact ⟨by rw [HC.out]; rfl, below_here (below_here HB0.out hb1) hb2⟩
theorem neqR_run {a : Act} {o : Oper} {X Y : Operand} (x y : Tr.E) (ho : o.op = .binOp .neq 83 X Y 83) (hx : a.eval X = trV x) (hy : a.eval Y = trV y) (W : World) : (execOp a.eval o).run Tryd.prog W = .ok (.value (.bool (!decide (x = y)))) W := by
  obtain ⟨at1, ⟨⟨a1, a2⟩, k1, n1⟩, ⟨l1, l2⟩, e1, d1⟩ := x
  obtain ⟨at2, ⟨⟨b1, b2⟩, k2, n2⟩, ⟨m1, m2⟩, e2, d2⟩ := y
  unfold execOp
  simp only [ho, hx, hy]
  by_cases h0 : at1 = at2
  · subst h0
    by_cases h1 : (a1 : Int) = (b1 : Int)
    · obtain rfl : a1 = b1 := by omega
      by_cases h2 : (a2 : Int) = (b2 : Int)
      · obtain rfl : a2 = b2 := by omega
        by_cases h3 : k1 = k2
        · subst h3
          by_cases h4 : n1 = n2
          · subst h4
            by_cases h5 : (l1 : Int) = (m1 : Int)
            · obtain rfl : l1 = m1 := by omega
              by_cases h6 : (l2 : Int) = (m2 : Int)
              · obtain rfl : l2 = m2 := by omega
                by_cases h7 : e1 = e2
                · subst h7
                  by_cases h8 : d1 = d2
                  · subst h8; go_simp
                  · have h9 : (d1.toList == d2.toList) = false := (Lib.bytes_beq_false_iff _ _).2 h8
                    go_simp
                · go_simp
              · have h6' : ¬ l2 = m2 := by omega
                go_simp
            · have h5' : ¬ l1 = m1 := by omega
              go_simp
          · go_simp
        · go_simp
      · have h2' : ¬ a2 = b2 := by omega
        go_simp
    · have h1' : ¬ a1 = b1 := by omega
      go_simp
  · go_simp
set_option maxRecDepth 100000 in
set_option maxHeartbeats 2000000 in
theorem rsame_ok (A B : Option Addr) (ca cb : Nat) (l m : List Tr.E) (hl : l.length ≤ 1000000000) (hm : m.length ≤ 1000000000) (w : World) (hA : EntsAt w A l) (hB : EntsAt w B m) :
    Calls Tryd.prog 37 #[.slice A l.length ca, .slice B m.length cb] w fun e w' => e = .returned (.bool (decide (l = m))) ∧ Below w.heap.size w w' := by
  by_cases hlen : l.length = m.length
  · have HA := Lib.hid hA
    have HB := Lib.hid hB
    have HL := Lib.hid hlen
    have hne : ((l.length : Int) != (m.length : Int)) = false := by simp [hlen]
    obtain ⟨n, hn⟩ : ∃ n, n = l.length := ⟨_, rfl⟩
    have hnm : m.length = n := by omega
    rw [hnm, ← hn] at hne ⊢
    have HNL := Lib.hid hn
    have hnn : n ≤ 1000000000 := by omega
    have HNM := Lib.hid hnm
    clear hA hB hlen hl hm hn hnm
    go_enter Tryd.func37, Tryd.ntmps37
    go_wp2_with fail
    go_loopw [5] (fun i wr => ∃ (k : Nat), i = .int .i64 (k : Int) ∧ k ≤ n ∧ Hid (l.take k = m.take k) ∧ Hid (Below w.heap.size w wr)) (fun i _ => n - (intOf i).toNat)
    case atStart => exact ⟨0, rfl, Nat.zero_le _, Lib.hid rfl, Lib.hid (Below.refl _ _)⟩
    case round =>
      obtain ⟨k, rfl, hk, hT, hW⟩ := hrel
      by_cases hkn : k = n
      · subst hkn
        have hd : decide (l = m) = true := by
          have h := hT.out
          rw [List.take_of_length_le (Nat.le_of_eq HNL.out.symm), List.take_of_length_le (Nat.le_of_eq HNM.out)] at h
          simpa using h
        have HD := Lib.hid hd
        clear hd
        go_wp2_with fail
        go_ret
        exact ⟨by rw [HD.out]; rfl, hW.out⟩
      · have hlt : k < n := by omega
        have hki : (k : Int) < (n : Int) := by omega
        have hkl : k < l.length := by rw [← HNL.out]; exact hlt
        have hkm : k < m.length := by rw [HNM.out]; exact hlt
        obtain ⟨b, off, rfl, e0⟩ : ∃ b off, A = some ⟨b, off, none⟩ ∧ Ent9 wr b (off + k * 9) l[k] := by
          rcases HA.out.below hW.out with h | ⟨b, off, h1, h2⟩
          · rw [h] at hkl; simp at hkl
          · exact ⟨b, off, h1, h2 k hkl⟩
        obtain ⟨b', off', rfl, f0⟩ : ∃ b off, B = some ⟨b, off, none⟩ ∧ Ent9 wr b (off + k * 9) m[k] := by
          rcases HB.out.below hW.out with h | ⟨b, off, h1, h2⟩
          · rw [h] at hkm; simp at hkm
          · exact ⟨b, off, h1, h2 k hkm⟩
        have hnx : l[k] = m[k] → l.take (k + 1) = m.take (k + 1) := fun h => by
          rw [List.take_succ_eq_append_getElem hkl, List.take_succ_eq_append_getElem hkm, hT.out, h]
        have hno : l[k] ≠ m[k] → decide (l = m) = false := fun h => by
          rw [decide_eq_false_iff_not]; intro h1; subst h1; exact h rfl
        have HNX := Lib.hid hnx
        have HNO := Lib.hid hno
        clear hnx hno hkn
        generalize l[k] = x at e0 HNX HNO
        generalize m[k] = y at f0 HNX HNO
        clear hkl hkm
        have HE : Hid (∀ (a : Act) (o : Oper) (X Y : Operand), o.op = .binOp .neq 83 X Y 83 → a.eval X = trV x → a.eval Y = trV y → ∀ W : World, (execOp a.eval o).run Tryd.prog W = .ok (.value (.bool (!decide (x = y)))) W) := Lib.hid (fun a o X Y h1 h2 h3 W => neqR_run x y h1 h2 h3 W)
        have e1 := e0
        obtain ⟨a0, a1, a2, a3, a4, a5, a6, a7, a8⟩ := e1
        have f1 := f0
        obtain ⟨d0, d1, d2, d3, d4, d5, d6, d7, d8⟩ := f1
        have hlb : b < wr.heap.size := World.block_lt_of_cell? wr _ a0
        have hlb' : b' < wr.heap.size := World.block_lt_of_cell? wr _ d0
        clear e0 f0
        go_wp2_with fail
        refine wp_region_over (by kernel_rfl) (by kernel_rfl) ?_
        repeat (first
          | go_big_quiet_step (fail)
          | (go_big_quiet_want; refine quiet_value (.bool (!decide (x = y))) (fun W' _ => HE.out _ _ _ _ rfl rfl rfl W') ?_; simp only [Act.put, List.setIfInBounds_toArray, List.set_cons_succ, List.set_cons_zero]; rename_i K hK; refine hK _ ?_; clear hK K))
        refine wpQuiet_nil ?_
        intro W7 hW7
        have HB7 := Lib.hid (below_here hW.out (below_of_over hW7))
        clear hW7 HE
        by_cases hxy : x = y
        · have hb : decide (x = y) = true := by simpa using hxy
          have HN := Lib.hid (HNX.out hxy)
          clear hxy
          rw [hb]
          go_wp2_with fail
          go_roundw
          case rel => exact ⟨k + 1, by go_num, by omega, HN, HB7⟩
          case measure => simp [intOf]; omega
        · have hb : decide (x = y) = false := by simpa using hxy
          have HN := Lib.hid (HNO.out hxy)
          clear hxy
          rw [hb]
          go_wp2_with fail
          go_ret
          exact ⟨by rw [HN.out]; rfl, HB7.out⟩
  · have hd : decide (l = m) = false := by rw [decide_eq_false_iff_not]; intro h; exact hlen (by rw [h])
    have hne : ¬ (l.length : Int) = (m.length : Int) := by omega
    rw [hd]
    clear hA hB hlen hd
    go_enter Tryd.func37, Tryd.ntmps37
    go_wp2_with fail
    go_ret
    exact ⟨rfl, Below.refl _ _⟩
end Go.Proofs.YtdjndnoiankicaaDoor
namespace Go.Proofs.YtdjndnoiankicaaDoor
open Go.RowKit Go.Shelf
set_option linter.unusedSimpArgs false
set_option linter.unusedVariables false
attribute [local go_sem] cell_over frozen_over

def Tr.seen (l : List Tr.E) (b : Lab.L) : List Tr.E := l.filter fun e => Lab.flows e.2.2.1 b
theorem Tr.seen_snoc (l : List Tr.E) (b : Lab.L) (e : Tr.E) : Tr.seen (l ++ [e]) b = Tr.seen l b ++ if Lab.flows e.2.2.1 b then [e] else [] := by
  unfold Tr.seen; rw [List.filter_append]; simp only [List.filter_cons, List.filter_nil]
theorem info_rre : (Tryd.prog.info? 83).map (fun i => (i.zero, i.size, i.bytes)) = some (some (.agg #[.int .i64 0, .int .u16 0, .int .u16 0, .int .i64 0, .int .i64 0, .int .u16 0, .int .u16 0, .int .i64 0, .string ⟨#[]⟩]), 9, 64) := by kernel_rfl
set_option maxRecDepth 100000 in
set_option maxHeartbeats 2000000 in
theorem rseen_ok (A : Option Addr) (c : Nat) (l : List Tr.E) (hlen : l.length ≤ 1000000) (hok : ∀ e ∈ l, Lab.ok e.2.2.1) (b : Lab.L) (hb : Lab.ok b) (w : World) (hA : EntsAt w A l) :
    Calls Tryd.prog 35 #[.slice A l.length c, labV b] w fun e w' => ∃ v, e = .returned v ∧ w'.ownsRow w.heap.size 83 9 v (Tr.seen l b).length (flatE (Tr.seen l b)) ∧ Below w.heap.size w w' := by
  have HA := Lib.hid hA
  have HOK := Lib.hid hok
  have HF := Lib.hid (fun e (h : Lab.ok e) w => rflows_ok e b h hb w)
  have HL0 := Lib.hid (LabIn.new w b)
  have HB0 := Lib.hid (below_fresh w (.cells #[.int .u16 (b.1 : Int), .int .u16 (b.2 : Int)] 24))
  obtain ⟨n, hn⟩ : ∃ n, n = l.length := ⟨_, rfl⟩
  rw [← hn] at hlen ⊢
  have HN := Lib.hid hn
  obtain ⟨i0, hi, hz0, hz1, hz2⟩ := info_parts info_rre
  clear hA hn hok hb
  go_enter Tryd.func35, Tryd.ntmps35
  go_wp2_with fail
  go_loopw [5, 6] (fun v i wr => ∃ (k : Nat), i = .int .i64 (k : Int) ∧ k ≤ n ∧ Hid (wr.ownsRow (w.heap.size + 1) 83 9 v (Tr.seen (l.take k) b).length (flatE (Tr.seen (l.take k) b))) ∧ Hid (LabIn w.heap.size b wr) ∧ Hid (Below w.heap.size w wr)) (fun _ i _ => n - (intOf i).toNat)
  case atStart => exact ⟨0, rfl, Nat.zero_le _, Lib.hid (World.ownsRow_nil _ _ _ _), HL0, HB0⟩
  case round =>
    obtain ⟨k, rfl, hk, hO, hL, hW⟩ := hrel
    by_cases hkn : k = n
    · subst hkn
      have ho := hO.out
      rw [List.take_of_length_le (Nat.le_of_eq HN.out.symm)] at ho
      have HO := Lib.hid (own_base ho (Nat.le_succ _))
      clear ho hO
      go_wp2_with fail
      go_ret
      exact ⟨_, rfl, HO.out, hW.out⟩
    · have hlt : k < n := by omega
      have hki : (k : Int) < (n : Int) := by omega
      have hkl : k < l.length := by rw [← HN.out]; exact hlt
      obtain ⟨b', off, rfl, e0⟩ : ∃ b off, A = some ⟨b, off, none⟩ ∧ Ent9 wr b (off + k * 9) l[k] := by
        rcases HA.out.below hW.out with h | ⟨b, off, h1, h2⟩
        · rw [h] at hkl; simp at hkl
        · exact ⟨b, off, h1, h2 k hkl⟩
      have HFK := Lib.hid (HF.out _ (HOK.out _ (List.getElem_mem hkl)))
      have hsn := Tr.seen_snoc (l.take k) b l[k]
      rw [← List.take_succ_eq_append_getElem hkl] at hsn
      have hlen2 : (Tr.seen (l.take k) b).length ≤ 1000000 := by
        have h1 := List.length_filter_le (fun e : Tr.E => Lab.flows e.2.2.1 b) (l.take k)
        have h2 := List.length_take_le k l
        unfold Tr.seen; omega
      have HS := Lib.hid hsn
      clear hsn
      generalize l[k] = x at e0 HS HFK
      generalize Lab.flows x.2.2.1 b = d at HS HFK
      obtain ⟨at', ⟨⟨x1, x2⟩, x3, x4⟩, ⟨y1, y2⟩, er, da⟩ := x
      have e1 := e0
      obtain ⟨a0, a1, a2, a3, a4, a5, a6, a7, a8⟩ := e1
      have a6' : wr.cell? ⟨b', off + k * 9 + 5 + 1, none⟩ = some (.int .u16 (y2 : Int)) := a6
      have hlb : b' < wr.heap.size := World.block_lt_of_cell? wr _ a0
      obtain ⟨c1, c2, c3, c4⟩ := pair_cells hL.out
      have hlp : w.heap.size < wr.heap.size := World.block_lt_of_cell? wr _ c1
      have HE := Lib.hid e0
      clear e0 hkl hkn
      go_wp2_with fail
      refine wp_region_over (by kernel_rfl) (by kernel_rfl) ?_
      repeat (go_big_quiet_step ((go_at_call 12; exact Calls.over_of (HFK.out _))))
      refine wpQuiet_nil ?_
      intro W7 hW7
      have hb7 := below_of_over hW7
      have HW7 := Lib.hid (below_here hW.out hb7)
      have HO7 := Lib.hid (own_below hO.out hb7)
      have HL7 := Lib.hid (hL.out.below hb7)
      have HE7 := Lib.hid (HE.out.below hb7)
      clear hW7 hb7 a0 a1 a2 a3 a4 a5 a6 a7 a8 a6' c1 c2 c3 c4 hlb hlp hO hL hW HE
      cases d with
      | false =>
        have HSS : Hid (Tr.seen (l.take (k + 1)) b = Tr.seen (l.take k) b) := Lib.hid (by rw [HS.out]; simp)
        go_wp2_with fail
        go_roundw
        case rel => exact ⟨k + 1, by go_num, by omega, by rw [HSS.out]; exact HO7, HL7, HW7⟩
        case measure => simp [intOf]; omega
      | true =>
        have HSS : Hid ((Tr.seen (l.take (k + 1)) b).length = (Tr.seen (l.take k) b).length + 1 ∧ flatE (Tr.seen (l.take (k + 1)) b) = flatE (Tr.seen (l.take k) b) ++ trC (at', ((x1, x2), x3, x4), (y1, y2), er, da)) := Lib.hid (by rw [HS.out, if_pos rfl, flatE_snoc]; simp)
        obtain ⟨a0, a1, a2, a3, a4, a5, a6, a7, a8⟩ := HE7.out
        have hbz := HW7.out.size
        have hlp : w.heap.size < W7.heap.size := World.block_lt_of_cell? W7 _ (pair_cells HL7.out).1
        have HO9 := Lib.hid (own_below HO7.out (below_fresh W7 (.cells #[.int .i64 at', .int .u16 (x1 : Int), .int .u16 (x2 : Int), .int .i64 x3, .int .i64 x4, .int .u16 (y1 : Int), .int .u16 (y2 : Int), .int .i64 er, .string da] 83)))
        generalize (Tr.seen (l.take k) b).length = N at HSS HO9 hlen2
        generalize flatE (Tr.seen (l.take k) b) = cs at HSS HO9
        clear HE7 HO7
        go_wp2_with (at_builtin; refine wpList_append_own _ rfl (.tmp 20) (.tmp 25) 42 rfl (w.heap.size + 1) 83 i0 _ 9 64 Tryd.underlying42 hi hz0 hz1 hz2 rfl (by decide) u5 N cs (by simp [Act.eval, Act.put]) HO9.out ⟨W7.heap.size, 0, none⟩ 1 1 [.int .i64 at', .int .u16 (x1 : Int), .int .u16 (x2 : Int), .int .i64 x3, .int .i64 x4, .int .u16 (y1 : Int), .int .u16 (y2 : Int), .int .i64 er, .string da] (by simp [Act.eval, Act.put]) rfl (news_block (heap_alloc_new W7 _)) (by simp [Value.oneCell']) (by unfold maxLen; omega) (by omega) (by simp; omega) ?_; intro v' w2 hown' hgrow _; have HOW := Lib.hid hown'; have HG := Lib.hid hgrow; clear hown' hgrow)
        have hb2 : Below w.heap.size w w2 := (below_new HW7.out (.cells #[.int .i64 at', .int .u16 (x1 : Int), .int .u16 (x2 : Int), .int .i64 x3, .int .i64 x4, .int .u16 (y1 : Int), .int .u16 (y2 : Int), .int .i64 er, .string da] 83)).grown HG.out (by simp; omega) (fun k h => by have := (HO9.out.lt k h).1; omega)
        have HB2 := Lib.hid hb2
        have HL2 : Hid (LabIn w.heap.size b w2) := Lib.hid ((HG.out.block w.heap.size (by simp; omega) (by intro e; have := (HO9.out.lt _ e.symm).1; omega)).trans (block_below (below_fresh W7 _) HL7.out))
        clear hb2 a0 a1 a2 a3 a4 a5 a6 a7 a8
        go_wp2_with fail
        go_roundw
        case rel => exact ⟨k + 1, by go_num, by omega, by rw [HSS.out.1, HSS.out.2]; exact HOW, HL2, HB2⟩
        case measure => simp [intOf]; omega
end Go.Proofs.YtdjndnoiankicaaDoor
namespace Go.Proofs.YtdjndnoiankicaaDoor
open Go.RowKit Go.Shelf
set_option linter.unusedSimpArgs false
set_option linter.unusedVariables false

namespace Tr
theorem seen_twice (l : List E) (a : Lab.L) : seen (seen l a) a = seen l a := by unfold seen; rw [List.filter_filter]; simp
theorem seen_under {a b : Lab.L} (h : Lab.flows a b = true) (l : List E) : seen (seen l b) a = seen l a := by
  unfold seen
  rw [List.filter_filter]
  refine List.filter_congr fun e _ => ?_
  cases h1 : Lab.flows e.2.2.1 a with
  | false => rfl
  | true => rw [Lab.flows_trans h1 h]; rfl
theorem seen_len (l : List E) (a : Lab.L) : (seen l a).length ≤ l.length := List.length_filter_le _ _
theorem seen_in {l : List E} {a : Lab.L} {e : E} (h : e ∈ seen l a) : e ∈ l := (List.mem_filter.1 h).1
theorem flows_no {e : Ev} {a : Lab.L} (h : Lab.flows e.src e.dst = true) : crosses e a = false := by
  unfold crosses
  cases h1 : Lab.flows e.dst a with
  | false => simp
  | true => rw [Lab.flows_trans h h1]; simp
theorem crosses_in {e : Ev} {a : Lab.L} (h : crosses e a = true) : Lab.flows e.dst a = true ∧ decide (e.used ≠ 0) = true := by
  unfold crosses at h
  simp only [Bool.and_eq_true] at h
  exact ⟨h.2, h.1.1⟩
/-- The entry of alive. -/
def alE : E := (3, ((0, 0), 1, 0), (1, 0), 0, ⟨#[97, 98]⟩)
theorem al_line : line alE = [51, 32, 112, 45, 47, 45, 46, 48, 32, 48, 47, 45, 32, 48, 32, 54, 49, 54, 50] := by decide +kernel
theorem al_parse : parse ⟨#[51, 32, 112, 45, 47, 45, 46, 48, 32, 48, 47, 45, 32, 48, 32, 54, 49, 54, 50]⟩ = (alE, 0) := by decide +kernel
theorem al_parse2 : parse ⟨#[51, 32, 112, 45, 47, 45, 46, 48, 32, 48, 47, 45, 32, 48, 32, 54, 49, 54]⟩ = (zero, 3) := by decide +kernel
end Tr
end Go.Proofs.YtdjndnoiankicaaDoor
