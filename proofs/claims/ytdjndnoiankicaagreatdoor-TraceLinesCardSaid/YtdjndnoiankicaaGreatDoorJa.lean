/- Entries of a trace: their lines, and which entry a text is: plain laws. Package trace: hex, unhex: what they return. Package trace: unhex: what it returns. Stands for a second shelf: all contracts of the library stand in the first one. Package trace: Line: what it returns. Package trace: Parse: what it returns. Package trace: Parse at five words. LabelOrder: the walk. Package trace: Parse: what it returns; Crosses. Lines of entries: which texts are such lines, and of which entries: plain laws. No conditions. -/
import Derived.Test.YtdjndnoiankicaaGreatDoorIlaw
import Derived.Test.YtdjndnoiankicaaGreatDoorWire
import Derived.Test.YtdjndnoiankicaaGreatDoorOrd
import Derived.Test.YtdjndnoiankicaaGreatDoorShb
import Derived.Test.YtdjndnoiankicaaGreatDoorSh
import Derived.Lib.ItoaLen
import Derived.Test.YtdjndnoiankicaaGreatDoorIparse
import Derived.Lib.AtoiAllCases
import Derived.Test.YtdjndnoiankicaaGreatDoorFree
import Derived.Test.YtdjndnoiankicaaGreatDoorLtexts
import Derived.Lib.AtoiTie
namespace Go.Proofs.YtdjndnoiankicaaGreatDoor
open Go.RowKit Go.Shelf
set_option linter.unusedSimpArgs false
set_option linter.unusedVariables false

namespace Tr
/-- An entry: when, who, the label, the error, the data. -/
abbrev E := Int × Idn.I × Lab.L × Int × ByteArray
def zero : E := (0, Idn.zero, (0, 0), 0, ⟨#[]⟩)
def digits : List UInt8 := [48, 49, 50, 51, 52, 53, 54, 55, 56, 57, 97, 98, 99, 100, 101, 102]
def hexd (n : Nat) : UInt8 := digits.getD n 0
def hexl (l : List UInt8) : List UInt8 := l.flatMap fun c => [hexd (c.toNat / 16), hexd (c.toNat % 16)]
def hex (l : List UInt8) : List UInt8 := if l = [] then [45] else hexl l
/-- Two digits as a byte, whatever they are. -/
def two (c d : UInt8) : UInt8 := (IntKind.u8.wrap (bits .or .i64 (Lib.indexByte digits c * 16) (Lib.indexByte digits d))).toNat.toUInt8
def unhexl : List UInt8 → List UInt8
  | c :: d :: r => two c d :: unhexl r
  | _ => []
def unhex (l : List UInt8) : List UInt8 := if l = [45] then [] else unhexl l
def words5 (e : E) : List (List UInt8) := [Lib.itoa e.1, Idn.text e.2.1, Lab.text e.2.2.1, Lib.itoa e.2.2.2.1, hex e.2.2.2.2.data.toList]
def line (e : E) : List UInt8 := Lib.join (words5 e) [32]
theorem hexl_len : ∀ l : List UInt8, (hexl l).length = 2 * l.length
  | [] => rfl
  | c :: l => by
    have := hexl_len l
    unfold hexl at this ⊢
    rw [List.flatMap_cons, List.length_append, this]; simp; omega
theorem hexl_snoc (l : List UInt8) (c : UInt8) : hexl (l ++ [c]) = hexl l ++ [hexd (c.toNat / 16), hexd (c.toNat % 16)] := by simp [hexl, List.flatMap_append]
theorem hex_ne {l : List UInt8} (h : l ≠ []) : hex l = hexl l := if_neg h
theorem two_hex : ∀ c : Fin 256, two (hexd (c.val / 16)) (hexd (c.val % 16)) = c.val.toUInt8 := by decide +kernel
theorem unhexl_hexl : ∀ l : List UInt8, unhexl (hexl l) = l
  | [] => rfl
  | c :: l => by
    have h := two_hex ⟨c.toNat, UInt8.toNat_lt c⟩
    simp only at h
    show unhexl (hexd (c.toNat / 16) :: hexd (c.toNat % 16) :: hexl l) = c :: l
    unfold unhexl
    rw [h, unhexl_hexl l]
    simp
theorem hexl_no45 : ∀ l : List UInt8, hexl l ≠ [45] := fun l h => by
  have := congrArg List.length h
  rw [hexl_len] at this; simp at this; omega
theorem unhex_hex (l : List UInt8) : unhex (hex l) = l := by
  unfold unhex hex
  by_cases h : l = []
  · rw [if_pos h, if_pos rfl, h]
  · rw [if_neg h, if_neg (hexl_no45 l), unhexl_hexl]
theorem hexl_inj {l m : List UInt8} (h : hexl l = hexl m) : l = m := by rw [← unhexl_hexl l, h, unhexl_hexl]
theorem unhexl_len : ∀ (l : List UInt8), (unhexl l).length ≤ l.length
  | [] => Nat.le_refl _
  | [_] => Nat.zero_le _
  | c :: d :: r => by
    have := unhexl_len r
    show (unhexl r).length + 1 ≤ r.length + 1 + 1
    omega
theorem unhexl_snoc : ∀ (k : Nat) (l : List UInt8), 2 * k + 1 < l.length → unhexl (l.take (2 * k + 2)) = unhexl (l.take (2 * k)) ++ [two (l.getD (2 * k) 0) (l.getD (2 * k + 1) 0)]
  | 0, c :: d :: r, _ => rfl
  | k + 1, c :: d :: r, h => by
    have ih := unhexl_snoc k r (by simp at h; omega)
    have e1 : 2 * (k + 1) + 2 = (2 * k + 2) + 1 + 1 := by omega
    have e2 : 2 * (k + 1) = 2 * k + 1 + 1 := by omega
    rw [e1, e2]
    simp only [List.take_succ_cons, List.getD_cons_succ]
    show two c d :: unhexl (r.take (2 * k + 2)) = two c d :: unhexl (r.take (2 * k)) ++ _
    rw [ih]; rfl
  | 0, [], h => by simp at h
  | 0, [_], h => by simp at h
  | k + 1, [], h => by simp at h
  | k + 1, [_], h => by simp at h
theorem unhexl_end : ∀ (k : Nat) (l : List UInt8), 2 * k ≤ l.length → l.length ≤ 2 * k + 1 → unhexl (l.take (2 * k)) = unhexl l
  | 0, [], _, _ => rfl
  | 0, [_], _, _ => rfl
  | 0, _ :: _ :: _, _, h => by simp at h
  | k + 1, [], h, _ => by simp at h
  | k + 1, [_], h, _ => by simp only [List.length_cons, List.length_nil] at h; omega
  | k + 1, c :: d :: r, h1, h2 => by
    have e2 : 2 * (k + 1) = 2 * k + 1 + 1 := by omega
    rw [e2]
    simp only [List.take_succ_cons]
    show two c d :: unhexl (r.take (2 * k)) = two c d :: unhexl r
    rw [unhexl_end k r (by simp at h1; omega) (by simp at h2; omega)]
end Tr
abbrev trV (e : Tr.E) : Value := .agg #[.int .i64 e.1, .int .u16 (e.2.1.1.1 : Int), .int .u16 (e.2.1.1.2 : Int), .int .i64 e.2.1.2.1, .int .i64 e.2.1.2.2, .int .u16 (e.2.2.1.1 : Int), .int .u16 (e.2.2.1.2 : Int), .int .i64 e.2.2.2.1, .string e.2.2.2.2]
end Go.Proofs.YtdjndnoiankicaaGreatDoor
namespace Go.Proofs.YtdjndnoiankicaaGreatDoor
open Go.RowKit Go.Shelf
set_option linter.unusedSimpArgs false
set_option linter.unusedVariables false
attribute [local go_sem] cell_over frozen_over

theorem wraps_u8 (n : Int) (h₀ : 0 ≤ n) (h₁ : n < 2 ^ 8) : IntKind.u8.wrap n = n := by simp [IntKind.wrap, IntKind.bits, IntKind.signed]; omega
theorem u8_and15 (x : Int) (h₀ : 0 ≤ x) (h₁ : x < 256) : bits .and .u8 x 15 = x % 16 := bits_mask .u8 8 (by decide) wraps_u8 4 (by decide) x h₀ h₁
theorem index_digits (n : Nat) (h : n < 16) (i : Int) (hi : i = n) (W : World) : (Instr.index 9 (.string ⟨#[48, 49, 50, 51, 52, 53, 54, 55, 56, 57, 97, 98, 99, 100, 101, 102]⟩) (.int .u8 i)).run Tryz.prog W = .ok (.int .u8 ((Tr.hexd n).toNat : Int)) W := by
  subst hi
  rw [run_index_string W 9 _ .u8 (n : Int) Tryz.underlying9, dif_pos ⟨by omega, by show (n : Int) < 16; omega⟩]
  rw [byte_at _ ((n : Int)).toNat (by show n < 16; omega)]
  rfl
theorem toList_snoc (s : ByteArray) (k : Nat) (h : k < s.size) : s.data.toList.take (k + 1) = s.data.toList.take k ++ [s.data.toList.getD k 0] := by
  have h' : k < s.data.toList.length := by rw [Array.length_toList]; exact h
  rw [List.take_succ_eq_append_getElem h', List.getD_eq_getElem?_getD, List.getElem?_eq_getElem h']; rfl
theorem news_two {w : World} {g : Nat} {x y : Value} {t : TypeId} (h : w.heap[g]? = some (.cells #[x, y] t (0, 0))) : ∀ j u, [x, y][j]? = some u → w.cell? ((⟨g, 0, none⟩ : Addr).add j) = some u := by
  intro j u hj
  match j, hj with
  | 0, hj => simp at hj; subst hj; exact cell_of_row w g 0 _ t (0, 0) h
  | 1, hj => simp at hj; subst hj; exact cell_of_row w g 1 _ t (0, 0) h
theorem back_of_own {w : World} {B g cap : Nat} {l : List UInt8} (h : w.ownsRow B 5 1 (.slice (some ⟨g, 0, none⟩) l.length cap) l.length (Lib.byteCells l)) :
    (convert 153 9 (.slice (some ⟨g, 0, none⟩) l.length cap)).run Tryz.prog w = .ok (.string ⟨l.toArray⟩) w :=
  run_convert_bytes_back w 153 9 5 ⟨g, 0, none⟩ cap l Tryz.underlying153 Tryz.underlying5 Tryz.underlying9 (fun j hj => h.cells (g := g) rfl j _ (by simp [Lib.byteCells, hj]))
set_option maxRecDepth 100000 in
set_option maxHeartbeats 2000000 in
theorem hex_ok (s : ByteArray) (hs : s.size ≤ 1000000) (w : World) : Calls Tryz.prog 89 #[.string s] w fun e w' => e = .returned (.string ⟨(Tr.hex s.data.toList).toArray⟩) ∧ Below w.heap.size w w' := by
  by_cases h0 : s = ⟨#[]⟩
  · subst h0
    go_enter Tryz.func89, Tryz.ntmps89
    go_wp2_with fail
    go_ret
    exact ⟨rfl, Below.refl _ _⟩
  · have hln : s.data.toList ≠ [] := fun h => h0 (by
      apply ByteArray.ext; apply Array.toList_inj.1; simpa using h)
    have hl : s.data.toList.length = s.size := by rw [Array.length_toList]; rfl
    have hpos : 0 < s.size := by
      rw [← hl]; exact List.length_pos_iff.2 hln
    have he1 : s.toList.isEmpty = false := by rw [ByteArray.toList_eq]; simpa using hln
    rw [Tr.hex_ne hln]
    obtain ⟨i0, hi, hz0, hz1, hz2⟩ := info_parts info_u8
    clear h0 hln hl
    go_enter Tryz.func89, Tryz.ntmps89
    go_wp2_with fail
    go_loopw [3, 9] (fun v i wr => ∃ k : Nat, i = .int .i64 (k : Int) ∧ k ≤ s.size ∧ Hid (wr.ownsRow w.heap.size 5 1 v (Tr.hexl (s.data.toList.take k)).length (Lib.byteCells (Tr.hexl (s.data.toList.take k)))) ∧ Hid (Below w.heap.size w wr)) (fun _ i _ => s.size - (intOf i).toNat)
    case atStart => exact ⟨0, rfl, Nat.zero_le _, Lib.hid (World.ownsRow_nil _ _ _ _), Lib.hid (Below.refl _ _)⟩
    case round =>
      obtain ⟨k, rfl, hk, hO, hB⟩ := hrel
      by_cases hks : k = s.size
      · subst hks
        have ho := hO.out
        rw [List.take_of_length_le (by rw [Array.length_toList]; exact Nat.le_refl _)] at ho
        obtain ⟨m, hm⟩ : ∃ m, (Tr.hexl s.data.toList).length = m + 1 := by rw [Tr.hexl_len, Array.length_toList]; exact ⟨2 * s.size - 1, by show 2 * s.size = _; omega⟩
        obtain ⟨g, cap, rfl⟩ : ∃ g cap, u3 = .slice (some ⟨g, 0, none⟩) (Tr.hexl s.data.toList).length cap := by
          rw [hm] at ho ⊢; exact own_succ ho
        have hcv := back_of_own ho
        clear hm ho hO
        go_wp2_with fail
        go_ret
        exact ⟨rfl, hB.out⟩
      · have hlt : k < s.size := by omega
        have hki : (k : Int) < (s.size : Int) := by omega
        have hx0 := index_string s (k : Int) k rfl hlt
        have hsn := Lib.hid (toList_snoc s k hlt)
        generalize s.data.toList.getD k 0 = c at hx0 hsn
        have hc := UInt8.toNat_lt c
        have hd1 := index_digits (c.toNat / 16) (by omega) ((c.toNat : Int) / 16) (by omega)
        have hd2 := index_digits (c.toNat % 16) (by omega) (bits .and .u8 (c.toNat : Int) 15) (by rw [u8_and15 (c.toNat : Int) (by omega) (by omega)]; omega)
        clear hks
        have ho := hO.out
        have HO9 := Lib.hid (own_below ho ((below_new (Below.refl wr.heap.size wr) (.cells #[.int .u8 ((Tr.hexd (c.toNat / 16)).toNat : Int), .int .u8 ((Tr.hexd (c.toNat % 16)).toNat : Int)] 5)).drew))
        have hlen : (Tr.hexl (s.data.toList.take k)).length ≤ 2000000 := by
          rw [Tr.hexl_len]; have := List.length_take_le k s.data.toList; omega
        have hbz := hB.out.size
        have HE : Hid ((Tr.hexl (s.data.toList.take (k + 1))).length = (Tr.hexl (s.data.toList.take k)).length + 2 ∧ Lib.byteCells (Tr.hexl (s.data.toList.take (k + 1))) = Lib.byteCells (Tr.hexl (s.data.toList.take k)) ++ [.int .u8 ((Tr.hexd (c.toNat / 16)).toNat : Int), .int .u8 ((Tr.hexd (c.toNat % 16)).toNat : Int)]) := Lib.hid (by rw [hsn.out, Tr.hexl_snoc]; simp [Lib.byteCells])
        generalize (Tr.hexl (s.data.toList.take k)).length = N at HE HO9 hlen ho ⊢
        generalize Lib.byteCells (Tr.hexl (s.data.toList.take k)) = cs at HE HO9 ho
        clear ho hO
        go_wp2_with fail
        go_region_law (refine step_append_own rfl (.tmp 12) (.tmp 23) 153 rfl w.heap.size 5 i0 (.int .u8 0) 1 1 Tryz.underlying153 hi hz0 hz1 hz2 rfl (by decide) u3 N cs (by simp [Act.eval, Act.put]) HO9.out ⟨wr.heap.size, 0, none⟩ 2 2 [.int .u8 ((Tr.hexd (c.toNat / 16)).toNat : Int), .int .u8 ((Tr.hexd (c.toNat % 16)).toNat : Int)] (by simp [Act.eval, Act.put]) rfl (news_two (heap_alloc_new wr _)) (by simp [Value.oneCell']) (by unfold maxLen; omega) (by omega) (by simp; omega) ?_; intro v' w2 hown' hgrow _; have HOW := Lib.hid hown'; have HG := Lib.hid hgrow; clear hown' hgrow)
        all_goals
          have hb2 : Below w.heap.size w w2 := (below_here hB.out ((below_new (Below.refl wr.heap.size wr) (.cells #[.int .u8 ((Tr.hexd (c.toNat / 16)).toNat : Int), .int .u8 ((Tr.hexd (c.toNat % 16)).toNat : Int)] 5)).drew)).grown HG.out (by simp; omega) (fun k h => (HO9.out.lt k h).1)
          have HB2 := Lib.hid hb2
          clear hb2
          go_wp2_with fail
          go_roundw
          case rel => exact ⟨k + 1, by go_num, by omega, by rw [HE.out.1, HE.out.2]; exact HOW, HB2⟩
          case measure => simp [intOf]; omega
end Go.Proofs.YtdjndnoiankicaaGreatDoor
namespace Go.Proofs.YtdjndnoiankicaaGreatDoor
open Go.RowKit Go.Shelf
set_option linter.unusedSimpArgs false
set_option linter.unusedVariables false
attribute [local go_sem] cell_over frozen_over

theorem runs_append_own {P : Program} {C : World → Prop} {o : Oper} {a : Act} {w : World} {K : Act → World → Prop} (s x : Operand) (t : TypeId)
    (ho : o.op = .call { callee := .builtin .append, args := #[s, x], argTypes := #[t, t] })
    (base : Nat) (e : TypeId) (i : TypeInfo) (z : Value) (size bytes : Nat) (ht : P.underlying t = some (.slice e)) (hi : P.info? e = some i) (hz : i.zero = some z)
    (hsize : i.size = size) (hby : i.bytes = bytes) (hzs : z.cells.size = size) (hsz : 0 < size)
    (v : Value) (n : Nat) (xs : List Value) (hs : a.eval s = v) (hown : w.ownsRow base e size v n xs)
    (ad : Addr) (m c : Nat) (news : List Value) (hx : a.eval x = .slice (some ad) m c) (hl : news.length = m * size) (hnews : ∀ j u, news[j]? = some u → w.cell? (ad.add j) = some u) (h1 : ∀ u ∈ news, u.oneCell' = true)
    (h63 : n + m ≤ maxLen) (hbytes : (n + m) * bytes ≤ 140737488355328) (hbase : base ≤ w.heap.size)
    (hK : ∀ v' w', w'.ownsRow base e size v' (n + m) (xs ++ news) → w.grownBy w' v.ownBlock → C w' ∧ K (a.put o.dst v') w') : runsTo P C o a K ((execOp a.eval o).run P w) := by
  obtain ⟨v', w', hrun, h2, h3, h4⟩ := run_append_own (P := P) w base t o.type e i z size bytes ht hi hz hsize hby hzs hsz v n xs hown ad m c news hl hnews h1 h63 hbytes hbase
  simp [execOp, ho, resolve, invoke, builtin, hs, hx, hrun, Result.andThen]
  exact hK v' w' h2 h3
theorem shl4 (x : Int) (h0 : -1 ≤ x) (h1 : x < 16) : IntKind.i64.wrap (x * 16) = x * 16 := IntWalk.i64_in _ (by omega)
theorem index_in (c : UInt8) : -1 ≤ Lib.indexByte Tr.digits c ∧ Lib.indexByte Tr.digits c < 16 := by
  have h : ∀ c : Fin 256, -1 ≤ Lib.indexByte Tr.digits c.val.toUInt8 ∧ Lib.indexByte Tr.digits c.val.toUInt8 < 16 := by decide +kernel
  have := h ⟨c.toNat, UInt8.toNat_lt c⟩
  simpa using this
set_option maxRecDepth 100000 in
set_option maxHeartbeats 2000000 in
theorem unhex_ok (s : ByteArray) (hs : s.size ≤ 1000000) (w : World) : Calls Tryz.prog 81 #[.string s] w fun e w' => e = .returned (.string ⟨(Tr.unhex s.data.toList).toArray⟩) ∧ Below w.heap.size w w' := by
  have hl : s.data.toList.length = s.size := by rw [Array.length_toList]; rfl
  by_cases h0 : s.data.toList = [45]
  · have hu : Tr.unhex s.data.toList = [] := if_pos h0
    rw [hu]
    obtain rfl : s = ⟨#[45]⟩ := by apply ByteArray.ext; apply Array.toList_inj.1; simpa using h0
    clear h0 hu hl
    go_enter Tryz.func81, Tryz.ntmps81
    go_wp2_with fail
    go_ret
    exact ⟨rfl, Below.refl _ _⟩
  · have hu : Tr.unhex s.data.toList = Tr.unhexl s.data.toList := if_neg h0
    have he1 : (s.toList == ([45] : List UInt8)) = false := by rw [ByteArray.toList_eq, beq_eq_false_iff_ne]; exact h0
    rw [hu]
    obtain ⟨i0, hi, hz0, hz1, hz2⟩ := info_parts info_u8
    have HLN := Lib.hid hl
    clear h0 hu hl
    go_enter Tryz.func81, Tryz.ntmps81
    go_wp2_with fail
    go_loopw [3, 4] (fun v i wr => ∃ j : Nat, i = .int .i64 (j : Int) ∧ j ≤ s.size ∧ Hid (∃ k, j = 2 * k) ∧ Hid (wr.ownsRow w.heap.size 5 1 v (Tr.unhexl (s.data.toList.take j)).length (Lib.byteCells (Tr.unhexl (s.data.toList.take j)))) ∧ Hid (Below w.heap.size w wr)) (fun _ i _ => s.size - (intOf i).toNat)
    case atStart => exact ⟨0, rfl, Nat.zero_le _, Lib.hid ⟨0, rfl⟩, Lib.hid (World.ownsRow_nil _ _ _ _), Lib.hid (Below.refl _ _)⟩
    case round =>
      obtain ⟨j, rfl, hj, hE, hO, hB⟩ := hrel
      by_cases hks : s.size ≤ j + 1
      · have hge : ¬ (j : Int) + 1 < (s.size : Int) := by omega
        have ho := hO.out
        have hend : Tr.unhexl (s.data.toList.take j) = Tr.unhexl s.data.toList := by
          obtain ⟨k, rfl⟩ := hE.out
          exact Tr.unhexl_end k _ (by rw [HLN.out]; exact hj) (by rw [HLN.out]; exact hks)
        rw [hend] at ho
        clear hks hO hend
        rcases ho.2 with ⟨rfl, h00⟩ | ⟨g, cap, cur, rfl, _⟩
        · have hl0 : Tr.unhexl s.data.toList = [] := List.length_eq_zero_iff.1 h00
          have HL0 := Lib.hid hl0
          have hcv : (convert 153 9 (.slice none 0 0)).run Tryz.prog wr = .ok (.string ⟨#[]⟩) wr := by kernel_rfl
          clear ho h00 hl0
          go_wp2_with fail
          go_ret
          exact ⟨by rw [HL0.out]; rfl, hB.out⟩
        · have hcv := back_of_own ho
          clear ho
          go_wp2_with fail
          go_ret
          exact ⟨rfl, hB.out⟩
      · have hlt : (j : Int) + 1 < (s.size : Int) := by omega
        have hx0 := index_string s (j : Int) j rfl (by omega)
        have hx1 := index_string s ((j : Int) + 1) (j + 1) (by omega) (by omega)
        have hsn : Tr.unhexl (s.data.toList.take (j + 2)) = Tr.unhexl (s.data.toList.take j) ++ [Tr.two (s.data.toList.getD j 0) (s.data.toList.getD (j + 1) 0)] := by
          obtain ⟨k, rfl⟩ := hE.out
          exact Tr.unhexl_snoc k _ (by rw [HLN.out]; omega)
        have HC : Hid (∀ w : World, Calls Tryz.prog 98 #[.string ⟨#[48, 49, 50, 51, 52, 53, 54, 55, 56, 57, 97, 98, 99, 100, 101, 102]⟩, .int .u8 ((s.data.toList.getD j 0).toNat : Int)] w fun e w' => e = .returned (.int .i64 (Lib.indexByte Tr.digits (s.data.toList.getD j 0))) ∧ w' = w) := Lib.hid fun w => (Tryz.strings_IndexByte ⟨#[48, 49, 50, 51, 52, 53, 54, 55, 56, 57, 97, 98, 99, 100, 101, 102]⟩ ((s.data.toList.getD j 0).toNat : Int) w).mono fun e w' ⟨h1, h2⟩ => ⟨by rw [h1]; show Ending.returned (.int .i64 (Lib.indexByte Tr.digits ((((s.data.toList.getD j 0).toNat : Int).toNat).toUInt8))) = _; simp, h2⟩
        have HD : Hid (∀ w : World, Calls Tryz.prog 98 #[.string ⟨#[48, 49, 50, 51, 52, 53, 54, 55, 56, 57, 97, 98, 99, 100, 101, 102]⟩, .int .u8 ((s.data.toList.getD (j + 1) 0).toNat : Int)] w fun e w' => e = .returned (.int .i64 (Lib.indexByte Tr.digits (s.data.toList.getD (j + 1) 0))) ∧ w' = w) := Lib.hid fun w => (Tryz.strings_IndexByte ⟨#[48, 49, 50, 51, 52, 53, 54, 55, 56, 57, 97, 98, 99, 100, 101, 102]⟩ ((s.data.toList.getD (j + 1) 0).toNat : Int) w).mono fun e w' ⟨h1, h2⟩ => ⟨by rw [h1]; show Ending.returned (.int .i64 (Lib.indexByte Tr.digits ((((s.data.toList.getD (j + 1) 0).toNat : Int).toNat).toUInt8))) = _; simp, h2⟩
        generalize s.data.toList.getD j 0 = c at hx0 hsn HC
        generalize s.data.toList.getD (j + 1) 0 = d at hx1 hsn HD
        have htw : Hid ((Tr.two c d).toNat = (IntKind.u8.wrap (bits .or .i64 (Lib.indexByte Tr.digits c * 16) (Lib.indexByte Tr.digits d))).toNat % 256) := Lib.hid (by unfold Tr.two; simp)
        obtain ⟨hc1, hc2⟩ := index_in c
        obtain ⟨hd1, hd2⟩ := index_in d
        have hwr : 0 ≤ IntKind.u8.wrap (bits .or .i64 (Lib.indexByte Tr.digits c * 16) (Lib.indexByte Tr.digits d)) ∧ IntKind.u8.wrap (bits .or .i64 (Lib.indexByte Tr.digits c * 16) (Lib.indexByte Tr.digits d)) < 256 := by
          generalize bits .or .i64 (Lib.indexByte Tr.digits c * 16) (Lib.indexByte Tr.digits d) = z
          simp only [IntKind.wrap, IntKind.bits, IntKind.signed]; simp; omega
        have hw3 : IntKind.u8.wrap (bits .or .i64 (Lib.indexByte Tr.digits c * 16) (Lib.indexByte Tr.digits d)) = ((Tr.two c d).toNat : Int) := by rw [htw.out]; omega
        have hj1 : IntKind.i64.wrap ((j : Int) + 1) = (j : Int) + 1 := IntWalk.i64_in _ (by omega)
        have hs4 := shl4 _ hc1 hc2
        clear hwr htw
        generalize Lib.indexByte Tr.digits c = ic at HC hw3 hc1 hc2 hs4
        generalize Lib.indexByte Tr.digits d = id' at HD hw3 hd1 hd2
        have ho := hO.out
        have HO9 := Lib.hid (own_below ho (below_new (Below.refl wr.heap.size wr).drew (.cells #[.int .u8 ((Tr.two c d).toNat : Int)] 5)))
        have hlen : (Tr.unhexl (s.data.toList.take j)).length ≤ 2000000 := by
          have h1 := Tr.unhexl_len (s.data.toList.take j)
          have := List.length_take_le j s.data.toList; omega
        have hbz := hB.out.size
        have HEE : Hid ((Tr.unhexl (s.data.toList.take (j + 2))).length = (Tr.unhexl (s.data.toList.take j)).length + 1 ∧ Lib.byteCells (Tr.unhexl (s.data.toList.take (j + 2))) = Lib.byteCells (Tr.unhexl (s.data.toList.take j)) ++ [.int .u8 ((Tr.two c d).toNat : Int)]) := Lib.hid (by rw [hsn]; simp [Lib.byteCells])
        generalize (Tr.unhexl (s.data.toList.take j)).length = N at HEE HO9 hlen ho ⊢
        generalize Lib.byteCells (Tr.unhexl (s.data.toList.take j)) = cs at HEE HO9 ho
        clear ho hO hsn hks
        go_wp2_with fail
        refine wp_region_ord [4, 10, 13, 14] [0, 1, 2, 3, 6, 7, 8, 9, 4, 5, 10, 11, 12, 13, 14, 15] (fun _ => True) (by kernel_rfl) (by kernel_rfl) rfl (by kernel_rfl) trivial ?_
        iterate 8
          refine wpO_one (by simp only [List.getElem?_toArray, List.getElem?_cons_zero, List.getElem?_cons_succ]; exact rfl) (by kernel_rfl) ?_
          (first
            | go_big_quiet_step (fail)
            | (go_big_quiet_want; go_big_quiet_op; refine ⟨_, fun _ _ _ => rfl, ?_⟩; go_big_quiet_on))
          refine wpQuiet_nil ?_
        refine wpO_run rfl rfl rfl (fun K hK => ?_)
        go_simp
        refine (HC.out _).mono ?_
        rintro e W ⟨rfl, hw⟩
        obtain rfl := hw.symm
        refine ⟨_, rfl, trivial, hK _ _ ?_⟩
        clear hK K
        simp only [Act.put, List.setIfInBounds_toArray, List.set_cons_succ, List.set_cons_zero]
        iterate 1
          refine wpO_one (by simp only [List.getElem?_toArray, List.getElem?_cons_zero, List.getElem?_cons_succ]; exact rfl) (by kernel_rfl) ?_
          (first
            | go_big_quiet_step (fail)
            | (go_big_quiet_want; go_big_quiet_op; refine ⟨_, fun _ _ _ => rfl, ?_⟩; go_big_quiet_on))
          refine wpQuiet_nil ?_
        refine wpO_run rfl rfl rfl (fun K hK => ?_)
        go_simp
        refine (HD.out _).mono ?_
        rintro e W ⟨rfl, hw⟩
        obtain rfl := hw.symm
        refine ⟨_, rfl, trivial, hK _ _ ?_⟩
        clear hK K
        simp only [Act.put, List.setIfInBounds_toArray, List.set_cons_succ, List.set_cons_zero]
        iterate 2
          refine wpO_one (by simp only [List.getElem?_toArray, List.getElem?_cons_zero, List.getElem?_cons_succ]; exact rfl) (by kernel_rfl) ?_
          (first
            | go_big_quiet_step (fail)
            | (go_big_quiet_want; go_big_quiet_op; refine ⟨_, fun _ _ _ => rfl, ?_⟩; go_big_quiet_on))
          refine wpQuiet_nil ?_
        refine wpO_run rfl rfl rfl (fun K hK => ?_)
        go_simp
        refine ⟨trivial, hK _ _ ?_⟩
        clear hK K
        simp only [Act.put, List.setIfInBounds_toArray, List.set_cons_succ, List.set_cons_zero]
        refine wpO_run rfl rfl rfl (fun K hK => ?_)
        refine runs_append_own (.tmp 14) (.tmp 27) 153 rfl w.heap.size 5 i0 (.int .u8 0) 1 1 Tryz.underlying153 hi hz0 hz1 hz2 rfl (by decide) u3 N cs (by simp [Act.eval]) HO9.out ⟨wr.heap.size, 0, none⟩ 1 1 [.int .u8 ((Tr.two c d).toNat : Int)] (by simp [Act.eval]) rfl (news_one (heap_alloc_new wr _)) (by simp [Value.oneCell']) (by unfold maxLen; omega) (by omega) (by simp; omega) (fun v' w2 hown' hgrow => ⟨trivial, hK _ _ ?_⟩)
        have HOW := Lib.hid hown'
        have HG := Lib.hid hgrow
        clear hown' hgrow hK K
        simp only [Act.put, List.getElem_toArray, List.getElem_cons_succ, List.getElem_cons_zero, List.setIfInBounds_toArray, List.set_cons_succ, List.set_cons_zero]
        iterate 1
          refine wpO_one (by simp only [List.getElem?_toArray, List.getElem?_cons_zero, List.getElem?_cons_succ]; exact rfl) (by kernel_rfl) ?_
          (first
            | go_big_quiet_step (fail)
            | (go_big_quiet_want; go_big_quiet_op; refine ⟨_, fun _ _ _ => rfl, ?_⟩; go_big_quiet_on))
          refine wpQuiet_nil ?_
        refine wpO_nil ?_
        have hb2 : Below w.heap.size w w2 := (below_here hB.out (below_new (Below.refl wr.heap.size wr).drew (.cells #[.int .u8 ((Tr.two c d).toNat : Int)] 5))).grown HG.out (by simp; omega) (fun k h => (HO9.out.lt k h).1)
        have HB2 := Lib.hid hb2
        have HE2 : Hid (∃ k, j + 2 = 2 * k) := Lib.hid (by obtain ⟨k, rfl⟩ := hE.out; exact ⟨k + 1, by omega⟩)
        clear hb2
        go_wp2_with fail
        go_roundw
        case rel => exact ⟨j + 2, by go_num, by omega, HE2, by rw [HEE.out.1, HEE.out.2]; exact HOW, HB2⟩
        case measure => simp [intOf]; omega
end Go.Proofs.YtdjndnoiankicaaGreatDoor

namespace Go.Proofs.YtdjndnoiankicaaGreatDoor
open Go.RowKit Go.Shelf
set_option linter.unusedSimpArgs false
set_option linter.unusedVariables false
attribute [local go_sem] cell_over frozen_over

theorem itoa_ok (n : Int) (h0 : -9223372036854775808 ≤ n) (h1 : n ≤ 9223372036854775807) (w : World) (hW : PowAt w) : Calls Tryz.prog 87 #[.int .i64 n] w fun e w' => e = .returned (.string ⟨(Lib.itoa n).toArray⟩) ∧ Below w.heap.size w w' :=
  (Tryz.strconv_Itoa n h0 h1 w (hW w (Below.refl _ _))).mono fun e w' ⟨h1, k, os, h2⟩ => ⟨h1, by
    rw [h2]
    exact ⟨rfl, rfl, rfl, (by show w.heap.size ≤ ((w.drewN k).heap ++ os).size; rw [Array.size_append]; exact Nat.le_add_right _ _), fun i hi => by
      show ((w.drewN k).heap ++ os)[i]? = _
      rw [Array.getElem?_append_left (by show i < w.heap.size; omega)]
      rfl⟩⟩
namespace Tr
def ok (e : E) : Prop := (-9223372036854775808 ≤ e.1 ∧ e.1 ≤ 9223372036854775807) ∧ Lab.ok e.2.1.1 ∧ Lab.ok e.2.2.1 ∧ (-9223372036854775808 ≤ e.2.2.2.1 ∧ e.2.2.2.1 ≤ 9223372036854775807)
end Tr
theorem idtext_len (x : Idn.I) : (Idn.text x).length ≤ 102 := by
  unfold Idn.text
  split
  · have := labtext_size x.1
    have e : (Lab.text x.1).length ≤ 99 := by simpa [ByteArray.size] using this
    simp; omega
  · simp
theorem join5_len (a b c d e : List UInt8) : (Lib.join [a, b, c, d, e] [32]).length = a.length + b.length + c.length + d.length + e.length + 4 := by
  simp [Lib.join, List.intercalate]; omega
theorem cells5_str (w : World) (t : TypeId) (xs : List ByteArray) (a b c d e : ByteArray) (h : xs = [a, b, c, d, e]) : ∀ (j : Nat) x, xs[j]? = some x → (w.alloc (.cells #[.string a, .string b, .string c, .string d, .string e] t)).cell? ⟨w.heap.size, 0 + j, none⟩ = some (.string x) := by
  subst h
  intro j x hj
  rw [cell_of_row _ _ _ _ _ _ (heap_alloc_new w _), Nat.zero_add]
  match j, hj with
  | 0, hj => simp at hj; subst hj; rfl
  | 1, hj => simp at hj; subst hj; rfl
  | 2, hj => simp at hj; subst hj; rfl
  | 3, hj => simp at hj; subst hj; rfl
  | 4, hj => simp at hj; subst hj; rfl
set_option maxRecDepth 100000 in
set_option maxHeartbeats 2000000 in
theorem trline_ok (e : Tr.E) (he : Tr.ok e) (hs : e.2.2.2.2.size ≤ 1000000) (w : World) (hT : TabAt w) (hW : PowAt w) :
    Calls Tryz.prog 19 #[trV e] w fun r w' => r = .returned (.string ⟨(Tr.line e).toArray⟩) ∧ Below w.heap.size w w' := by
  obtain ⟨⟨a0, a1⟩, hwho, hlab, b0, b1⟩ := he
  have I1 := Lib.hid (fun w h => itoa_ok e.1 a0 a1 w h)
  have I2 := Lib.hid (fun w h => itoa_ok e.2.2.2.1 b0 b1 w h)
  have T1 := Lib.hid (fun w hT hW => itext_ok e.2.1 hwho w hT hW)
  have T2 := Lib.hid (fun w hT hW => ltext_ok e.2.2.1 hlab w hT hW)
  have X1 := Lib.hid (fun w => hex_ok e.2.2.2.2 hs w)
  have l1 := Lib.itoa_length_le e.1 a0 a1
  have l2 := Lib.itoa_length_le e.2.2.2.1 b0 b1
  have l3 := idtext_len e.2.1
  have l4 : (Lab.text e.2.2.1).length ≤ 99 := by simpa [ByteArray.size] using labtext_size e.2.2.1
  have l5 : (Tr.hex e.2.2.2.2.data.toList).length ≤ 2000001 := by
    unfold Tr.hex
    split
    · simp
    · rw [Tr.hexl_len, Array.length_toList]; have : e.2.2.2.2.data.size ≤ 1000000 := hs; omega
  have HS : Hid (Tr.line e = Lib.join [Lib.itoa e.1, Idn.text e.2.1, Lab.text e.2.2.1, Lib.itoa e.2.2.2.1, Tr.hex e.2.2.2.2.data.toList] [32]) := Lib.hid rfl
  have HJL := Lib.hid (join5_len (Lib.itoa e.1) (Idn.text e.2.1) (Lab.text e.2.2.1) (Lib.itoa e.2.2.2.1) (Tr.hex e.2.2.2.2.data.toList))
  have HT := Lib.hid (hT.below (below_fresh w (.cells #[.int .i64 e.1, .int .u16 (e.2.1.1.1 : Int), .int .u16 (e.2.1.1.2 : Int), .int .i64 e.2.1.2.1, .int .i64 e.2.1.2.2, .int .u16 (e.2.2.1.1 : Int), .int .u16 (e.2.2.1.2 : Int), .int .i64 e.2.2.2.1, .string e.2.2.2.2] 33)))
  have HW := Lib.hid (hW.below (below_fresh w (.cells #[.int .i64 e.1, .int .u16 (e.2.1.1.1 : Int), .int .u16 (e.2.1.1.2 : Int), .int .i64 e.2.1.2.1, .int .i64 e.2.1.2.2, .int .u16 (e.2.2.1.1 : Int), .int .u16 (e.2.2.1.2 : Int), .int .i64 e.2.2.2.1, .string e.2.2.2.2] 33)))
  generalize Lib.itoa e.1 = s1 at I1 l1 HS HJL
  generalize Idn.text e.2.1 = s2 at T1 l3 HS HJL
  generalize Lab.text e.2.2.1 = s3 at T2 l4 HS HJL
  generalize Lib.itoa e.2.2.2.1 = s4 at I2 l2 HS HJL
  generalize Tr.hex e.2.2.2.2.data.toList = s5 at X1 l5 HS HJL
  obtain ⟨at', ⟨⟨x1, x2⟩, x3, x4⟩, ⟨y1, y2⟩, er, da⟩ := e
  have HJ := Lib.hid (fun (W : World) => Tryz.strings_Join W.heap.size 0 5 [⟨s1.toArray⟩, ⟨s2.toArray⟩, ⟨s3.toArray⟩, ⟨s4.toArray⟩, ⟨s5.toArray⟩] ⟨#[32]⟩ (W.alloc (.cells #[.string ⟨s1.toArray⟩, .string ⟨s2.toArray⟩, .string ⟨s3.toArray⟩, .string ⟨s4.toArray⟩, .string ⟨s5.toArray⟩] 9)) (cells5_str W _ _ _ _ _ _ _ rfl) (by simp) (by simp) (by simp) (by simp only [List.map_cons, List.map_nil]; rw [HJL.out]; omega))
  simp only [List.map_cons, List.map_nil, List.length_cons, List.length_nil, Nat.reduceAdd] at HJ
  rw [← HS.out] at HJ
  generalize (⟨s1.toArray⟩ : ByteArray) = r1 at I1 HJ
  generalize (⟨s2.toArray⟩ : ByteArray) = r2 at T1 HJ
  generalize (⟨s3.toArray⟩ : ByteArray) = r3 at T2 HJ
  generalize (⟨s4.toArray⟩ : ByteArray) = r4 at I2 HJ
  generalize (⟨s5.toArray⟩ : ByteArray) = r5 at X1 HJ
  generalize Tr.line (at', ((x1, x2), x3, x4), (y1, y2), er, da) = res at HJ HS
  simp only at I1 I2 T1 T2 X1 HT HW
  clear HJL HS l1 l2 l3 l4 l5 hT hW hs hwho hlab a0 a1 b0 b1
  go_enter Tryz.func19, Tryz.ntmps19
  go_wp2_with fail
  refine wp_region_over_tail 17 (by kernel_rfl) (by kernel_rfl) ?_
  simp only [List.take_succ_cons, List.take_zero, List.drop_succ_cons, List.drop_zero]
  repeat (go_big_quiet_step (first
    | ((go_at_call 87; with_reducible exact Calls.over_of (I1.out _ (HW.out.below (over_below _ _)))))
    | ((go_at_call 87; with_reducible exact Calls.over_of (I2.out _ (HW.out.below (over_below _ _)))))
    | ((go_at_call 24; exact Calls.over_of (T1.out _ (HT.out.below (over_below _ _)) (HW.out.below (over_below _ _)))))
    | ((go_at_call 88; exact Calls.over_of (T2.out _ (HT.out.below (over_below _ _)) (HW.out.below (over_below _ _)))))
    | ((go_at_call 89; exact Calls.over_of (X1.out _)))))
  refine wpQuiet_nil ?_
  intro W7 hW7
  have hb7 := below_of_over hW7
  clear hW7
  go_wp2_with (go_at_call 86; refine (HJ.out W7).mono ?_; rintro e w8 ⟨rfl, hb8⟩)
  go_ret
  exact ⟨rfl, below_here (below_new (below_here (below_fresh _ _) hb7) _) hb8⟩
end Go.Proofs.YtdjndnoiankicaaGreatDoor
namespace Go.Proofs.YtdjndnoiankicaaGreatDoor
open Go.RowKit Go.Shelf
set_option linter.unusedSimpArgs false
set_option linter.unusedVariables false
attribute [local go_sem] cell_over frozen_over

namespace Tr
def sp : ByteArray := ⟨#[32]⟩
def words (s : ByteArray) : List ByteArray := Lib.splitB sp 0 (Lib.countB s sp) s
def cand5 (a b c d e : ByteArray) : Option E :=
  if a.size ≤ 6 ∧ d.size ≤ 6 ∧ e.size ≤ 510 then
    match Lib.atoiAll a.data.toList, Lib.atoiAll d.data.toList with
    | .ok x, .ok y => if (Idn.parse b.data.toList).2 = 0 ∧ (Lab.parse c.data.toList).2 = 0 ∧ 0 ≤ x ∧ 0 ≤ y then some (x, (Idn.parse b.data.toList).1, (Lab.parse c.data.toList).1, y, ⟨(unhex e.data.toList).toArray⟩) else none
    | _, _ => none
  else none
def cand (s : ByteArray) : Option E := match words s with
  | [a, b, c, d, e] => cand5 a b c d e
  | _ => none
def fin (s : ByteArray) : Option E → E × Int
  | some x => if line x = s.data.toList then (x, 0) else (zero, 3)
  | none => (zero, 3)
def parse (s : ByteArray) : E × Int := fin s (cand s)
theorem words_len (s : ByteArray) : (words s).length = Lib.countB s sp + 1 := Lib.splitB_all sp (by decide) 0 _ s rfl
theorem words_size (s : ByteArray) : ∀ p ∈ words s, p.size ≤ s.size := fun p hp => Tag.splitB_size sp _ s p hp
end Tr
theorem words_ok (s : ByteArray) (hs : s.size ≤ 1000000) (w : World) (hL : LaidAt w) : Calls Tryz.prog 78 #[.string s, .string ⟨#[32]⟩] w fun e w' => ∃ b, e = .returned (.slice (some ⟨b, 0, none⟩) (Tr.words s).length (Tr.words s).length) ∧ w'.heap[b]? = some (.cells ((Tr.words s).map Value.string).toArray 9 (0, 0)) ∧ Below w.heap.size w w' := by
  obtain ⟨m, hm⟩ := hL.max
  exact (Tryz.strings_Split s Tr.sp m w (by omega) hm (by decide)).mono fun e w' ⟨h1, h2⟩ => ⟨w.heap.size, by rw [h1, Tr.words_len], by rw [h2]; exact heap_alloc_new _ _, by rw [h2]; exact below_fresh _ _⟩
theorem set_nine (W : World) (b : Nat) (t : TypeId) (x0 x1 x2 x3 x4 x5 x6 x7 x8 y0 y1 y2 y3 y4 y5 y6 y7 y8 : Value) (h : W.heap[b]? = some (.cells #[x0, x1, x2, x3, x4, x5, x6, x7, x8] t (0, 0))) : (((((((((W.setCell ⟨b, 0, none⟩ y0).setCell ⟨b, 1, none⟩ y1).setCell ⟨b, 2, none⟩ y2).setCell ⟨b, 3, none⟩ y3).setCell ⟨b, 4, none⟩ y4).setCell ⟨b, 5, none⟩ y5).setCell ⟨b, 6, none⟩ y6).setCell ⟨b, 7, none⟩ y7).setCell ⟨b, 8, none⟩ y8).heap[b]? = some (.cells #[y0, y1, y2, y3, y4, y5, y6, y7, y8] t (0, 0)) :=
  heap_setCells_same b t [y0, y1, y2, y3, y4, y5, y6, y7, y8] 0 W [x0, x1, x2, x3, x4, x5, x6, x7, x8] h (by simp)
theorem keep_nine {W : World} {k b : Nat} {o : Obj} (h : k ≠ b) (y0 y1 y2 y3 y4 y5 y6 y7 y8 : Value) (hk : W.heap[k]? = some o) : (((((((((W.setCell ⟨b, 0, none⟩ y0).setCell ⟨b, 1, none⟩ y1).setCell ⟨b, 2, none⟩ y2).setCell ⟨b, 3, none⟩ y3).setCell ⟨b, 4, none⟩ y4).setCell ⟨b, 5, none⟩ y5).setCell ⟨b, 6, none⟩ y6).setCell ⟨b, 7, none⟩ y7).setCell ⟨b, 8, none⟩ y8).heap[k]? = some o := (heap_setCells_other b [y0, y1, y2, y3, y4, y5, y6, y7, y8] 0 W k h).trans hk
theorem below_nine {B : Nat} {w W : World} (h : Below B w W) {b : Nat} (hb : B ≤ b) (y0 y1 y2 y3 y4 y5 y6 y7 y8 : Value) : Below B w (((((((((W.setCell ⟨b, 0, none⟩ y0).setCell ⟨b, 1, none⟩ y1).setCell ⟨b, 2, none⟩ y2).setCell ⟨b, 3, none⟩ y3).setCell ⟨b, 4, none⟩ y4).setCell ⟨b, 5, none⟩ y5).setCell ⟨b, 6, none⟩ y6).setCell ⟨b, 7, none⟩ y7).setCell ⟨b, 8, none⟩ y8) := below_setCells h hb 0 [y0, y1, y2, y3, y4, y5, y6, y7, y8]
theorem nine_cells {W : World} {b : Nat} {t : TypeId} {x0 x1 x2 x3 x4 x5 x6 x7 x8 : Value} (h : W.heap[b]? = some (.cells #[x0, x1, x2, x3, x4, x5, x6, x7, x8] t (0, 0))) : (W.cell? ⟨b, 0, none⟩ = some x0 ∧ W.cell? ⟨b, 1, none⟩ = some x1 ∧ W.cell? ⟨b, 2, none⟩ = some x2 ∧ W.cell? ⟨b, 3, none⟩ = some x3 ∧ W.cell? ⟨b, 4, none⟩ = some x4 ∧ W.cell? ⟨b, 5, none⟩ = some x5 ∧ W.cell? ⟨b, 6, none⟩ = some x6 ∧ W.cell? ⟨b, 7, none⟩ = some x7 ∧ W.cell? ⟨b, 8, none⟩ = some x8) ∧ (W.frozen? ⟨b, 0, none⟩ = false ∧ W.frozen? ⟨b, 1, none⟩ = false ∧ W.frozen? ⟨b, 2, none⟩ = false ∧ W.frozen? ⟨b, 3, none⟩ = false ∧ W.frozen? ⟨b, 4, none⟩ = false ∧ W.frozen? ⟨b, 5, none⟩ = false ∧ W.frozen? ⟨b, 6, none⟩ = false ∧ W.frozen? ⟨b, 7, none⟩ = false ∧ W.frozen? ⟨b, 8, none⟩ = false) ∧ b < W.heap.size :=
  ⟨⟨cell_of_row W b 0 _ t (0, 0) h, cell_of_row W b 1 _ t (0, 0) h, cell_of_row W b 2 _ t (0, 0) h, cell_of_row W b 3 _ t (0, 0) h, cell_of_row W b 4 _ t (0, 0) h, cell_of_row W b 5 _ t (0, 0) h, cell_of_row W b 6 _ t (0, 0) h, cell_of_row W b 7 _ t (0, 0) h, cell_of_row W b 8 _ t (0, 0) h⟩, ⟨by simp [World.frozen?, h], by simp [World.frozen?, h], by simp [World.frozen?, h], by simp [World.frozen?, h], by simp [World.frozen?, h], by simp [World.frozen?, h], by simp [World.frozen?, h], by simp [World.frozen?, h], by simp [World.frozen?, h]⟩, (Array.getElem?_eq_some_iff.1 h).1⟩
theorem five_cells {W : World} {b : Nat} {t : TypeId} {x0 x1 x2 x3 x4 : Value} (h : W.heap[b]? = some (.cells #[x0, x1, x2, x3, x4] t (0, 0))) : W.cell? ⟨b, 0, none⟩ = some x0 ∧ W.cell? ⟨b, 1, none⟩ = some x1 ∧ W.cell? ⟨b, 2, none⟩ = some x2 ∧ W.cell? ⟨b, 3, none⟩ = some x3 ∧ W.cell? ⟨b, 4, none⟩ = some x4 ∧ b < W.heap.size :=
  ⟨cell_of_row W b 0 _ t (0, 0) h, cell_of_row W b 1 _ t (0, 0) h, cell_of_row W b 2 _ t (0, 0) h, cell_of_row W b 3 _ t (0, 0) h, cell_of_row W b 4 _ t (0, 0) h, (Array.getElem?_eq_some_iff.1 h).1⟩
theorem info_ent : (Tryz.prog.info? 33).map (·.size) = some 9 := by kernel_rfl
theorem ent_ret2 {fn : Func} {a : Act} {W : World} {R : Ending → World → Prop} {p u : Tmp} (h : fn.results = #[.cell p 33, .tmp u]) (b : Nat) (hp : a.tmps.getD p undef = .pointer (some ⟨b, 0, none⟩)) (x0 x1 x2 x3 x4 x5 x6 x7 x8 : Value)
    (hb : W.heap[b]? = some (.cells #[x0, x1, x2, x3, x4, x5, x6, x7, x8] 33 (0, 0))) (hdf : a.defers = []) (hR : R (.returned (.tuple #[.agg #[x0, x1, x2, x3, x4, x5, x6, x7, x8], a.tmps.getD u undef])) W) : bodyPost Tryz.prog fn R .ret a W :=
  ret_cell_tmp h b 0 hp [x0, x1, x2, x3, x4, x5, x6, x7, x8] _ (range_of_block hb 0 _ fun j _ => by rw [Nat.zero_add]) Tryz.underlying33 rfl info_ent hdf hR
/-- What the function knows before it looks at the words. -/
structure Ptr (r P : Nat) (a b c d e : ByteArray) (W : World) : Prop where
  res : W.heap[r]? = some (.cells #[.int .i64 0, .int .u16 0, .int .u16 0, .int .i64 0, .int .i64 0, .int .u16 0, .int .u16 0, .int .i64 0, .string ⟨#[]⟩] 33 (0, 0))
  row : W.heap[P]? = some (.cells #[.string a, .string b, .string c, .string d, .string e] 9 (0, 0))
theorem Ptr.below {r P : Nat} {a b c d e : ByteArray} {W W' : World} (h : Ptr r P a b c d e W) (hb : Below W.heap.size W W') : Ptr r P a b c d e W' := ⟨block_below hb h.res, block_below hb h.row⟩
set_option maxRecDepth 100000 in
set_option maxHeartbeats 4000000 in
theorem trparse_no (s : ByteArray) (hs : s.size ≤ 1000) (hn : (Tr.words s).length ≠ 5) (w : World) (hL : LaidAt w) :
    Calls Tryz.prog 16 #[.string s] w fun e w' => e = .returned (.tuple #[trV Tr.zero, .int .i64 3]) ∧ Below w.heap.size w w' := by
  have hb0 := below_fresh w (.cells #[.int .i64 0, .int .u16 0, .int .u16 0, .int .i64 0, .int .i64 0, .int .u16 0, .int .u16 0, .int .i64 0, .string ⟨#[]⟩] 33)
  have HR := Lib.hid (heap_alloc_new w (.cells #[.int .i64 0, .int .u16 0, .int .u16 0, .int .i64 0, .int .i64 0, .int .u16 0, .int .u16 0, .int .i64 0, .string ⟨#[]⟩] 33))
  have HB0 := Lib.hid hb0
  have HS := Lib.hid (words_ok s (by omega) _ (hL.below hb0))
  generalize (Tr.words s).length = n at hn HS
  have hn' : ¬ (n : Int) = 5 := by omega
  clear hb0 hL hn
  go_enter Tryz.func16, Tryz.ntmps16
  go_wp2_with (go_at_call 78; refine HS.out.mono ?_; rintro e w1 ⟨P, rfl, hP, hb1⟩; have hr1 := block_below hb1 HR.out; have HR1 := Lib.hid hr1; have HB1 := Lib.hid hb1; obtain ⟨⟨x0, x1, x2, x3, x4, x5, x6, x7, x8⟩, ⟨z0, z1, z2, z3, z4, z5, z6, z7, z8⟩, hlt⟩ := nine_cells hr1; clear hr1 hP hb1)
  refine ent_ret2 Tryz.results16 w.heap.size rfl _ _ _ _ _ _ _ _ _ (set_nine _ _ _ _ _ _ _ _ _ _ _ _ _ _ _ _ _ _ _ _ _ HR1.out) rfl ⟨rfl, below_nine (below_here HB0.out HB1.out) (Nat.le_refl _) _ _ _ _ _ _ _ _ _⟩
/-- What Atoi tells of a text. -/
def AtoiP (p : ByteArray) (v : Int) (ev : Value) : Prop := (Lib.atoiAll p.data.toList = .ok v ∧ ev = .nilIface ∧ v ≤ 9223372036854775807) ∨ ((∀ u, Lib.atoiAll p.data.toList ≠ .ok u) ∧ ∃ t N, ev = .iface t (.pointer (some ⟨N, 0, none⟩)))
theorem atoi_any (p : ByteArray) (hp : p.size ≤ 1000) (w : World) (hL : LaidAt w) : Calls Tryz.prog 79 #[.string p] w fun e w' => ∃ v ev, e = .returned (.tuple #[.int .i64 v, ev]) ∧ AtoiP p v ev ∧ Below w.heap.size w w' := by
  by_cases h : ∃ v, Lib.atoiAll p.data.toList = .ok v
  · obtain ⟨v, hv⟩ := h
    exact (atoi_ok p hp v hv w).mono fun e w' ⟨h1, h2⟩ => ⟨v, _, h1, .inl ⟨hv, rfl, (Lib.atoiAll_bounds hv).2⟩, h2⟩
  · have h' : ∀ u, Lib.atoiAll p.data.toList ≠ .ok u := fun u hu => h ⟨u, hu⟩
    exact (atoi_bad p hp h' w hL).mono fun e w' ⟨v, t, N, h1, h2⟩ => ⟨v, _, h1, .inr ⟨h', t, N, rfl⟩, h2⟩
theorem idn_parse_e (l : List UInt8) : (Idn.parse l).2 = 0 ∨ (Idn.parse l).2 = 3 := by unfold Idn.parse; split <;> (try split) <;> (try split) <;> simp
theorem idn_parse_lab (l : List UInt8) : Lab.ok (Idn.parse l).1.1 := by
  unfold Idn.parse
  split
  · exact ⟨by decide, by decide⟩
  · split
    · exact ⟨by decide, by decide⟩
    · split
      · exact lab_parse_lab _
      · exact ⟨by decide, by decide⟩
/-- The seven ways at the test behind the calls. -/
theorem tr_ways {a b c d e : ByteArray} (ha : a.size ≤ 6) (hd : d.size ≤ 6) (he : e.size ≤ 510) {v1 v2 : Int} {ev1 ev2 : Value} (h1 : AtoiP a v1 ev1) (h2 : AtoiP d v2 ev2) :
    (Tr.cand5 a b c d e = none ∧ ((∃ t N, ev1 = .iface t (.pointer (some ⟨N, 0, none⟩))) ∨ (ev1 = .nilIface ∧ ∃ t N, ev2 = .iface t (.pointer (some ⟨N, 0, none⟩))) ∨ (ev1 = .nilIface ∧ ev2 = .nilIface ∧ (Idn.parse b.data.toList).2 = 3) ∨ (ev1 = .nilIface ∧ ev2 = .nilIface ∧ (Idn.parse b.data.toList).2 = 0 ∧ (Lab.parse c.data.toList).2 = 3) ∨ (ev1 = .nilIface ∧ ev2 = .nilIface ∧ (Idn.parse b.data.toList).2 = 0 ∧ (Lab.parse c.data.toList).2 = 0 ∧ v1 < 0) ∨ (ev1 = .nilIface ∧ ev2 = .nilIface ∧ (Idn.parse b.data.toList).2 = 0 ∧ (Lab.parse c.data.toList).2 = 0 ∧ 0 ≤ v1 ∧ v2 < 0))) ∨
    (Tr.cand5 a b c d e = some (v1, (Idn.parse b.data.toList).1, (Lab.parse c.data.toList).1, v2, ⟨(Tr.unhex e.data.toList).toArray⟩) ∧ ev1 = .nilIface ∧ ev2 = .nilIface ∧ (Idn.parse b.data.toList).2 = 0 ∧ (Lab.parse c.data.toList).2 = 0 ∧ 0 ≤ v1 ∧ 0 ≤ v2 ∧ v1 ≤ 9223372036854775807 ∧ v2 ≤ 9223372036854775807) := by
  unfold Tr.cand5
  rw [if_pos ⟨ha, hd, he⟩]
  rcases h1 with ⟨h1, rfl, b1⟩ | ⟨h1, t, N, rfl⟩
  · rcases h2 with ⟨h2, rfl, b2⟩ | ⟨h2, t, N, rfl⟩
    · rw [h1, h2]
      dsimp only
      rcases idn_parse_e b.data.toList with e1 | e1
      · rcases lab_parse_e c.data.toList with e2 | e2
        · by_cases hv1 : 0 ≤ v1
          · by_cases hv2 : 0 ≤ v2
            · rw [if_pos ⟨e1, e2, hv1, hv2⟩]; exact .inr ⟨rfl, rfl, rfl, e1, e2, hv1, hv2, b1, b2⟩
            · rw [if_neg (fun h => hv2 h.2.2.2)]; exact .inl ⟨rfl, .inr (.inr (.inr (.inr (.inr ⟨rfl, rfl, e1, e2, hv1, by omega⟩))))⟩
          · rw [if_neg (fun h => hv1 h.2.2.1)]; exact .inl ⟨rfl, .inr (.inr (.inr (.inr (.inl ⟨rfl, rfl, e1, e2, by omega⟩))))⟩
        · rw [if_neg (fun h => by rw [e2] at h; exact absurd h.2.1 (by decide))]; exact .inl ⟨rfl, .inr (.inr (.inr (.inl ⟨rfl, rfl, e1, e2⟩)))⟩
      · rw [if_neg (fun h => by rw [e1] at h; exact absurd h.1 (by decide))]; exact .inl ⟨rfl, .inr (.inr (.inl ⟨rfl, rfl, e1⟩))⟩
    · refine .inl ⟨?_, .inr (.inl ⟨rfl, t, N, rfl⟩)⟩
      rw [h1]
      cases e3 : Lib.atoiAll d.data.toList with
      | ok u => exact absurd e3 (h2 u)
      | range => rfl
      | _ => rfl
  · refine .inl ⟨?_, .inl ⟨t, N, rfl⟩⟩
    cases e3 : Lib.atoiAll a.data.toList with
    | ok u => exact absurd e3 (h1 u)
    | range => rfl
    | _ => rfl
end Go.Proofs.YtdjndnoiankicaaGreatDoor
namespace Go.Proofs.YtdjndnoiankicaaGreatDoor
open Go.RowKit Go.Shelf
set_option linter.unusedSimpArgs false
set_option linter.unusedVariables false
attribute [local go_sem] cell_over frozen_over

set_option maxRecDepth 100000 in
set_option maxHeartbeats 4000000 in
theorem trparse_sz (s : ByteArray) (hs : s.size ≤ 1000) (a b c d e : ByteArray) (hw : Tr.words s = [a, b, c, d, e]) (hz : ¬ (a.size ≤ 6 ∧ d.size ≤ 6 ∧ e.size ≤ 510)) (w : World) (hL : LaidAt w) :
    Calls Tryz.prog 16 #[.string s] w fun e w' => e = .returned (.tuple #[trV Tr.zero, .int .i64 3]) ∧ Below w.heap.size w w' := by
  have hb0 := below_fresh w (.cells #[.int .i64 0, .int .u16 0, .int .u16 0, .int .i64 0, .int .i64 0, .int .u16 0, .int .u16 0, .int .i64 0, .string ⟨#[]⟩] 33)
  have HR := Lib.hid (heap_alloc_new w (.cells #[.int .i64 0, .int .u16 0, .int .u16 0, .int .i64 0, .int .i64 0, .int .u16 0, .int .u16 0, .int .i64 0, .string ⟨#[]⟩] 33))
  have HB0 := Lib.hid hb0
  have HS := Lib.hid (words_ok s (by omega) _ (hL.below hb0))
  rw [hw] at HS
  simp only [List.map_cons, List.map_nil, List.length_cons, List.length_nil, Nat.reduceAdd] at HS
  have HLw := Lib.hid hL
  clear hb0 hL
  have hway : 6 < a.size ∨ (a.size ≤ 6 ∧ 6 < d.size) ∨ (a.size ≤ 6 ∧ d.size ≤ 6 ∧ 510 < e.size) := by omega
  clear hz hw
  rcases hway with h1 | ⟨h1, h2⟩ | ⟨h1, h2, h3⟩
  · have g1 : (6 : Int) < a.size := by omega
    clear h1
    go_enter Tryz.func16, Tryz.ntmps16
    go_wp2_with fail
    refine HS.out.mono ?_
    rintro r w1 ⟨P, rfl, hP, hb1⟩
    have HP1 := Lib.hid (show Ptr w.heap.size P a b c d e w1 from ⟨block_below hb1 HR.out, hP⟩)
    have HB1 := Lib.hid (below_here HB0.out hb1)
    clear hP hb1
    obtain ⟨⟨x0, x1, x2, x3, x4, x5, x6, x7, x8⟩, ⟨z0, z1, z2, z3, z4, z5, z6, z7, z8⟩, hlt⟩ := nine_cells HP1.out.res
    obtain ⟨p0, p1, p2, p3, p4, hpl⟩ := five_cells HP1.out.row
    go_wp2_with fail
    refine ent_ret2 Tryz.results16 w.heap.size rfl _ _ _ _ _ _ _ _ _ (set_nine _ _ _ _ _ _ _ _ _ _ _ _ _ _ _ _ _ _ _ _ _ HP1.out.res) rfl ⟨rfl, below_nine HB1.out (Nat.le_refl _) _ _ _ _ _ _ _ _ _⟩
  · have g1 : ¬ (6 : Int) < a.size := by omega
    have g2 : (6 : Int) < d.size := by omega
    clear h1 h2
    go_enter Tryz.func16, Tryz.ntmps16
    go_wp2_with fail
    refine HS.out.mono ?_
    rintro r w1 ⟨P, rfl, hP, hb1⟩
    have HP1 := Lib.hid (show Ptr w.heap.size P a b c d e w1 from ⟨block_below hb1 HR.out, hP⟩)
    have HB1 := Lib.hid (below_here HB0.out hb1)
    clear hP hb1
    obtain ⟨⟨x0, x1, x2, x3, x4, x5, x6, x7, x8⟩, ⟨z0, z1, z2, z3, z4, z5, z6, z7, z8⟩, hlt⟩ := nine_cells HP1.out.res
    obtain ⟨p0, p1, p2, p3, p4, hpl⟩ := five_cells HP1.out.row
    go_wp2_with fail
    refine ent_ret2 Tryz.results16 w.heap.size rfl _ _ _ _ _ _ _ _ _ (set_nine _ _ _ _ _ _ _ _ _ _ _ _ _ _ _ _ _ _ _ _ _ HP1.out.res) rfl ⟨rfl, below_nine HB1.out (Nat.le_refl _) _ _ _ _ _ _ _ _ _⟩
  · have g1 : ¬ (6 : Int) < a.size := by omega
    have g2 : ¬ (6 : Int) < d.size := by omega
    have g3 : (510 : Int) < e.size := by omega
    clear h1 h2 h3
    go_enter Tryz.func16, Tryz.ntmps16
    go_wp2_with fail
    refine HS.out.mono ?_
    rintro r w1 ⟨P, rfl, hP, hb1⟩
    have HP1 := Lib.hid (show Ptr w.heap.size P a b c d e w1 from ⟨block_below hb1 HR.out, hP⟩)
    have HB1 := Lib.hid (below_here HB0.out hb1)
    clear hP hb1
    obtain ⟨⟨x0, x1, x2, x3, x4, x5, x6, x7, x8⟩, ⟨z0, z1, z2, z3, z4, z5, z6, z7, z8⟩, hlt⟩ := nine_cells HP1.out.res
    obtain ⟨p0, p1, p2, p3, p4, hpl⟩ := five_cells HP1.out.row
    go_wp2_with fail
    refine ent_ret2 Tryz.results16 w.heap.size rfl _ _ _ _ _ _ _ _ _ (set_nine _ _ _ _ _ _ _ _ _ _ _ _ _ _ _ _ _ _ _ _ _ HP1.out.res) rfl ⟨rfl, below_nine HB1.out (Nat.le_refl _) _ _ _ _ _ _ _ _ _⟩
set_option maxRecDepth 100000 in
set_option maxHeartbeats 8000000 in
theorem trparse_five (s : ByteArray) (hs : s.size ≤ 1000) (a b c d e : ByteArray) (hw : Tr.words s = [a, b, c, d, e]) (ha : a.size ≤ 6) (hd : d.size ≤ 6) (he : e.size ≤ 510) (w : World) (hL : LaidAt w) :
    Calls Tryz.prog 16 #[.string s] w fun r w' => r = .returned (.tuple #[trV (Tr.fin s (Tr.cand5 a b c d e)).1, .int .i64 (Tr.fin s (Tr.cand5 a b c d e)).2]) ∧ Below w.heap.size w w' := by
  have hb0 := below_fresh w (.cells #[.int .i64 0, .int .u16 0, .int .u16 0, .int .i64 0, .int .i64 0, .int .u16 0, .int .u16 0, .int .i64 0, .string ⟨#[]⟩] 33)
  have HR := Lib.hid (heap_alloc_new w (.cells #[.int .i64 0, .int .u16 0, .int .u16 0, .int .i64 0, .int .i64 0, .int .u16 0, .int .u16 0, .int .i64 0, .string ⟨#[]⟩] 33))
  have HB0 := Lib.hid hb0
  have HS := Lib.hid (words_ok s (by omega) _ (hL.below hb0))
  rw [hw] at HS
  simp only [List.map_cons, List.map_nil, List.length_cons, List.length_nil, Nat.reduceAdd] at HS
  have HLw := Lib.hid hL
  clear hb0 hL
  have hbs : b.size ≤ s.size := Tr.words_size s b (by rw [hw]; simp)
  have hcs : c.size ≤ s.size := Tr.words_size s c (by rw [hw]; simp)
  have A1 := Lib.hid (fun w h => atoi_any a (by omega) w h)
  have A2 := Lib.hid (fun w h => atoi_any d (by omega) w h)
  have P1 := Lib.hid (fun w h => iparse_ok b (by omega) w h)
  have P2 := Lib.hid (fun w h => lparse_ok c (by omega) w h)
  have HWY := Lib.hid (fun (v1 v2 : Int) (ev1 ev2 : Value) h1 h2 => tr_ways (b := b) (c := c) ha hd he (v1 := v1) (v2 := v2) (ev1 := ev1) (ev2 := ev2) h1 h2)
  have g1 : ¬ (6 : Int) < a.size := by omega
  have g2 : ¬ (6 : Int) < d.size := by omega
  have g3 : ¬ (510 : Int) < e.size := by omega
  have HOI := Lib.hid (idn_parse_lab b.data.toList)
  have HOL := Lib.hid (lab_parse_lab c.data.toList)
  have HES := Lib.hid he
  generalize Tr.cand5 a b c d e = cd at HWY ⊢
  obtain ⟨pi, hpi⟩ : ∃ pi, pi = Idn.parse b.data.toList := ⟨_, rfl⟩
  obtain ⟨pl, hpl0⟩ : ∃ pl, pl = Lab.parse c.data.toList := ⟨_, rfl⟩
  rw [← hpi] at P1 HWY HOI
  rw [← hpl0] at P2 HWY HOL
  clear hpi hpl0 hw hbs hcs ha hd he
  obtain ⟨⟨⟨i1, i2⟩, i3, i4⟩, ie⟩ := pi
  obtain ⟨⟨l1, l2⟩, le⟩ := pl
  simp only at P1 P2 HWY HOI HOL
  go_enter Tryz.func16, Tryz.ntmps16
  go_wp2_with fail
  refine HS.out.mono ?_
  rintro r w1 ⟨P, rfl, hP, hb1⟩
  have HP1 := Lib.hid (show Ptr w.heap.size P a b c d e w1 from ⟨block_below hb1 HR.out, hP⟩)
  have HB1 := Lib.hid (below_here HB0.out hb1)
  clear hP hb1
  obtain ⟨⟨x0, x1, x2, x3, x4, x5, x6, x7, x8⟩, ⟨z0, z1, z2, z3, z4, z5, z6, z7, z8⟩, hlt⟩ := nine_cells HP1.out.res
  obtain ⟨p0, p1, p2, p3, p4, hpl⟩ := five_cells HP1.out.row
  go_wp2_with fail
  clear x0 x1 x2 x3 x4 x5 x6 x7 x8 z0 z1 z2 z3 z4 z5 z6 z7 z8 hlt p0 p1 p2 p3 p4 hpl
  refine (A1.out _ (HLw.out.below HB1.out)).mono ?_
  rintro r w2 ⟨v1, ev1, rfl, ha1, hb⟩
  have HP2 := Lib.hid (HP1.out.below hb)
  have HB2 := Lib.hid (below_here HB1.out hb)
  have HA1 := Lib.hid ha1
  clear hb ha1
  obtain ⟨⟨x0, x1, x2, x3, x4, x5, x6, x7, x8⟩, ⟨z0, z1, z2, z3, z4, z5, z6, z7, z8⟩, hlt⟩ := nine_cells HP2.out.res
  obtain ⟨p0, p1, p2, p3, p4, hpl⟩ := five_cells HP2.out.row
  go_wp2_with fail
  clear x0 x1 x2 x3 x4 x5 x6 x7 x8 z0 z1 z2 z3 z4 z5 z6 z7 z8 hlt p0 p1 p2 p3 p4 hpl
  refine (A2.out _ (HLw.out.below HB2.out)).mono ?_
  rintro r w3 ⟨v2, ev2, rfl, ha2, hb⟩
  have HP3 := Lib.hid (HP2.out.below hb)
  have HB3 := Lib.hid (below_here HB2.out hb)
  have HA2 := Lib.hid ha2
  clear hb ha2
  obtain ⟨⟨x0, x1, x2, x3, x4, x5, x6, x7, x8⟩, ⟨z0, z1, z2, z3, z4, z5, z6, z7, z8⟩, hlt⟩ := nine_cells HP3.out.res
  obtain ⟨p0, p1, p2, p3, p4, hpl⟩ := five_cells HP3.out.row
  go_wp2_with fail
  clear x0 x1 x2 x3 x4 x5 x6 x7 x8 z0 z1 z2 z3 z4 z5 z6 z7 z8 hlt p0 p1 p2 p3 p4 hpl
  refine (P1.out _ (HLw.out.below HB3.out)).mono ?_
  rintro r w4 ⟨rfl, hb⟩
  have hbx := below_fresh w4 (.cells #[.int .u16 (i1 : Int), .int .u16 (i2 : Int), .int .i64 i3, .int .i64 i4] 26)
  have HP4 := Lib.hid (HP3.out.below hb)
  have HP4' := Lib.hid (HP4.out.below hbx)
  have HB4 := Lib.hid (below_here (below_here HB3.out hb) hbx)
  have HI4 := Lib.hid (heap_alloc_new w4 (.cells #[.int .u16 (i1 : Int), .int .u16 (i2 : Int), .int .i64 i3, .int .i64 i4] 26))
  clear hb hbx
  obtain ⟨⟨x0, x1, x2, x3, x4, x5, x6, x7, x8⟩, ⟨z0, z1, z2, z3, z4, z5, z6, z7, z8⟩, hlt⟩ := nine_cells HP4.out.res
  obtain ⟨p0, p1, p2, p3, p4, hpl⟩ := five_cells HP4.out.row
  go_wp2_with fail
  clear x0 x1 x2 x3 x4 x5 x6 x7 x8 z0 z1 z2 z3 z4 z5 z6 z7 z8 hlt p0 p1 p2 p3 p4 hpl
  refine (P2.out _ (HLw.out.below HB4.out)).mono ?_
  rintro r w5 ⟨rfl, hb⟩
  have hbx := below_fresh w5 (.cells #[.int .u16 (l1 : Int), .int .u16 (l2 : Int)] 24)
  have HP5 := Lib.hid ((HP4'.out.below hb).below hbx)
  have HB5 := Lib.hid (below_here (below_here HB4.out hb) hbx)
  have HI5 := Lib.hid (block_below hbx (block_below hb HI4.out))
  have HL5 := Lib.hid (heap_alloc_new w5 (.cells #[.int .u16 (l1 : Int), .int .u16 (l2 : Int)] 24))
  clear hb hbx
  go_upto_region 8 with (fail)
  generalize w5.alloc (.cells #[.int .u16 (l1 : Int), .int .u16 (l2 : Int)] 24) = w6 at HP5 HB5 HI5 HL5 ⊢
  generalize w5.heap.size = n5 at HL5 ⊢
  generalize w4.heap.size = n4 at HI5 ⊢
  obtain ⟨⟨x0, x1, x2, x3, x4, x5, x6, x7, x8⟩, ⟨z0, z1, z2, z3, z4, z5, z6, z7, z8⟩, hlt⟩ := nine_cells HP5.out.res
  obtain ⟨p0, p1, p2, p3, p4, hpl⟩ := five_cells HP5.out.row
  have hways := HWY.out _ _ _ _ HA1.out HA2.out
  clear HWY HA1 HA2 HP1 HP2 HP3 HP4 HP4' HB1 HB2 HB3 HB4 HI4 A1 A2 P1 P2
  rcases hways with ⟨hc0, hways⟩ | ⟨hc0, rfl, rfl, rfl, rfl, k1, k2, b1, b2⟩
  · subst hc0
    clear HI5 HL5 HOI HOL HES
    rcases hways with ⟨t, N, rfl⟩ | ⟨rfl, t, N, rfl⟩ | ⟨rfl, rfl, rfl⟩ | ⟨rfl, rfl, rfl, rfl⟩ | ⟨rfl, rfl, rfl, rfl, k1⟩ | ⟨rfl, rfl, rfl, rfl, k1, k2⟩
    all_goals
      go_wp2_with fail
      refine ent_ret2 Tryz.results16 w.heap.size rfl _ _ _ _ _ _ _ _ _ (set_nine _ _ _ _ _ _ _ _ _ _ _ _ _ _ _ _ _ _ _ _ _ HP5.out.res) rfl ⟨rfl, below_nine HB5.out (Nat.le_refl _) _ _ _ _ _ _ _ _ _⟩
  · subst hc0
    obtain ⟨⟨q0, q1, q2, q3⟩, q4, q5, q6, q7, q8⟩ := quad_cells HI5.out
    obtain ⟨m0, m1, m2, m3⟩ := pair_cells HL5.out
    have hlm : n5 < w6.heap.size := World.block_lt_of_cell? w6 _ m0
    have U1 := Lib.hid (fun w => unhex_ok e (by have := HES.out; omega) w)
    have hul : (⟨(Tr.unhex e.data.toList).toArray⟩ : ByteArray).size ≤ 1000 := by
      have h : (Tr.unhex e.data.toList).length ≤ e.data.toList.length := by
        unfold Tr.unhex; split
        · simp
        · exact Tr.unhexl_len _
      have h2 : e.data.toList.length = e.size := by rw [Array.length_toList]; rfl
      have h3 : (⟨(Tr.unhex e.data.toList).toArray⟩ : ByteArray).size = (Tr.unhex e.data.toList).length := by simp [ByteArray.size]
      have := HES.out
      omega
    obtain ⟨da, hda⟩ : ∃ da : ByteArray, da = ⟨(Tr.unhex e.data.toList).toArray⟩ := ⟨_, rfl⟩
    rw [← hda] at U1 hul
    have HDA := Lib.hid hda
    clear hda
    have HOK : Hid (Tr.ok (v1, ((i1, i2), i3, i4), (l1, l2), v2, da)) := Lib.hid ⟨⟨by show (-9223372036854775808 : Int) ≤ v1; omega, b1⟩, HOI.out, HOL.out, by show (-9223372036854775808 : Int) ≤ v2; omega, b2⟩
    go_upto_region 10 with (fail)
    refine wp_region_freeA 11 [some 92, some 93, some 94, some 95, some 96, some 97, some 98, some 99, some 100, some 101, some 13] (fun W => ∃ X, W = over w6 X) [Fact.is (.int .i64 v1), Fact.is (.agg #[.int .u16 (i1 : Int), .int .u16 (i2 : Int), .int .i64 i3, .int .i64 i4]), Fact.is (.agg #[.int .u16 (l1 : Int), .int .u16 (l2 : Int)]), Fact.is (.int .i64 v2), Fact.is (.slice (some ⟨P, 0, none⟩) 5 5), Fact.is (.pointer (some ⟨P, 4, none⟩)), Fact.is (.string e), Fact.is (.string da), Fact.is (.agg #[.int .i64 v2, .string da]), Fact.is (.agg #[.int .i64 v1, .int .u16 (i1 : Int), .int .u16 (i2 : Int), .int .i64 i3, .int .i64 i4, .int .u16 (l1 : Int), .int .u16 (l2 : Int), .int .i64 v2, .string da]), Fact.blk w6.heap.size (.cells #[.int .i64 0, .int .u16 0, .int .u16 0, .int .i64 0, .int .i64 0, .int .u16 0, .int .u16 0, .int .i64 0, .string ⟨#[]⟩] 33)] [10] (by kernel_rfl) (by kernel_rfl) ?same (over_of (Below.refl _ _).drew) ?steps ?fin
    case same => kernel_rfl
    case steps =>
      simp only [List.take_succ_cons, List.take_zero, stepsI]
      refine ⟨⟨fun v u => by kernel_rfl, ?s0⟩, ⟨fun v u => by kernel_rfl, ?s1⟩, ⟨fun v u => by kernel_rfl, ?s2⟩, ⟨fun v u => by kernel_rfl, ?s3⟩, ⟨fun v u => by kernel_rfl, ?s4⟩, ⟨fun v u => by kernel_rfl, ?s5⟩, ⟨fun v u => by kernel_rfl, ?s6⟩, ⟨fun v u => by kernel_rfl, ?s7⟩, ⟨fun v u => by kernel_rfl, ?s8⟩, ⟨fun v u => by kernel_rfl, ?s9⟩, ⟨fun v u => by kernel_rfl, ?s10⟩, trivial⟩
      case s0 =>
        intro v W hW hp
        obtain ⟨X, rfl⟩ := hW
        clear hp
        simp only [mkA, setAll, List.setIfInBounds_toArray, List.set_cons_succ, List.set_cons_zero]
        refine .inl ⟨rfl, ?_⟩
        go_simp
        first | exact ⟨⟨X, rfl⟩, Below.refl _ _, rfl⟩ | exact ⟨⟨X, rfl⟩, Below.refl _ _, rfl, fun h => by cases h⟩
      case s1 =>
        intro v W hW hp
        obtain ⟨X, rfl⟩ := hW
        clear hp
        simp only [mkA, setAll, List.setIfInBounds_toArray, List.set_cons_succ, List.set_cons_zero]
        refine .inl ⟨rfl, ?_⟩
        go_simp
        first | exact ⟨⟨X, rfl⟩, Below.refl _ _, rfl⟩ | exact ⟨⟨X, rfl⟩, Below.refl _ _, rfl, fun h => by cases h⟩
      case s2 =>
        intro v W hW hp
        obtain ⟨X, rfl⟩ := hW
        clear hp
        simp only [mkA, setAll, List.setIfInBounds_toArray, List.set_cons_succ, List.set_cons_zero]
        refine .inl ⟨rfl, ?_⟩
        go_simp
        first | exact ⟨⟨X, rfl⟩, Below.refl _ _, rfl⟩ | exact ⟨⟨X, rfl⟩, Below.refl _ _, rfl, fun h => by cases h⟩
      case s3 =>
        intro v W hW hp
        obtain ⟨X, rfl⟩ := hW
        clear hp
        simp only [mkA, setAll, List.setIfInBounds_toArray, List.set_cons_succ, List.set_cons_zero]
        refine .inl ⟨rfl, ?_⟩
        go_simp
        first | exact ⟨⟨X, rfl⟩, Below.refl _ _, rfl⟩ | exact ⟨⟨X, rfl⟩, Below.refl _ _, rfl, fun h => by cases h⟩
      case s4 =>
        intro v W hW hp
        obtain ⟨X, rfl⟩ := hW
        clear hp
        simp only [mkA, setAll, List.setIfInBounds_toArray, List.set_cons_succ, List.set_cons_zero]
        refine .inl ⟨rfl, ?_⟩
        go_simp
        first | exact ⟨⟨X, rfl⟩, Below.refl _ _, rfl⟩ | exact ⟨⟨X, rfl⟩, Below.refl _ _, rfl, fun h => by cases h⟩
      case s5 =>
        intro v W hW hp
        obtain ⟨X, rfl⟩ := hW
        have g4 : v 4 = .slice (some ⟨P, 0, none⟩) 5 5 := hp ⟨4, .data⟩ (by simp) rfl
        clear hp
        simp only [mkA, setAll, List.setIfInBounds_toArray, List.set_cons_succ, List.set_cons_zero]
        refine .inl ⟨rfl, ?_⟩
        go_simp
        first | exact ⟨⟨X, rfl⟩, Below.refl _ _, rfl⟩ | exact ⟨⟨X, rfl⟩, Below.refl _ _, rfl, fun h => by cases h⟩
      case s6 =>
        intro v W hW hp
        obtain ⟨X, rfl⟩ := hW
        have g5 : v 5 = .pointer (some ⟨P, 4, none⟩) := hp ⟨5, .data⟩ (by simp) rfl
        clear hp
        simp only [mkA, setAll, List.setIfInBounds_toArray, List.set_cons_succ, List.set_cons_zero]
        refine .inl ⟨rfl, ?_⟩
        go_simp
        first | exact ⟨⟨X, rfl⟩, Below.refl _ _, rfl⟩ | exact ⟨⟨X, rfl⟩, Below.refl _ _, rfl, fun h => by cases h⟩
      case s7 =>
        intro v W hW hp
        obtain ⟨X, rfl⟩ := hW
        have g6 : v 6 = .string e := hp ⟨6, .data⟩ (by simp) rfl
        clear hp
        simp only [mkA, setAll, List.setIfInBounds_toArray, List.set_cons_succ, List.set_cons_zero]
        refine .inl ⟨rfl, ?_⟩
        go_simp
        refine (U1.out _).mono ?_
        rintro r W2 ⟨rfl, hb2⟩
        first | exact ⟨_, rfl, over_of (below_here (over_below _ _) hb2), hb2, rfl⟩ | exact ⟨_, rfl, over_of (below_here (over_below _ _) hb2), hb2, rfl, fun h => by cases h⟩
      case s8 =>
        intro v W hW hp
        obtain ⟨X, rfl⟩ := hW
        have g3 : v 3 = .int .i64 v2 := hp ⟨3, .data⟩ (by simp) rfl
        have g7 : v 7 = .string da := hp ⟨7, .data⟩ (by simp) rfl
        clear hp
        simp only [mkA, setAll, List.setIfInBounds_toArray, List.set_cons_succ, List.set_cons_zero]
        refine .inl ⟨rfl, ?_⟩
        go_simp
        first | exact ⟨⟨X, rfl⟩, Below.refl _ _, rfl⟩ | exact ⟨⟨X, rfl⟩, Below.refl _ _, rfl, fun h => by cases h⟩
      case s9 =>
        intro v W hW hp
        obtain ⟨X, rfl⟩ := hW
        have g0 : v 0 = .int .i64 v1 := hp ⟨0, .data⟩ (by simp) rfl
        have g1 : v 1 = .agg #[.int .u16 (i1 : Int), .int .u16 (i2 : Int), .int .i64 i3, .int .i64 i4] := hp ⟨1, .data⟩ (by simp) rfl
        have g2 : v 2 = .agg #[.int .u16 (l1 : Int), .int .u16 (l2 : Int)] := hp ⟨2, .data⟩ (by simp) rfl
        have g8 : v 8 = .agg #[.int .i64 v2, .string da] := hp ⟨8, .data⟩ (by simp) rfl
        clear hp
        simp only [mkA, setAll, List.setIfInBounds_toArray, List.set_cons_succ, List.set_cons_zero]
        refine .inl ⟨rfl, ?_⟩
        go_simp
        first | exact ⟨⟨X, rfl⟩, Below.refl _ _, rfl⟩ | exact ⟨⟨X, rfl⟩, Below.refl _ _, rfl, fun h => by cases h⟩
      case s10 =>
        intro v W hW hp
        obtain ⟨X, rfl⟩ := hW
        clear hp
        simp only [mkA, setAll, List.setIfInBounds_toArray, List.set_cons_succ, List.set_cons_zero]
        refine .inl ⟨rfl, ?_⟩
        go_simp
        exact ⟨over_of (below_new (over_below _ _) _), below_fresh _ _, ⟨_, rfl, heap_alloc_new _ _, (over_below w6 X).size⟩, _, rfl, Nat.le_refl _, by simp⟩
    case fin =>
      intro v W hW hR hD
      have hbW := below_of_over hW
      have g9 : v 9 = _ := hR 9 (by omega)
      obtain ⟨p, g10, hp, hNp⟩ := hR 10 (by omega)
      simp only [List.drop_succ_cons, List.drop_zero, mkA, setAll, List.setIfInBounds_toArray, List.set_cons_succ, List.set_cons_zero, g9, g10]
      generalize v 0 = u0
      generalize v 1 = u1
      generalize v 2 = u2
      generalize v 3 = u3
      generalize v 4 = u4
      generalize v 5 = u5
      generalize v 6 = u6
      generalize v 7 = u7
      generalize v 8 = u8
      clear hR hD hW g9 g10 q0 q1 q2 q3 q4 q5 q6 q7 q8 m0 m1 m2 m3 hlm x0 x1 x2 x3 x4 x5 x6 x7 x8 z0 z1 z2 z3 z4 z5 z6 z7 z8 hlt p0 p1 p2 p3 p4 hpl
      obtain ⟨⟨x0, x1, x2, x3, x4, x5, x6, x7, x8⟩, ⟨z0, z1, z2, z3, z4, z5, z6, z7, z8⟩, hlt⟩ := nine_cells hp
      go_upto_region 11 with (fail)
      have hb7 : Below w6.heap.size w6 (((((((((W.setCell ⟨p, 0, none⟩ (.int .i64 v1)).setCell ⟨p, 1, none⟩ (.int .u16 (i1 : Int))).setCell ⟨p, 2, none⟩ (.int .u16 (i2 : Int))).setCell ⟨p, 3, none⟩ (.int .i64 i3)).setCell ⟨p, 4, none⟩ (.int .i64 i4)).setCell ⟨p, 5, none⟩ (.int .u16 (l1 : Int))).setCell ⟨p, 6, none⟩ (.int .u16 (l2 : Int))).setCell ⟨p, 7, none⟩ (.int .i64 v2)).setCell ⟨p, 8, none⟩ (.string da)) := below_nine hbW hNp _ _ _ _ _ _ _ _ _
      have hp7 := set_nine W p _ _ _ _ _ _ _ _ _ _ (.int .i64 v1) (.int .u16 (i1 : Int)) (.int .u16 (i2 : Int)) (.int .i64 i3) (.int .i64 i4) (.int .u16 (l1 : Int)) (.int .u16 (l2 : Int)) (.int .i64 v2) (.string da) hp
      generalize (((((((((W.setCell ⟨p, 0, none⟩ (.int .i64 v1)).setCell ⟨p, 1, none⟩ (.int .u16 (i1 : Int))).setCell ⟨p, 2, none⟩ (.int .u16 (i2 : Int))).setCell ⟨p, 3, none⟩ (.int .i64 i3)).setCell ⟨p, 4, none⟩ (.int .i64 i4)).setCell ⟨p, 5, none⟩ (.int .u16 (l1 : Int))).setCell ⟨p, 6, none⟩ (.int .u16 (l2 : Int))).setCell ⟨p, 7, none⟩ (.int .i64 v2)).setCell ⟨p, 8, none⟩ (.string da)) = w7 at hb7 hp7 ⊢
      have HB7 := Lib.hid (below_here HB5.out hb7)
      have HR7 := Lib.hid (HP5.out.below hb7).res
      have HL7 := Lib.hid (HLw.out.below (below_here HB5.out hb7))
      have HQ7 := Lib.hid hp7
      clear hbW hNp hp x0 x1 x2 x3 x4 x5 x6 x7 x8 z0 z1 z2 z3 z4 z5 z6 z7 z8 hlt hb7
      obtain ⟨⟨x0, x1, x2, x3, x4, x5, x6, x7, x8⟩, ⟨z0, z1, z2, z3, z4, z5, z6, z7, z8⟩, hlt⟩ := nine_cells hp7
      clear hp7
      have HTL := Lib.hid (fun w hT hW => trline_ok (v1, ((i1, i2), i3, i4), (l1, l2), v2, da) HOK.out (by show da.size ≤ 1000000; omega) w hT hW)
      have HBI := Lib.hid (bytes_of_list (s := s) (l := Tr.line (v1, ((i1, i2), i3, i4), (l1, l2), v2, da)))
      have HFIN : Hid (Tr.fin s (some (v1, ((i1, i2), i3, i4), (l1, l2), v2, ⟨(Tr.unhex e.data.toList).toArray⟩)) = if Tr.line (v1, ((i1, i2), i3, i4), (l1, l2), v2, da) = s.data.toList then ((v1, ((i1, i2), i3, i4), (l1, l2), v2, da), 0) else (Tr.zero, 3)) := Lib.hid (by rw [← HDA.out]; rfl)
      generalize Tr.line (v1, ((i1, i2), i3, i4), (l1, l2), v2, da) = tx at HTL HBI HFIN
      by_cases htx : tx = s.data.toList
      · have hts := HBI.out.2 htx
        rw [if_pos htx] at HFIN
        rw [hts] at HTL
        clear hts htx HBI
        go_wp2_with fail
        refine (HTL.out _ HL7.out.tab HL7.out.pow).mono ?_
        rintro r w8 ⟨rfl, hb8⟩
        have HB8 := Lib.hid (below_here HB7.out hb8)
        have HR8 := Lib.hid (block_below hb8 HR7.out)
        have HQ8 := Lib.hid (block_below hb8 HQ7.out)
        clear hb8 x0 x1 x2 x3 x4 x5 x6 x7 x8 z0 z1 z2 z3 z4 z5 z6 z7 z8 hlt
        obtain ⟨⟨x0, x1, x2, x3, x4, x5, x6, x7, x8⟩, ⟨z0, z1, z2, z3, z4, z5, z6, z7, z8⟩, hlt⟩ := nine_cells HQ8.out
        obtain ⟨⟨c0, c1, c2, c3, c4, c5, c6, c7, c8⟩, ⟨f0, f1, f2, f3, f4, f5, f6, f7, f8⟩, hlt2⟩ := nine_cells HR8.out
        go_wp2_with fail
        refine ent_ret2 Tryz.results16 w.heap.size rfl _ _ _ _ _ _ _ _ _ (set_nine _ _ _ _ _ _ _ _ _ _ _ _ _ _ _ _ _ _ _ _ _ HR8.out) rfl ⟨(congrArg (fun r : Tr.E × Int => Ending.returned (.tuple #[trV r.1, .int .i64 r.2])) HFIN.out).symm, below_nine HB8.out (Nat.le_refl _) _ _ _ _ _ _ _ _ _⟩
      · have hts := mt HBI.out.1 htx
        rw [if_neg htx] at HFIN
        generalize (⟨tx.toArray⟩ : ByteArray) = tb at HTL hts
        have hcmp : (tb.toList == s.toList) = false := (Lib.bytes_beq_false_iff _ _).2 hts
        clear htx HBI hts
        go_wp2_with fail
        refine (HTL.out _ HL7.out.tab HL7.out.pow).mono ?_
        rintro r w8 ⟨rfl, hb8⟩
        have HB8 := Lib.hid (below_here HB7.out hb8)
        have HR8 := Lib.hid (block_below hb8 HR7.out)
        have HQ8 := Lib.hid (block_below hb8 HQ7.out)
        clear hb8 x0 x1 x2 x3 x4 x5 x6 x7 x8 z0 z1 z2 z3 z4 z5 z6 z7 z8 hlt
        obtain ⟨⟨x0, x1, x2, x3, x4, x5, x6, x7, x8⟩, ⟨z0, z1, z2, z3, z4, z5, z6, z7, z8⟩, hlt⟩ := nine_cells HQ8.out
        obtain ⟨⟨c0, c1, c2, c3, c4, c5, c6, c7, c8⟩, ⟨f0, f1, f2, f3, f4, f5, f6, f7, f8⟩, hlt2⟩ := nine_cells HR8.out
        go_wp2_with fail
        refine ent_ret2 Tryz.results16 w.heap.size rfl _ _ _ _ _ _ _ _ _ (set_nine _ _ _ _ _ _ _ _ _ _ _ _ _ _ _ _ _ _ _ _ _ HR8.out) rfl ⟨(congrArg (fun r : Tr.E × Int => Ending.returned (.tuple #[trV r.1, .int .i64 r.2])) HFIN.out).symm, below_nine HB8.out (Nat.le_refl _) _ _ _ _ _ _ _ _ _⟩
end Go.Proofs.YtdjndnoiankicaaGreatDoor
namespace Go.Proofs.YtdjndnoiankicaaGreatDoor
open Go.RowKit Go.Shelf
set_option linter.unusedSimpArgs false
set_option linter.unusedVariables false
attribute [local go_sem] cell_over frozen_over

namespace Lab
theorem flows_ways {a b c : L} (ha : ok a) (hb : ok b) (hab : a ≠ b) : flows a b = false ∨ (flows a b = true ∧ flows b a = false ∧ flows b c = false) ∨ (flows a b = true ∧ flows b a = false ∧ flows b c = true ∧ flows a c = true) := by
  cases h1 : flows a b with
  | false => exact .inl rfl
  | true =>
    cases h2 : flows b a with
    | true => exact absurd (flows_anti ha hb h1 h2) hab
    | false =>
      cases h3 : flows b c with
      | false => exact .inr (.inl ⟨rfl, rfl, rfl⟩)
      | true => exact .inr (.inr ⟨rfl, rfl, rfl, flows_trans h1 h3⟩)
theorem cmp_ways (a b c : L) : (cmp a b = 0 ∧ cmp b a = 0) ∨ (cmp a b = 1 ∧ cmp b a = -1) ∨ (cmp a b = -1 ∧ cmp b a = 1 ∧ cmp b c = 0) ∨ (cmp a b = -1 ∧ cmp b a = 1 ∧ cmp b c = 1) ∨ (cmp a b = -1 ∧ cmp b a = 1 ∧ cmp b c = -1 ∧ cmp a c = -1) := by
  unfold cmp
  by_cases h1 : key a < key b
  · have h1' : ¬ key b < key a := by omega
    rw [if_pos h1, if_neg h1', if_pos h1]
    by_cases h2 : key b < key c
    · have h3 : key a < key c := by omega
      rw [if_pos h2, if_pos h3]; simp
    · by_cases h3 : key c < key b
      · rw [if_neg h2, if_pos h3]; simp
      · rw [if_neg h2, if_neg h3]; simp
  · rw [if_neg h1]
    by_cases h2 : key b < key a
    · rw [if_pos h2, if_pos h2]; simp
    · rw [if_neg h2, if_neg h2, if_neg h1]; simp
end Lab
/-- Three labels in blocks that follow one another. -/
def Tri (n : Nat) (a b c : Lab.L) (W : World) : Prop := LabIn n a W ∧ LabIn (n + 1) b W ∧ LabIn (n + 1 + 1) c W
theorem Tri.below {n : Nat} {a b c : Lab.L} {W W' : World} (h : Tri n a b c W) (hb : Below W.heap.size W W') : Tri n a b c W' := ⟨h.1.below hb, h.2.1.below hb, h.2.2.below hb⟩
theorem Tri.cells {n : Nat} {a b c : Lab.L} {W : World} (h : Tri n a b c W) : W.cell? ⟨n, 0, none⟩ = some (.int .u16 (a.1 : Int)) ∧ W.cell? ⟨n, 1, none⟩ = some (.int .u16 (a.2 : Int)) ∧ W.cell? ⟨n + 1, 0, none⟩ = some (.int .u16 (b.1 : Int)) ∧ W.cell? ⟨n + 1, 1, none⟩ = some (.int .u16 (b.2 : Int)) ∧
    W.cell? ⟨n + 1 + 1, 0, none⟩ = some (.int .u16 (c.1 : Int)) ∧ W.cell? ⟨n + 1 + 1, 1, none⟩ = some (.int .u16 (c.2 : Int)) ∧ n < W.heap.size ∧ n + 1 < W.heap.size ∧ n + 1 + 1 < W.heap.size :=
  ⟨h.1.cells.1, h.1.cells.2.1, h.2.1.cells.1, h.2.1.cells.2.1, h.2.2.cells.1, h.2.2.cells.2.1, h.1.cells.2.2, h.2.1.cells.2.2, h.2.2.cells.2.2⟩
theorem Tri.new (w : World) (a b c : Lab.L) : Tri w.heap.size a b c (((w.alloc (.cells #[.int .u16 (a.1 : Int), .int .u16 (a.2 : Int)] 24)).alloc (.cells #[.int .u16 (b.1 : Int), .int .u16 (b.2 : Int)] 24)).alloc (.cells #[.int .u16 (c.1 : Int), .int .u16 (c.2 : Int)] 24)) := by
  have h1 := LabIn.new w a
  have h2 := LabIn.new (w.alloc (.cells #[.int .u16 (a.1 : Int), .int .u16 (a.2 : Int)] 24)) b
  have h3 := LabIn.new ((w.alloc (.cells #[.int .u16 (a.1 : Int), .int .u16 (a.2 : Int)] 24)).alloc (.cells #[.int .u16 (b.1 : Int), .int .u16 (b.2 : Int)] 24)) c
  rw [World.size_alloc] at h2
  rw [World.size_alloc, World.size_alloc] at h3
  exact ⟨(h1.below (below_old _ _)).below (below_old _ _), h2.below (below_old _ _), h3⟩
end Go.Proofs.YtdjndnoiankicaaGreatDoor
namespace Go.Proofs.YtdjndnoiankicaaGreatDoor
open Go.RowKit Go.Shelf
set_option linter.unusedSimpArgs false
set_option linter.unusedVariables false
attribute [local go_sem] cell_over frozen_over

theorem trparse_ok (s : ByteArray) (hs : s.size ≤ 1000) (w : World) (hL : LaidAt w) :
    Calls Tryz.prog 16 #[.string s] w fun r w' => r = .returned (.tuple #[trV (Tr.parse s).1, .int .i64 (Tr.parse s).2]) ∧ Below w.heap.size w w' := by
  by_cases hn : (Tr.words s).length = 5
  · obtain ⟨a, b, c, d, e, hw⟩ : ∃ a b c d e, Tr.words s = [a, b, c, d, e] := by
      match h : Tr.words s, hn with
      | [a, b, c, d, e], _ => exact ⟨a, b, c, d, e, rfl⟩
    have hp : Tr.parse s = Tr.fin s (Tr.cand5 a b c d e) := by unfold Tr.parse Tr.cand; rw [hw]
    rw [hp]
    by_cases hz : a.size ≤ 6 ∧ d.size ≤ 6 ∧ e.size ≤ 510
    · exact trparse_five s hs a b c d e hw hz.1 hz.2.1 hz.2.2 w hL
    · have hc : Tr.cand5 a b c d e = none := by unfold Tr.cand5; rw [if_neg hz]
      rw [hc]
      exact trparse_sz s hs a b c d e hw hz w hL
  · have hc : Tr.cand s = none := by
      unfold Tr.cand
      split
      · rename_i h; rw [h] at hn; exact absurd rfl hn
      · rfl
    have hp : Tr.parse s = (Tr.zero, 3) := by unfold Tr.parse; rw [hc]; rfl
    rw [hp]
    exact trparse_no s hs hn w hL
namespace Tr
/-- An event: kind, from, to, epoch, role, by, used. -/
structure Ev where
  kind : Int
  src : Lab.L
  dst : Lab.L
  epoch : Int
  role : Int
  under : Lab.L
  used : Nat
def Ev.ok (e : Ev) : Prop := Lab.ok e.src ∧ Lab.ok e.dst ∧ Lab.ok e.under ∧ e.used < 65536
def crosses (e : Ev) (l : Lab.L) : Bool := decide (e.used ≠ 0) && !Lab.flows e.src l && Lab.flows e.dst l
end Tr
abbrev evV (e : Tr.Ev) : Value := .agg #[.int .i64 e.kind, .int .u16 (e.src.1 : Int), .int .u16 (e.src.2 : Int), .int .u16 (e.dst.1 : Int), .int .u16 (e.dst.2 : Int), .int .i64 e.epoch, .int .i64 e.role, .int .u16 (e.under.1 : Int), .int .u16 (e.under.2 : Int), .int .u16 (e.used : Int)]
set_option maxRecDepth 100000 in
set_option maxHeartbeats 1000000 in
theorem crosses_ok (e : Tr.Ev) (he : e.ok) (l : Lab.L) (hl : Lab.ok l) (w : World) : Calls Tryz.prog 74 #[evV e, labV l] w fun r w' => r = .returned (.bool (Tr.crosses e l)) ∧ Below w.heap.size w w' := by
  obtain ⟨h1, h2, h3, h4⟩ := he
  have F1 := Lib.hid (fun w => flows_ok e.src l h1 hl w)
  have F2 := Lib.hid (fun w => flows_ok e.dst l h2 hl w)
  have HC : Hid (Tr.crosses e l = (decide (e.used ≠ 0) && !Lab.flows e.src l && Lab.flows e.dst l)) := Lib.hid rfl
  obtain ⟨kd, ⟨s1, s2⟩, ⟨d1, d2⟩, ep, rl, ⟨u1, u2⟩, us⟩ := e
  simp only at F1 F2 HC
  generalize Lab.flows (s1, s2) l = x at F1 HC
  generalize Lab.flows (d1, d2) l = y at F2 HC
  have HB0 := Lib.hid (below_new (below_fresh w (.cells #[.int .i64 kd, .int .u16 (s1 : Int), .int .u16 (s2 : Int), .int .u16 (d1 : Int), .int .u16 (d2 : Int), .int .i64 ep, .int .i64 rl, .int .u16 (u1 : Int), .int .u16 (u2 : Int), .int .u16 (us : Int)] 127)) (.cells #[.int .u16 (l.1 : Int), .int .u16 (l.2 : Int)] 24))
  clear h1 h2 h3 h4 hl
  by_cases hu : us = 0
  · subst hu
    go_enter Tryz.func74, Tryz.ntmps74
    go_wp2_with fail
    go_ret
    exact ⟨by rw [HC.out]; rfl, HB0.out⟩
  · have hu' : ¬ (us : Int) = 0 := by omega
    have hu2 : ((us : Int) != 0) = true := by simpa using hu
    have hd : decide (us ≠ 0) = true := by simpa using hu
    rw [hd] at HC
    clear hd
    cases x with
    | true =>
      go_enter Tryz.func74, Tryz.ntmps74
      go_wp2_with fail
      refine (F1.out _).mono ?_
      rintro r w1 ⟨rfl, hb1⟩
      obtain ⟨hc, hf⟩ := bcell hb1
      go_wp2_with fail
      go_ret
      exact ⟨by rw [HC.out]; rfl, below_here HB0.out hb1⟩
    | false =>
      go_enter Tryz.func74, Tryz.ntmps74
      go_wp2_with fail
      refine (F1.out _).mono ?_
      rintro r w1 ⟨rfl, hb1⟩
      obtain ⟨hc, hf⟩ := bcell hb1
      go_wp2_with fail
      refine (F2.out _).mono ?_
      rintro r w2 ⟨rfl, hb2⟩
      go_wp2_with fail
      go_ret
      exact ⟨by rw [HC.out]; rfl, below_here (below_here HB0.out hb1) hb2⟩
end Go.Proofs.YtdjndnoiankicaaGreatDoor
namespace Go.Proofs.YtdjndnoiankicaaGreatDoor
open Go.RowKit Go.Shelf
set_option linter.unusedSimpArgs false
set_option linter.unusedVariables false

namespace Tr
/-! Numbers -/
theorem digitVal_dig {d : Nat} (h : d < 10) : Lib.digitVal (UInt8.ofNat (48 + d)) = some d := by
  have e : (UInt8.ofNat (48 + d)).toNat = 48 + d := by simp; omega
  unfold Lib.digitVal; rw [e, if_pos (by omega)]; simp
theorem decFrom_append : ∀ (l m : List UInt8) (acc : Nat), Lib.decFrom acc (l ++ m) = (Lib.decFrom acc l).bind fun n => Lib.decFrom n m
  | [], m, acc => rfl
  | b :: l, m, acc => by
    simp only [List.cons_append, Lib.decFrom]
    cases Lib.digitVal b with
    | none => rfl
    | some d => exact decFrom_append l m _
theorem decFrom_dec (u : Nat) : Lib.decFrom 0 (Lib.decDigits u) = some u := by
  induction u using Nat.strongRecOn with
  | _ u ih =>
    by_cases h : u < 10
    · rw [Lib.decDigits_one h]
      simp only [Lib.decFrom, digitVal_dig h]; congr 1; omega
    · rw [Lib.decDigits, dif_neg h, decFrom_append, ih _ (by omega)]
      simp only [Option.bind_some, Lib.decFrom, digitVal_dig (show u % 10 < 10 by omega)]
      congr 1; omega
theorem dec_ne (u : Nat) : Lib.decDigits u ≠ [] := fun h => by
  have := decFrom_dec u
  have h1 := Lib.decDigits_length u
  have h2 := Lib.nDigits_pos u
  rw [h] at h1; simp at h1; omega
theorem dec_digit (u : Nat) : ∀ b ∈ Lib.decDigits u, 48 ≤ b.toNat ∧ b.toNat ≤ 57 := fun b hb => by
  obtain ⟨k, hk⟩ := List.getElem?_of_mem hb
  obtain ⟨d, hd⟩ := Lib.digit_of_decFrom _ _ _ (decFrom_dec u) k b hk
  have := Lib.digitVal_eq hd
  omega
theorem atoi_digits {l : List UInt8} {n : Nat} (hne : l ≠ []) (h : Lib.decFrom 0 l = some n) : Lib.atoi l = some (n : Int) := by
  cases l with
  | nil => exact absurd rfl hne
  | cons b r =>
    obtain ⟨d, hd⟩ := Lib.digit_of_decFrom _ _ _ h 0 b rfl
    obtain ⟨h1, h2, _⟩ := Lib.digitVal_eq hd
    have h45 : (b == 45) = false := by
      rw [beq_eq_false_iff_ne]; intro e; rw [e] at h1; revert h1; decide
    have h43 : (b == 43) = false := by
      rw [beq_eq_false_iff_ne]; intro e; rw [e] at h1; revert h1; decide
    simp only [Lib.atoi, h45, h43, Bool.false_eq_true, if_false]
    unfold Lib.decNat
    rw [h]; rfl
theorem itoa_nat (u : Nat) : Lib.itoa (u : Int) = Lib.decDigits u := by unfold Lib.itoa; rw [if_neg (by omega)]; simp
theorem dec_short {u : Nat} : (Lib.decDigits u).length ≤ 6 ↔ u < 1000000 := by
  rw [Lib.decDigits_length]
  constructor
  · intro h
    have h1 := Lib.lt_pow_nDigits u
    have h2 : 10 ^ Lib.nDigits u ≤ 10 ^ 6 := Nat.pow_le_pow_right (by decide) h
    omega
  · intro h
    have key : ∀ k v : Nat, v < 10 ^ (k + 1) → Lib.nDigits v ≤ k + 1 := by
      intro k
      induction k with
      | zero => intro v hv; rw [Lib.nDigits_small (by simpa using hv)]; exact Nat.le_refl _
      | succ k ih =>
        intro v hv
        by_cases h1 : v < 10
        · rw [Lib.nDigits_small h1]; omega
        · rw [Lib.nDigits_big h1]
          have := ih (v / 10) (by rw [Nat.pow_succ] at hv; omega)
          omega
    exact key 5 u h
theorem atoiAll_dec {u : Nat} (h : u < 1000000) : Lib.atoiAll (Lib.decDigits u) = .ok (u : Int) := by
  rw [Lib.atoiAll_short _ (by have := (dec_short (u := u)).2 h; omega), atoi_digits (dec_ne u) (decFrom_dec u)]
  rfl
theorem dec_inj {u v : Nat} (h : Lib.decDigits u = Lib.decDigits v) : u = v := by
  have h1 := decFrom_dec u
  rw [h, decFrom_dec v] at h1
  exact (Option.some.inj h1).symm
/-- A number of at most six digits, as the document reads it; -1: none. -/
def number (l : List UInt8) : Int := if l.length ≤ 6 then (match Lib.decFrom 0 l with | some n => if Lib.decDigits n = l then (n : Int) else -1 | none => -1) else -1
theorem number_dec {u : Nat} (h : u < 1000000) : number (Lib.decDigits u) = (u : Int) := by
  unfold number
  rw [if_pos (dec_short.2 h), decFrom_dec]
  simp
theorem number_in {l : List UInt8} (h : 0 ≤ number l) : ∃ u : Nat, u < 1000000 ∧ number l = (u : Int) ∧ l = Lib.decDigits u := by
  unfold number at h ⊢
  by_cases h1 : l.length ≤ 6
  · rw [if_pos h1] at h ⊢
    cases h2 : Lib.decFrom 0 l with
    | none => rw [h2] at h; simp at h
    | some n =>
      rw [h2] at h
      simp only at h ⊢
      by_cases h3 : Lib.decDigits n = l
      · rw [if_pos h3]
        exact ⟨n, dec_short.1 (by rw [h3]; exact h1), rfl, h3.symm⟩
      · rw [if_neg h3] at h; simp at h
  · rw [if_neg h1] at h; simp at h
/-! Words -/
def wordsL : List UInt8 → List (List UInt8)
  | [] => [[]]
  | c :: l => if c = 32 then [] :: wordsL l else match wordsL l with
    | w :: r => (c :: w) :: r
    | [] => [[c]]
def pre (x : List UInt8) : List (List UInt8) → List (List UInt8)
  | w :: r => (x ++ w) :: r
  | [] => [x]
theorem wordsL_ne (l : List UInt8) : ∃ w r, wordsL l = w :: r := by
  cases l with
  | nil => exact ⟨[], [], rfl⟩
  | cons c l =>
    unfold wordsL
    split
    · exact ⟨_, _, rfl⟩
    · split
      · exact ⟨_, _, rfl⟩
      · exact ⟨_, _, rfl⟩
theorem wordsL_sp (l : List UInt8) : wordsL (32 :: l) = [] :: wordsL l := by rw [wordsL, if_pos rfl]
theorem wordsL_no {c : UInt8} (h : c ≠ 32) (l : List UInt8) : wordsL (c :: l) = pre [c] (wordsL l) := by
  obtain ⟨w, r, e⟩ := wordsL_ne l
  rw [wordsL, if_neg h, e]; rfl
/-- One byte more, as the document cuts a line. -/
def wstep (acc : List (List UInt8)) (c : UInt8) : List (List UInt8) := if c = 32 then acc ++ [[]] else acc.dropLast ++ [acc.getLast?.getD [] ++ [c]]
theorem fold_words : ∀ (l : List UInt8) (acc : List (List UInt8)) (x : List UInt8), l.foldl wstep (acc ++ [x]) = acc ++ pre x (wordsL l)
  | [], acc, x => by simp [wordsL, pre]
  | c :: l, acc, x => by
    rw [List.foldl_cons]
    by_cases h : c = 32
    · subst h
      have e : wstep (acc ++ [x]) 32 = (acc ++ [x]) ++ [[]] := if_pos rfl
      rw [e, fold_words l, wordsL_sp]
      obtain ⟨w, r, e2⟩ := wordsL_ne l
      rw [e2]; simp [pre]
    · have e : wstep (acc ++ [x]) c = acc ++ [x ++ [c]] := by unfold wstep; rw [if_neg h]; simp
      rw [e, fold_words l, wordsL_no h]
      obtain ⟨w, r, e2⟩ := wordsL_ne l
      rw [e2]; simp [pre]
theorem fold_words0 (l : List UInt8) : l.foldl wstep [[]] = wordsL l := by
  have := fold_words l [] []
  rw [List.nil_append] at this
  rw [this]
  obtain ⟨w, r, e⟩ := wordsL_ne l
  rw [e]; rfl
theorem wordsL_app : ∀ (x l : List UInt8), (∀ b ∈ x, b ≠ 32) → wordsL (x ++ l) = pre x (wordsL l)
  | [], l, _ => by obtain ⟨w, r, e⟩ := wordsL_ne l; rw [List.nil_append, e]; rfl
  | c :: x, l, h => by
    rw [List.cons_append, wordsL_no (h c List.mem_cons_self), wordsL_app x l fun b hb => h b (List.mem_cons_of_mem _ hb)]
    obtain ⟨w, r, e⟩ := wordsL_ne l
    rw [e]; rfl
theorem wordsL_one {x : List UInt8} (h : ∀ b ∈ x, b ≠ 32) : wordsL x = [x] := by
  have := wordsL_app x [] h
  rw [List.append_nil] at this
  rw [this]; simp [wordsL, pre]
theorem wordsL_cut {x : List UInt8} (h : ∀ b ∈ x, b ≠ 32) (l : List UInt8) : wordsL (x ++ 32 :: l) = x :: wordsL l := by
  rw [wordsL_app x _ h, wordsL_sp]; simp [pre]
theorem join_two (x y : List UInt8) (r : List (List UInt8)) : Lib.join (x :: y :: r) [32] = x ++ 32 :: Lib.join (y :: r) [32] := by
  rw [Lib.join_cons, Lib.join_cons]; simp [Lib.joinTail]
theorem wordsL_join : ∀ (xs : List (List UInt8)), xs ≠ [] → (∀ x ∈ xs, ∀ b ∈ x, b ≠ 32) → wordsL (Lib.join xs [32]) = xs
  | [], h, _ => absurd rfl h
  | [x], _, h => by rw [Lib.join_one]; exact wordsL_one (h x List.mem_cons_self)
  | x :: y :: r, _, h => by
    rw [join_two, wordsL_cut (h x List.mem_cons_self), wordsL_join (y :: r) (by simp) fun z hz => h z (List.mem_cons_of_mem _ hz)]
theorem join_pre (c : UInt8) (w : List UInt8) (r : List (List UInt8)) : Lib.join ((c :: w) :: r) [32] = c :: Lib.join (w :: r) [32] := by
  rw [Lib.join_cons, Lib.join_cons]; rfl
theorem join_words : ∀ l : List UInt8, Lib.join (wordsL l) [32] = l
  | [] => rfl
  | c :: l => by
    have ih := join_words l
    obtain ⟨w, r, e⟩ := wordsL_ne l
    by_cases h : c = 32
    · subst h
      rw [wordsL_sp, e, join_two, ← e, ih]; rfl
    · rw [wordsL_no h, e]
      show Lib.join ((c :: w) :: r) [32] = c :: l
      rw [join_pre, ← e, ih]
theorem cut_first : ∀ s : List UInt8, (∀ b ∈ s, b ≠ 32) ∨ ∃ l r, s = l ++ 32 :: r ∧ ∀ b ∈ l, b ≠ 32
  | [] => .inl fun b hb => by cases hb
  | c :: s => by
    by_cases h : c = 32
    · exact .inr ⟨[], s, by rw [h]; rfl, fun b hb => by cases hb⟩
    · rcases cut_first s with h1 | ⟨l, r, h1, h2⟩
      · exact .inl fun b hb => by
          rcases List.mem_cons.1 hb with rfl | h3
          · exact h
          · exact h1 b h3
      · exact .inr ⟨c :: l, r, by rw [h1]; rfl, fun b hb => by
          rcases List.mem_cons.1 hb with rfl | h3
          · exact h
          · exact h2 b h3⟩
theorem words_data : ∀ (n : Nat) (s : ByteArray), s.size ≤ n → (words s).map (·.data.toList) = wordsL s.data.toList := fun n => by
  induction n with
  | zero =>
    intro s hs
    have h0 : s.data.toList = [] := by
      have : s.data.toList.length = s.size := by rw [Array.length_toList]; rfl
      exact List.length_eq_zero_iff.1 (by omega)
    have hm : Lib.indexB s sp = -1 := by
      show Lib.index s.data.toList sp.data.toList = -1
      rw [h0]; rfl
    unfold words
    rw [Lib.splitB_miss _ _ _ _ hm, List.map_singleton, h0]; rfl
  | succ n ih =>
    intro s hs
    rcases cut_first s.data.toList with h | ⟨l, r, h1, h2⟩
    · have hm : Lib.indexB s sp = -1 := Lab.index_no 32 _ h
      unfold words
      rw [Lib.splitB_miss _ _ _ _ hm, List.map_singleton, wordsL_one h]
    · have hi : Lib.indexB s sp = (l.length : Int) := by
        show Lib.index s.data.toList sp.data.toList = _
        rw [h1]; exact Lab.index_at 32 l r h2
      have hsz : s.data.toList.length = s.size := by rw [Array.length_toList]; rfl
      rw [h1] at hsz
      have hc := Lib.countB_hit s sp l.length (by decide) hi
      have e : words s = s.extract 0 l.length :: words (s.extract (l.length + 1) s.size) := by
        unfold words
        rw [hc, Nat.add_comm 1, Lib.splitB_hit _ _ _ _ _ hi]; rfl
      have e1 : (s.extract 0 l.length).data.toList = l := by rw [Lib.extract_from_zero, h1]; simp
      have e2 : (s.extract (l.length + 1) s.size).data.toList = r := by
        rw [Lib.extract_to_end, h1]; simp
      rw [e, List.map_cons, e1, ih _ (by
        have : (s.extract (l.length + 1) s.size).data.toList.length = (s.extract (l.length + 1) s.size).size := by rw [Array.length_toList]; rfl
        rw [e2] at this
        simp at hsz; omega), e2, h1, wordsL_cut h2]
theorem words_is (s : ByteArray) : (words s).map (·.data.toList) = wordsL s.data.toList := words_data s.size s (Nat.le_refl _)
/-! Data -/
theorem hexd_in : ∀ n : Fin 16, hexd n.val ≠ 32 ∧ hexd n.val ≠ 45 := by decide
theorem hexl_no (l : List UInt8) : ∀ b ∈ hexl l, b ≠ 32 ∧ b ≠ 45 := fun b hb => by
  obtain ⟨c, _, hc⟩ := List.mem_flatMap.1 hb
  have h1 := UInt8.toNat_lt c
  simp only [List.mem_cons, List.not_mem_nil, or_false] at hc
  rcases hc with rfl | rfl
  · exact hexd_in ⟨c.toNat / 16, by omega⟩
  · exact hexd_in ⟨c.toNat % 16, by omega⟩
theorem hex_no (l : List UInt8) : ∀ b ∈ hex l, b ≠ 32 := fun b hb => by
  unfold hex at hb
  split at hb
  · simp at hb; rw [hb]; decide
  · exact (hexl_no l b hb).1
theorem hex_inj {l m : List UInt8} (h : hex l = hex m) : l = m := by rw [← unhex_hex l, h, unhex_hex]
theorem hexl_one (c : UInt8) : hexl [c] = [hexd (c.toNat / 16), hexd (c.toNat % 16)] := rfl
/-- The bytes whose digits two bytes are. -/
def rpair (x y : UInt8) (k : Nat) : List UInt8 := ((List.range k).filter fun n => hexl [n.toUInt8] = [x, y]).map Nat.toUInt8
def rpairs : List UInt8 → List UInt8
  | x :: y :: r => rpair x y 256 ++ rpairs r
  | _ => []
theorem rpair_succ (x y : UInt8) (k : Nat) : rpair x y (k + 1) = rpair x y k ++ if hexl [k.toUInt8] = [x, y] then [k.toUInt8] else [] := by
  unfold rpair
  rw [List.range_succ, List.filter_append, List.map_append]
  congr 1
  by_cases h : hexl [k.toUInt8] = [x, y]
  · simp [h]
  · simp [h]
theorem rpair_of {x y : UInt8} (c : Fin 256) (h : hexl [c.val.toUInt8] = [x, y]) : ∀ k, k ≤ 256 → rpair x y k = if c.val < k then [c.val.toUInt8] else []
  | 0, _ => rfl
  | k + 1, hk => by
    rw [rpair_succ, rpair_of c h k (by omega)]
    have hck : hexl [k.toUInt8] = [x, y] ↔ k = c.val := by
      constructor
      · intro h1
        have := hexl_inj (h1.trans h.symm)
        have h2 : k.toUInt8 = c.val.toUInt8 := by simpa using this
        have h3 := congrArg UInt8.toNat h2
        have h4 := c.isLt
        simp at h3
        omega
      · rintro rfl; exact h
    by_cases h1 : k = c.val
    · rw [if_neg (by omega), if_pos (hck.2 h1), if_pos (by omega), h1]; rfl
    · rw [if_neg (fun h2 => h1 (hck.1 h2)), List.append_nil]
      by_cases h2 : c.val < k
      · rw [if_pos h2, if_pos (by omega)]
      · rw [if_neg h2, if_neg (by omega)]
theorem rpairs_hexl : ∀ d : List UInt8, rpairs (hexl d) = d
  | [] => rfl
  | c :: d => by
    show rpairs (hexd (c.toNat / 16) :: hexd (c.toNat % 16) :: hexl d) = c :: d
    unfold rpairs
    have hc : c.toNat.toUInt8 = c := by simp
    rw [rpairs_hexl d, rpair_of ⟨c.toNat, UInt8.toNat_lt c⟩ (by simp only [hc]; rfl) 256 (Nat.le_refl _), if_pos (UInt8.toNat_lt c)]
    simp
theorem hexl_take : ∀ (k : Nat) (d : List UInt8), (hexl d).take (2 * k) = hexl (d.take k)
  | 0, d => by simp [hexl]
  | k + 1, [] => rfl
  | k + 1, c :: d => by
    have ih := hexl_take k d
    show (hexd (c.toNat / 16) :: hexd (c.toNat % 16) :: hexl d).take (2 * (k + 1)) = hexd (c.toNat / 16) :: hexd (c.toNat % 16) :: hexl (d.take k)
    rw [show 2 * (k + 1) = 2 * k + 1 + 1 by omega, List.take_succ_cons, List.take_succ_cons, ih]
/-- The bytes of digits, as the document reads them. -/
def rdata (w : List UInt8) : Option (List UInt8) := if w = [45] then some [] else if rpairs (w.take 510) ≠ [] ∧ hexl (rpairs (w.take 510)) = w then some (rpairs (w.take 510)) else none
theorem rdata_hex {d : List UInt8} (h : d.length ≤ 255) : rdata (hex d) = some d := by
  unfold rdata hex
  by_cases h0 : d = []
  · rw [if_pos h0, if_pos rfl, h0]
  · have e : (hexl d).take 510 = hexl d := List.take_of_length_le (by rw [hexl_len]; omega)
    rw [if_neg h0, if_neg (hexl_no45 d), e, rpairs_hexl, if_pos ⟨h0, rfl⟩]
theorem rdata_in {w d : List UInt8} (h : rdata w = some d) : w = hex d ∧ d.length ≤ 255 := by
  unfold rdata at h
  split at h
  · rename_i h1
    obtain rfl := Option.some.inj h
    exact ⟨by rw [h1]; rfl, by simp⟩
  · split at h
    · rename_i h1 h2
      obtain ⟨h3, h4⟩ := h2
      have h5 := Option.some.inj h
      rw [h5] at h3 h4
      refine ⟨by rw [hex_ne h3, h4], ?_⟩
      have h6 : w.take 510 = hexl (d.take 255) := by rw [← h4]; exact hexl_take 255 d
      rw [h6, rpairs_hexl] at h5
      have := congrArg List.length h5
      rw [List.length_take] at this
      omega
    · cases h
/-! Entries -/
/-- The entries that have lines which are read. -/
def can (e : E) : Prop := (0 ≤ e.1 ∧ e.1 < 1000000) ∧ (Idn.fine e.2.1 = true ∧ Lab.ok e.2.1.1) ∧ Lab.ok e.2.2.1 ∧ (0 ≤ e.2.2.2.1 ∧ e.2.2.2.1 < 1000000) ∧ e.2.2.2.2.size ≤ 255
theorem itoa_no (n : Int) (h : 0 ≤ n) : ∀ b ∈ Lib.itoa n, b ≠ 32 := fun b hb => by
  obtain ⟨u, rfl⟩ : ∃ u : Nat, n = (u : Int) := ⟨n.toNat, by omega⟩
  rw [itoa_nat] at hb
  have := dec_digit u b hb
  intro e; rw [e] at this; revert this; decide
theorem labtext_no (a : Lab.L) : ∀ b ∈ Lab.text a, b ≠ 32 := fun b hb => by
  unfold Lab.text at hb
  rcases List.mem_append.1 hb with h | h
  · exact (Lab.text_no a.1 b h).2.2
  · rcases List.mem_cons.1 h with rfl | h
    · decide
    · exact (Lab.text_no a.2 b h).2.2
theorem idtext_no (x : Idn.I) (h : Idn.fine x = true) : ∀ b ∈ Idn.text x, b ≠ 32 := fun b hb => by
  rw [Idn.text_fine h] at hb
  obtain ⟨h1, h2, h3, h4⟩ := Idn.fine_iff.1 h
  rcases List.mem_cons.1 hb with rfl | hb
  · unfold Idn.letter; split <;> (try split) <;> decide
  · rcases List.mem_append.1 hb with hb | hb
    · exact labtext_no _ b hb
    · simp only [List.mem_cons, List.not_mem_nil, or_false] at hb
      rcases hb with rfl | rfl
      · decide
      · have : x.2.2 = 0 ∨ x.2.2 = 1 ∨ x.2.2 = 2 ∨ x.2.2 = 3 := by omega
        rcases this with e | e | e | e <;> rw [e] <;> decide
theorem words5_no {e : E} (h1 : 0 ≤ e.1) (h2 : Idn.fine e.2.1 = true) (h3 : 0 ≤ e.2.2.2.1) : ∀ x ∈ words5 e, ∀ b ∈ x, b ≠ 32 := fun x hx => by
  unfold words5 at hx
  simp only [List.mem_cons, List.not_mem_nil, or_false] at hx
  rcases hx with rfl | rfl | rfl | rfl | rfl
  · exact itoa_no _ h1
  · exact idtext_no _ h2
  · exact labtext_no _
  · exact itoa_no _ h3
  · exact hex_no _
theorem line_words {e : E} (h1 : 0 ≤ e.1) (h2 : Idn.fine e.2.1 = true) (h3 : 0 ≤ e.2.2.2.1) : wordsL (line e) = words5 e := wordsL_join _ (by simp [words5]) (words5_no h1 h2 h3)
theorem itoa_inj {m n : Int} (hm : 0 ≤ m) (hn : 0 ≤ n) (h : Lib.itoa m = Lib.itoa n) : m = n := by
  obtain ⟨u, rfl⟩ : ∃ u : Nat, m = (u : Int) := ⟨m.toNat, by omega⟩
  obtain ⟨v, rfl⟩ : ∃ v : Nat, n = (v : Int) := ⟨n.toNat, by omega⟩
  rw [itoa_nat, itoa_nat] at h
  rw [dec_inj h]
theorem words5_inj {e f : E} (e1 : 0 ≤ e.1) (e2 : Idn.fine e.2.1 = true ∧ Lab.ok e.2.1.1) (e3 : Lab.ok e.2.2.1) (e4 : 0 ≤ e.2.2.2.1) (f1 : 0 ≤ f.1) (f2 : Idn.fine f.2.1 = true ∧ Lab.ok f.2.1.1) (f3 : Lab.ok f.2.2.1) (f4 : 0 ≤ f.2.2.2.1) (h : words5 e = words5 f) : e = f := by
  obtain ⟨a, b, c, d, x⟩ := e
  obtain ⟨a', b', c', d', x'⟩ := f
  simp only [words5, List.cons.injEq, and_true] at h
  obtain ⟨h1, h2, h3, h4, h5⟩ := h
  have g1 := itoa_inj e1 f1 h1
  have g2 := (Idn.text_inj e2.2 f2.2 e2.1 f2.1).1 h2
  have g3 := Lab.text_inj e3 f3 h3
  have g4 := itoa_inj e4 f4 h4
  have g5 := Tag.bytes_ext (hex_inj h5)
  simp only at g1 g2 g3 g4 g5
  rw [g1, g2, g3, g4, g5]
/-- What the document reads out of a line. -/
def rcand (l : List (List UInt8)) : Option E := match l with
  | [a, b, c, d, e] => match rdata e with
    | some x => if 0 ≤ number a ∧ 0 ≤ number d ∧ (Idn.parse b).2 = 0 ∧ (Lab.parse c).2 = 0 then some (number a, (Idn.parse b).1, (Lab.parse c).1, number d, ⟨x.toArray⟩) else none
    | none => none
  | _ => none
def rparse (s : List UInt8) : Option E := rcand (wordsL s)
theorem cut_c (k : UInt8) : ∀ s : List UInt8, (∀ b ∈ s, b ≠ k) ∨ ∃ l r, s = l ++ k :: r ∧ ∀ b ∈ l, b ≠ k
  | [] => .inl fun b hb => by cases hb
  | c :: s => by
    by_cases h : c = k
    · exact .inr ⟨[], s, by rw [h]; rfl, fun b hb => by cases hb⟩
    · rcases cut_c k s with h1 | ⟨l, r, h1, h2⟩
      · exact .inl fun b hb => by
          rcases List.mem_cons.1 hb with rfl | h3
          · exact h
          · exact h1 b h3
      · exact .inr ⟨c :: l, r, by rw [h1]; rfl, fun b hb => by
          rcases List.mem_cons.1 hb with rfl | h3
          · exact h
          · exact h2 b h3⟩
theorem tag_sound {s : List UInt8} {x : Nat} (h : Tag.rparse s = some x) : s = Tag.text x := by
  unfold Tag.rparse at h
  split at h
  · rename_i h1
    obtain rfl := Option.some.inj h
    rw [h1]; rfl
  · obtain ⟨l, h1, h2, h3, h4⟩ := Tag.rp_sound 16 0 s 0 x rfl (by decide) h
    rw [Tag.tags_zero, List.nil_append] at h2
    have hx0 : x ≠ 0 := fun e => by subst e; rw [Tag.tags_zero] at h2; exact h1 h2.symm
    unfold Tag.text
    rw [if_neg hx0, h2, h3]
theorem lab_sound {s : List UInt8} {a : Lab.L} (h : Lab.rparse s = some a) : s = Lab.text a := by
  unfold Lab.rparse at h
  rcases cut_c 47 s with h1 | ⟨l, r, h1, h2⟩
  · rw [Lab.cut_no 47 s h1] at h; simp at h
  · rw [h1, Lab.cut_at 47 l r h2] at h
    simp only [if_true] at h
    cases hx : Tag.rparse l with
    | none => rw [hx] at h; simp at h
    | some x =>
      cases hy : Tag.rparse r with
      | none => rw [hx, hy] at h; simp at h
      | some y =>
        rw [hx, hy] at h
        obtain rfl := Option.some.inj h
        rw [h1, tag_sound hx, tag_sound hy]; rfl
theorem labparse_in {c : List UInt8} (h : (Lab.parse c).2 = 0) : Lab.ok (Lab.parse c).1 ∧ c = Lab.text (Lab.parse c).1 := by
  refine ⟨Lab.parse_lt c, ?_⟩
  unfold Lab.parse at h ⊢
  cases hr : Lab.rparse c with
  | none => rw [hr] at h; simp at h
  | some a => exact lab_sound hr
theorem len_data (s : ByteArray) : s.data.toList.length = s.size := by rw [Array.length_toList]; rfl
theorem hex_len (d : List UInt8) : (hex d).length ≤ 510 ↔ d.length ≤ 255 := by
  unfold hex
  split
  · rename_i h; rw [h]; simp
  · rw [hexl_len]; omega
theorem cand_in {s : ByteArray} {x : E} (h : cand s = some x) : ∃ a b c d e, words s = [a, b, c, d, e] ∧ (a.size ≤ 6 ∧ d.size ≤ 6 ∧ e.size ≤ 510) ∧ (0 ≤ x.1 ∧ Idn.fine x.2.1 = true ∧ Lab.ok x.2.1.1 ∧ Lab.ok x.2.2.1 ∧ 0 ≤ x.2.2.2.1) := by
  unfold cand at h
  split at h
  · rename_i a b c d e hw
    refine ⟨a, b, c, d, e, hw, ?_⟩
    unfold cand5 at h
    split at h
    · rename_i hz
      refine ⟨hz, ?_⟩
      split at h
      · split at h
        · rename_i u v _ _ h4
          obtain ⟨h5, h6, h7, h8⟩ := h4
          obtain rfl := Option.some.inj h
          obtain ⟨_, g2, g3⟩ := Idn.parse_fine h5
          exact ⟨h7, g2, g3, (labparse_in h6).1, h8⟩
        · cases h
      · cases h
    · cases h
  · cases h
theorem parse_can {s : ByteArray} (h : (parse s).2 = 0) : can (parse s).1 ∧ s.data.toList = line (parse s).1 := by
  unfold parse at h ⊢
  cases hc : cand s with
  | none => rw [hc] at h; simp [fin] at h
  | some x =>
    rw [hc] at h
    unfold fin at h ⊢
    by_cases hl : line x = s.data.toList
    · simp only
      rw [if_pos hl]
      obtain ⟨a, b, c, d, e, hw, ⟨z1, z2, z3⟩, y1, y2, y3, y4, y5⟩ := cand_in hc
      have h1 := words_is s
      rw [hw, ← hl, line_words y1 y2 y5] at h1
      simp only [words5, List.map_cons, List.map_nil, List.cons.injEq, and_true] at h1
      obtain ⟨g1, g2, g3, g4, g5⟩ := h1
      have k1 : x.1 < 1000000 := by
        obtain ⟨u, hu⟩ : ∃ u : Nat, x.1 = (u : Int) := ⟨x.1.toNat, by omega⟩
        rw [hu, itoa_nat] at g1
        have := dec_short.1 (by rw [← g1, len_data]; exact z1)
        omega
      have k2 : x.2.2.2.1 < 1000000 := by
        obtain ⟨u, hu⟩ : ∃ u : Nat, x.2.2.2.1 = (u : Int) := ⟨x.2.2.2.1.toNat, by omega⟩
        rw [hu, itoa_nat] at g4
        have := dec_short.1 (by rw [← g4, len_data]; exact z2)
        omega
      have k3 : x.2.2.2.2.size ≤ 255 := by
        have := (hex_len x.2.2.2.2.data.toList).1 (by rw [← g5, len_data]; exact z3)
        rw [len_data] at this; exact this
      exact ⟨⟨⟨y1, k1⟩, ⟨y2, y3⟩, y4, ⟨y5, k2⟩, k3⟩, hl.symm⟩
    · simp only at h
      rw [if_neg hl] at h; simp at h
theorem words_of {s : ByteArray} {e : E} (h1 : 0 ≤ e.1) (h2 : Idn.fine e.2.1 = true) (h3 : 0 ≤ e.2.2.2.1) (h : s.data.toList = line e) : words s = (words5 e).map fun l => ⟨l.toArray⟩ := by
  have h4 := words_is s
  rw [h, line_words h1 h2 h3] at h4
  rw [← h4, List.map_map]
  have : ((fun l : List UInt8 => (⟨l.toArray⟩ : ByteArray)) ∘ fun x : ByteArray => x.data.toList) = id := by
    funext x; exact Tag.bytes_ext (by simp)
  rw [this, List.map_id]
theorem parse_line {e : E} (h : can e) {s : ByteArray} (hs : s.data.toList = line e) : parse s = (e, 0) := by
  obtain ⟨⟨a0, a1⟩, ⟨b0, b1⟩, c0, ⟨d0, d1⟩, e1⟩ := h
  have hw := words_of a0 b0 d0 hs
  have hc : cand s = some e := by
    unfold cand
    rw [hw]
    obtain ⟨at', who, lb, er, da⟩ := e
    simp only at a0 a1 b0 b1 c0 d0 d1 e1
    obtain ⟨u, rfl⟩ : ∃ u : Nat, at' = (u : Int) := ⟨at'.toNat, by omega⟩
    obtain ⟨v, rfl⟩ : ∃ v : Nat, er = (v : Int) := ⟨er.toNat, by omega⟩
    simp only [words5, List.map_cons, List.map_nil]
    unfold cand5
    have z1 : (⟨(Lib.itoa (u : Int)).toArray⟩ : ByteArray).size ≤ 6 := by
      rw [itoa_nat]; show (Lib.decDigits u).toArray.size ≤ 6
      rw [List.size_toArray]; exact dec_short.2 (by omega)
    have z2 : (⟨(Lib.itoa (v : Int)).toArray⟩ : ByteArray).size ≤ 6 := by
      rw [itoa_nat]; show (Lib.decDigits v).toArray.size ≤ 6
      rw [List.size_toArray]; exact dec_short.2 (by omega)
    have z3 : (⟨(hex da.data.toList).toArray⟩ : ByteArray).size ≤ 510 := by
      show (hex da.data.toList).toArray.size ≤ 510
      rw [List.size_toArray]; exact (hex_len _).2 (by rw [len_data]; exact e1)
    rw [if_pos ⟨z1, z2, z3⟩]
    simp only [List.toList_toArray]
    rw [itoa_nat, itoa_nat, atoiAll_dec (by omega), atoiAll_dec (by omega), Idn.parse_text b1 b0, Lab.parse_text lb c0, unhex_hex]
    simp only
    rw [if_pos ⟨trivial, trivial, by omega, by omega⟩]
  unfold parse
  rw [hc]
  unfold fin
  simp only
  rw [if_pos hs.symm]
theorem rcand_in {l : List (List UInt8)} {x : E} (h : rcand l = some x) : can x ∧ l = words5 x := by
  unfold rcand at h
  split at h
  · rename_i a b c d e
    split at h
    · rename_i y hy
      split at h
      · rename_i h1
        obtain ⟨n1, n2, n3, n4⟩ := h1
        obtain rfl := Option.some.inj h
        obtain ⟨u, u1, u2, u3⟩ := number_in n1
        obtain ⟨v, v1, v2, v3⟩ := number_in n2
        obtain ⟨g1, g2, g3⟩ := Idn.parse_fine n3
        obtain ⟨k1, k2⟩ := labparse_in n4
        obtain ⟨m1, m2⟩ := rdata_in hy
        refine ⟨⟨⟨n1, by simp only; omega⟩, ⟨g2, g3⟩, k1, ⟨n2, by simp only; omega⟩, by show y.toArray.size ≤ 255; rw [List.size_toArray]; exact m2⟩, ?_⟩
        simp only [words5]
        rw [g1, ← k2, u2, v2, itoa_nat, itoa_nat, ← u3, ← v3, ← m1]
      · cases h
    · cases h
  · cases h
theorem rparse_is (s : ByteArray) : rparse s.data.toList = if (parse s).2 = 0 then some (parse s).1 else none := by
  by_cases h : (parse s).2 = 0
  · rw [if_pos h]
    obtain ⟨hc, hl⟩ := parse_can h
    generalize (parse s).1 = e at hc hl
    obtain ⟨⟨a0, a1⟩, ⟨b0, b1⟩, c0, ⟨d0, d1⟩, e1⟩ := hc
    unfold rparse
    rw [hl, line_words a0 b0 d0]
    obtain ⟨at', who, lb, er, da⟩ := e
    simp only at a0 a1 b0 b1 c0 d0 d1 e1
    obtain ⟨u, rfl⟩ : ∃ u : Nat, at' = (u : Int) := ⟨at'.toNat, by omega⟩
    obtain ⟨v, rfl⟩ : ∃ v : Nat, er = (v : Int) := ⟨er.toNat, by omega⟩
    simp only [words5]
    unfold rcand
    simp only
    rw [rdata_hex (by rw [len_data]; exact e1), itoa_nat, itoa_nat, number_dec (by omega), number_dec (by omega), Idn.parse_text b1 b0, Lab.parse_text lb c0]
    simp only
    rw [if_pos ⟨by omega, by omega, trivial, trivial⟩]
  · rw [if_neg h]
    cases hr : rparse s.data.toList with
    | none => rfl
    | some e =>
      exfalso
      obtain ⟨hc, hw⟩ := rcand_in hr
      have hl : s.data.toList = line e := by rw [← join_words s.data.toList, hw]; rfl
      rw [parse_line hc hl] at h
      exact h rfl
theorem parse_e (s : ByteArray) : (parse s).2 = 0 ∨ parse s = (zero, 3) := by
  unfold parse fin
  split
  · split
    · exact .inl rfl
    · exact .inr rfl
  · exact .inr rfl
/-- Which lines are read again. -/
theorem reads {e : E} (h1 : 0 ≤ e.1) (h2 : Idn.fine e.2.1 = true ∧ Lab.ok e.2.1.1) (h3 : Lab.ok e.2.2.1) (h4 : 0 ≤ e.2.2.2.1) {s : ByteArray} (hs : s.data.toList = line e) :
    parse s = if e.1 < 1000000 ∧ e.2.2.2.1 < 1000000 ∧ e.2.2.2.2.size < 256 then (e, 0) else (zero, 3) := by
  by_cases h : e.1 < 1000000 ∧ e.2.2.2.1 < 1000000 ∧ e.2.2.2.2.size < 256
  · rw [if_pos h]
    exact parse_line ⟨⟨h1, h.1⟩, h2, h3, ⟨h4, h.2.1⟩, by omega⟩ hs
  · rw [if_neg h]
    rcases parse_e s with h5 | h5
    · exfalso
      obtain ⟨hc, hl⟩ := parse_can h5
      generalize (parse s).1 = f at hc hl
      obtain ⟨⟨a0, a1⟩, b, c0, ⟨d0, d1⟩, e1⟩ := hc
      have hw := line_words a0 b.1 d0
      rw [← hl, hs, line_words h1 h2.1 h4] at hw
      have := words5_inj h1 h2 h3 h4 a0 b c0 d0 hw
      subst this
      exact h ⟨a1, d1, by omega⟩
    · exact h5
/-! Entries that are seen -/
end Tr
end Go.Proofs.YtdjndnoiankicaaGreatDoor
