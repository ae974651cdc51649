/- Entries of a trace: their lines, and which entry a text is: plain laws. Package trace: hex, unhex: what they return. Package trace: unhex: what it returns. Package trace: Line: what it returns. No conditions. -/
import Derived.Test.YtdjndnoiankicaaDoorIlaw
import Derived.Test.YtdjndnoiankicaaDoorWire
import Derived.Test.YtdjndnoiankicaaDoorOrd
import Derived.Test.YtdjndnoiankicaaDoorShb
import Derived.Test.YtdjndnoiankicaaDoorShc
import Derived.Lib.ItoaLen
namespace Go.Proofs.YtdjndnoiankicaaDoor
open Go.RowKit Go.Shelf
set_option linter.unusedSimpArgs false
set_option linter.unusedVariables false

namespace Tr
/-- An entry: when, who, the label, the error, the data. -/
abbrev E := Int × Idn.I × Lab.L × Int × ByteArray
def zero : E := (0, Idn.zero, (0, 0), 0, ⟨#[]⟩)
def digits : List UInt8 := [48, 49, 50, 51, 52, 53, 54, 55, 56, 57, 97, 98, 99, 100, 101, 102]
def hexd (n : Nat) : UInt8 := digits.getD n 0
def hexl (l : List UInt8) : List UInt8 := l.flatMap fun c => [hexd (c.toNat / 16), hexd (c.toNat % 16)]
def hex (l : List UInt8) : List UInt8 := if l = [] then [45] else hexl l
/-- Two digits as a byte, whatever they are. -/
def two (c d : UInt8) : UInt8 := (IntKind.u8.wrap (bits .or .i64 (Lib.indexByte digits c * 16) (Lib.indexByte digits d))).toNat.toUInt8
def unhexl : List UInt8 → List UInt8
  | c :: d :: r => two c d :: unhexl r
  | _ => []
def unhex (l : List UInt8) : List UInt8 := if l = [45] then [] else unhexl l
def words5 (e : E) : List (List UInt8) := [Lib.itoa e.1, Idn.text e.2.1, Lab.text e.2.2.1, Lib.itoa e.2.2.2.1, hex e.2.2.2.2.data.toList]
def line (e : E) : List UInt8 := Lib.join (words5 e) [32]
theorem hexl_len : ∀ l : List UInt8, (hexl l).length = 2 * l.length
  | [] => rfl
  | c :: l => by
    have := hexl_len l
    unfold hexl at this ⊢
    rw [List.flatMap_cons, List.length_append, this]; simp; omega
theorem hexl_snoc (l : List UInt8) (c : UInt8) : hexl (l ++ [c]) = hexl l ++ [hexd (c.toNat / 16), hexd (c.toNat % 16)] := by simp [hexl, List.flatMap_append]
theorem hex_ne {l : List UInt8} (h : l ≠ []) : hex l = hexl l := if_neg h
theorem two_hex : ∀ c : Fin 256, two (hexd (c.val / 16)) (hexd (c.val % 16)) = c.val.toUInt8 := by decide +kernel
theorem unhexl_hexl : ∀ l : List UInt8, unhexl (hexl l) = l
  | [] => rfl
  | c :: l => by
    have h := two_hex ⟨c.toNat, UInt8.toNat_lt c⟩
    simp only at h
    show unhexl (hexd (c.toNat / 16) :: hexd (c.toNat % 16) :: hexl l) = c :: l
    unfold unhexl
    rw [h, unhexl_hexl l]
    simp
theorem hexl_no45 : ∀ l : List UInt8, hexl l ≠ [45] := fun l h => by
  have := congrArg List.length h
  rw [hexl_len] at this; simp at this; omega
theorem unhex_hex (l : List UInt8) : unhex (hex l) = l := by
  unfold unhex hex
  by_cases h : l = []
  · rw [if_pos h, if_pos rfl, h]
  · rw [if_neg h, if_neg (hexl_no45 l), unhexl_hexl]
theorem hexl_inj {l m : List UInt8} (h : hexl l = hexl m) : l = m := by rw [← unhexl_hexl l, h, unhexl_hexl]
theorem unhexl_len : ∀ (l : List UInt8), (unhexl l).length ≤ l.length
  | [] => Nat.le_refl _
  | [_] => Nat.zero_le _
  | c :: d :: r => by
    have := unhexl_len r
    show (unhexl r).length + 1 ≤ r.length + 1 + 1
    omega
theorem unhexl_snoc : ∀ (k : Nat) (l : List UInt8), 2 * k + 1 < l.length → unhexl (l.take (2 * k + 2)) = unhexl (l.take (2 * k)) ++ [two (l.getD (2 * k) 0) (l.getD (2 * k + 1) 0)]
  | 0, c :: d :: r, _ => rfl
  | k + 1, c :: d :: r, h => by
    have ih := unhexl_snoc k r (by simp at h; omega)
    have e1 : 2 * (k + 1) + 2 = (2 * k + 2) + 1 + 1 := by omega
    have e2 : 2 * (k + 1) = 2 * k + 1 + 1 := by omega
    rw [e1, e2]
    simp only [List.take_succ_cons, List.getD_cons_succ]
    show two c d :: unhexl (r.take (2 * k + 2)) = two c d :: unhexl (r.take (2 * k)) ++ _
    rw [ih]; rfl
  | 0, [], h => by simp at h
  | 0, [_], h => by simp at h
  | k + 1, [], h => by simp at h
  | k + 1, [_], h => by simp at h
theorem unhexl_end : ∀ (k : Nat) (l : List UInt8), 2 * k ≤ l.length → l.length ≤ 2 * k + 1 → unhexl (l.take (2 * k)) = unhexl l
  | 0, [], _, _ => rfl
  | 0, [_], _, _ => rfl
  | 0, _ :: _ :: _, _, h => by simp at h
  | k + 1, [], h, _ => by simp at h
  | k + 1, [_], h, _ => by simp only [List.length_cons, List.length_nil] at h; omega
  | k + 1, c :: d :: r, h1, h2 => by
    have e2 : 2 * (k + 1) = 2 * k + 1 + 1 := by omega
    rw [e2]
    simp only [List.take_succ_cons]
    show two c d :: unhexl (r.take (2 * k)) = two c d :: unhexl r
    rw [unhexl_end k r (by simp at h1; omega) (by simp at h2; omega)]
end Tr
abbrev trV (e : Tr.E) : Value := .agg #[.int .i64 e.1, .int .u16 (e.2.1.1.1 : Int), .int .u16 (e.2.1.1.2 : Int), .int .i64 e.2.1.2.1, .int .i64 e.2.1.2.2, .int .u16 (e.2.2.1.1 : Int), .int .u16 (e.2.2.1.2 : Int), .int .i64 e.2.2.2.1, .string e.2.2.2.2]
end Go.Proofs.YtdjndnoiankicaaDoor
namespace Go.Proofs.YtdjndnoiankicaaDoor
open Go.RowKit Go.Shelf
set_option linter.unusedSimpArgs false
set_option linter.unusedVariables false
attribute [local go_sem] cell_over frozen_over

theorem wraps_u8 (n : Int) (h₀ : 0 ≤ n) (h₁ : n < 2 ^ 8) : IntKind.u8.wrap n = n := by simp [IntKind.wrap, IntKind.bits, IntKind.signed]; omega
theorem u8_and15 (x : Int) (h₀ : 0 ≤ x) (h₁ : x < 256) : bits .and .u8 x 15 = x % 16 := bits_mask .u8 8 (by decide) wraps_u8 4 (by decide) x h₀ h₁
theorem index_digits (n : Nat) (h : n < 16) (i : Int) (hi : i = n) (W : World) : (Instr.index 9 (.string ⟨#[48, 49, 50, 51, 52, 53, 54, 55, 56, 57, 97, 98, 99, 100, 101, 102]⟩) (.int .u8 i)).run Tryd.prog W = .ok (.int .u8 ((Tr.hexd n).toNat : Int)) W := by
  subst hi
  rw [run_index_string W 9 _ .u8 (n : Int) Tryd.underlying9, dif_pos ⟨by omega, by show (n : Int) < 16; omega⟩]
  rw [byte_at _ ((n : Int)).toNat (by show n < 16; omega)]
  rfl
theorem toList_snoc (s : ByteArray) (k : Nat) (h : k < s.size) : s.data.toList.take (k + 1) = s.data.toList.take k ++ [s.data.toList.getD k 0] := by
  have h' : k < s.data.toList.length := by rw [Array.length_toList]; exact h
  rw [List.take_succ_eq_append_getElem h', List.getD_eq_getElem?_getD, List.getElem?_eq_getElem h']; rfl
theorem news_two {w : World} {g : Nat} {x y : Value} {t : TypeId} (h : w.heap[g]? = some (.cells #[x, y] t (0, 0))) : ∀ j u, [x, y][j]? = some u → w.cell? ((⟨g, 0, none⟩ : Addr).add j) = some u := by
  intro j u hj
  match j, hj with
  | 0, hj => simp at hj; subst hj; exact cell_of_row w g 0 _ t (0, 0) h
  | 1, hj => simp at hj; subst hj; exact cell_of_row w g 1 _ t (0, 0) h
theorem back_of_own {w : World} {B g cap : Nat} {l : List UInt8} (h : w.ownsRow B 5 1 (.slice (some ⟨g, 0, none⟩) l.length cap) l.length (Lib.byteCells l)) :
    (convert 95 9 (.slice (some ⟨g, 0, none⟩) l.length cap)).run Tryd.prog w = .ok (.string ⟨l.toArray⟩) w :=
  run_convert_bytes_back w 95 9 5 ⟨g, 0, none⟩ cap l Tryd.underlying95 Tryd.underlying5 Tryd.underlying9 (fun j hj => h.cells (g := g) rfl j _ (by simp [Lib.byteCells, hj]))
set_option maxRecDepth 100000 in
set_option maxHeartbeats 2000000 in
theorem hex_ok (s : ByteArray) (hs : s.size ≤ 1000000) (w : World) : Calls Tryd.prog 82 #[.string s] w fun e w' => e = .returned (.string ⟨(Tr.hex s.data.toList).toArray⟩) ∧ Below w.heap.size w w' := by
  by_cases h0 : s = ⟨#[]⟩
  · subst h0
    go_enter Tryd.func82, Tryd.ntmps82
    go_wp2_with fail
    go_ret
    exact ⟨rfl, Below.refl _ _⟩
  · have hln : s.data.toList ≠ [] := fun h => h0 (by
      apply ByteArray.ext; apply Array.toList_inj.1; simpa using h)
    have hl : s.data.toList.length = s.size := by rw [Array.length_toList]; rfl
    have hpos : 0 < s.size := by
      rw [← hl]; exact List.length_pos_iff.2 hln
    have he1 : s.toList.isEmpty = false := by rw [ByteArray.toList_eq]; simpa using hln
    rw [Tr.hex_ne hln]
    obtain ⟨i0, hi, hz0, hz1, hz2⟩ := info_parts info_u8
    clear h0 hln hl
    go_enter Tryd.func82, Tryd.ntmps82
    go_wp2_with fail
    go_loopw [3, 9] (fun v i wr => ∃ k : Nat, i = .int .i64 (k : Int) ∧ k ≤ s.size ∧ Hid (wr.ownsRow w.heap.size 5 1 v (Tr.hexl (s.data.toList.take k)).length (Lib.byteCells (Tr.hexl (s.data.toList.take k)))) ∧ Hid (Below w.heap.size w wr)) (fun _ i _ => s.size - (intOf i).toNat)
    case atStart => exact ⟨0, rfl, Nat.zero_le _, Lib.hid (World.ownsRow_nil _ _ _ _), Lib.hid (Below.refl _ _)⟩
    case round =>
      obtain ⟨k, rfl, hk, hO, hB⟩ := hrel
      by_cases hks : k = s.size
      · subst hks
        have ho := hO.out
        rw [List.take_of_length_le (by rw [Array.length_toList]; exact Nat.le_refl _)] at ho
        obtain ⟨m, hm⟩ : ∃ m, (Tr.hexl s.data.toList).length = m + 1 := by rw [Tr.hexl_len, Array.length_toList]; exact ⟨2 * s.size - 1, by show 2 * s.size = _; omega⟩
        obtain ⟨g, cap, rfl⟩ : ∃ g cap, u3 = .slice (some ⟨g, 0, none⟩) (Tr.hexl s.data.toList).length cap := by
          rw [hm] at ho ⊢; exact own_succ ho
        have hcv := back_of_own ho
        clear hm ho hO
        go_wp2_with fail
        go_ret
        exact ⟨rfl, hB.out⟩
      · have hlt : k < s.size := by omega
        have hki : (k : Int) < (s.size : Int) := by omega
        have hx0 := index_string s (k : Int) k rfl hlt
        have hsn := Lib.hid (toList_snoc s k hlt)
        generalize s.data.toList.getD k 0 = c at hx0 hsn
        have hc := UInt8.toNat_lt c
        have hd1 := index_digits (c.toNat / 16) (by omega) ((c.toNat : Int) / 16) (by omega)
        have hd2 := index_digits (c.toNat % 16) (by omega) (bits .and .u8 (c.toNat : Int) 15) (by rw [u8_and15 (c.toNat : Int) (by omega) (by omega)]; omega)
        clear hks
        have ho := hO.out
        have HO9 := Lib.hid (own_below ho ((below_new (Below.refl wr.heap.size wr) (.cells #[.int .u8 ((Tr.hexd (c.toNat / 16)).toNat : Int), .int .u8 ((Tr.hexd (c.toNat % 16)).toNat : Int)] 5)).drew))
        have hlen : (Tr.hexl (s.data.toList.take k)).length ≤ 2000000 := by
          rw [Tr.hexl_len]; have := List.length_take_le k s.data.toList; omega
        have hbz := hB.out.size
        have HE : Hid ((Tr.hexl (s.data.toList.take (k + 1))).length = (Tr.hexl (s.data.toList.take k)).length + 2 ∧ Lib.byteCells (Tr.hexl (s.data.toList.take (k + 1))) = Lib.byteCells (Tr.hexl (s.data.toList.take k)) ++ [.int .u8 ((Tr.hexd (c.toNat / 16)).toNat : Int), .int .u8 ((Tr.hexd (c.toNat % 16)).toNat : Int)]) := Lib.hid (by rw [hsn.out, Tr.hexl_snoc]; simp [Lib.byteCells])
        generalize (Tr.hexl (s.data.toList.take k)).length = N at HE HO9 hlen ho ⊢
        generalize Lib.byteCells (Tr.hexl (s.data.toList.take k)) = cs at HE HO9 ho
        clear ho hO
        go_wp2_with fail
        go_region_law (refine step_append_own rfl (.tmp 12) (.tmp 23) 95 rfl w.heap.size 5 i0 (.int .u8 0) 1 1 Tryd.underlying95 hi hz0 hz1 hz2 rfl (by decide) u3 N cs (by simp [Act.eval, Act.put]) HO9.out ⟨wr.heap.size, 0, none⟩ 2 2 [.int .u8 ((Tr.hexd (c.toNat / 16)).toNat : Int), .int .u8 ((Tr.hexd (c.toNat % 16)).toNat : Int)] (by simp [Act.eval, Act.put]) rfl (news_two (heap_alloc_new wr _)) (by simp [Value.oneCell']) (by unfold maxLen; omega) (by omega) (by simp; omega) ?_; intro v' w2 hown' hgrow _; have HOW := Lib.hid hown'; have HG := Lib.hid hgrow; clear hown' hgrow)
        all_goals
          have hb2 : Below w.heap.size w w2 := (below_here hB.out ((below_new (Below.refl wr.heap.size wr) (.cells #[.int .u8 ((Tr.hexd (c.toNat / 16)).toNat : Int), .int .u8 ((Tr.hexd (c.toNat % 16)).toNat : Int)] 5)).drew)).grown HG.out (by simp; omega) (fun k h => (HO9.out.lt k h).1)
          have HB2 := Lib.hid hb2
          clear hb2
          go_wp2_with fail
          go_roundw
          case rel => exact ⟨k + 1, by go_num, by omega, by rw [HE.out.1, HE.out.2]; exact HOW, HB2⟩
          case measure => simp [intOf]; omega
end Go.Proofs.YtdjndnoiankicaaDoor
namespace Go.Proofs.YtdjndnoiankicaaDoor
open Go.RowKit Go.Shelf
set_option linter.unusedSimpArgs false
set_option linter.unusedVariables false
attribute [local go_sem] cell_over frozen_over

theorem runs_append_own {P : Program} {C : World → Prop} {o : Oper} {a : Act} {w : World} {K : Act → World → Prop} (s x : Operand) (t : TypeId)
    (ho : o.op = .call { callee := .builtin .append, args := #[s, x], argTypes := #[t, t] })
    (base : Nat) (e : TypeId) (i : TypeInfo) (z : Value) (size bytes : Nat) (ht : P.underlying t = some (.slice e)) (hi : P.info? e = some i) (hz : i.zero = some z)
    (hsize : i.size = size) (hby : i.bytes = bytes) (hzs : z.cells.size = size) (hsz : 0 < size)
    (v : Value) (n : Nat) (xs : List Value) (hs : a.eval s = v) (hown : w.ownsRow base e size v n xs)
    (ad : Addr) (m c : Nat) (news : List Value) (hx : a.eval x = .slice (some ad) m c) (hl : news.length = m * size) (hnews : ∀ j u, news[j]? = some u → w.cell? (ad.add j) = some u) (h1 : ∀ u ∈ news, u.oneCell' = true)
    (h63 : n + m ≤ maxLen) (hbytes : (n + m) * bytes ≤ 140737488355328) (hbase : base ≤ w.heap.size)
    (hK : ∀ v' w', w'.ownsRow base e size v' (n + m) (xs ++ news) → w.grownBy w' v.ownBlock → C w' ∧ K (a.put o.dst v') w') : runsTo P C o a K ((execOp a.eval o).run P w) := by
  obtain ⟨v', w', hrun, h2, h3, h4⟩ := run_append_own (P := P) w base t o.type e i z size bytes ht hi hz hsize hby hzs hsz v n xs hown ad m c news hl hnews h1 h63 hbytes hbase
  simp [execOp, ho, resolve, invoke, builtin, hs, hx, hrun, Result.andThen]
  exact hK v' w' h2 h3
theorem shl4 (x : Int) (h0 : -1 ≤ x) (h1 : x < 16) : IntKind.i64.wrap (x * 16) = x * 16 := IntWalk.i64_in _ (by omega)
theorem index_in (c : UInt8) : -1 ≤ Lib.indexByte Tr.digits c ∧ Lib.indexByte Tr.digits c < 16 := by
  have h : ∀ c : Fin 256, -1 ≤ Lib.indexByte Tr.digits c.val.toUInt8 ∧ Lib.indexByte Tr.digits c.val.toUInt8 < 16 := by decide +kernel
  have := h ⟨c.toNat, UInt8.toNat_lt c⟩
  simpa using this
set_option maxRecDepth 100000 in
set_option maxHeartbeats 2000000 in
theorem unhex_ok (s : ByteArray) (hs : s.size ≤ 1000000) (w : World) : Calls Tryd.prog 80 #[.string s] w fun e w' => e = .returned (.string ⟨(Tr.unhex s.data.toList).toArray⟩) ∧ Below w.heap.size w w' := by
  have hl : s.data.toList.length = s.size := by rw [Array.length_toList]; rfl
  by_cases h0 : s.data.toList = [45]
  · have hu : Tr.unhex s.data.toList = [] := if_pos h0
    rw [hu]
    obtain rfl : s = ⟨#[45]⟩ := by apply ByteArray.ext; apply Array.toList_inj.1; simpa using h0
    clear h0 hu hl
    go_enter Tryd.func80, Tryd.ntmps80
    go_wp2_with fail
    go_ret
    exact ⟨rfl, Below.refl _ _⟩
  · have hu : Tr.unhex s.data.toList = Tr.unhexl s.data.toList := if_neg h0
    have he1 : (s.toList == ([45] : List UInt8)) = false := by rw [ByteArray.toList_eq, beq_eq_false_iff_ne]; exact h0
    rw [hu]
    obtain ⟨i0, hi, hz0, hz1, hz2⟩ := info_parts info_u8
    have HLN := Lib.hid hl
    clear h0 hu hl
    go_enter Tryd.func80, Tryd.ntmps80
    go_wp2_with fail
    go_loopw [3, 4] (fun v i wr => ∃ j : Nat, i = .int .i64 (j : Int) ∧ j ≤ s.size ∧ Hid (∃ k, j = 2 * k) ∧ Hid (wr.ownsRow w.heap.size 5 1 v (Tr.unhexl (s.data.toList.take j)).length (Lib.byteCells (Tr.unhexl (s.data.toList.take j)))) ∧ Hid (Below w.heap.size w wr)) (fun _ i _ => s.size - (intOf i).toNat)
    case atStart => exact ⟨0, rfl, Nat.zero_le _, Lib.hid ⟨0, rfl⟩, Lib.hid (World.ownsRow_nil _ _ _ _), Lib.hid (Below.refl _ _)⟩
    case round =>
      obtain ⟨j, rfl, hj, hE, hO, hB⟩ := hrel
      by_cases hks : s.size ≤ j + 1
      · have hge : ¬ (j : Int) + 1 < (s.size : Int) := by omega
        have ho := hO.out
        have hend : Tr.unhexl (s.data.toList.take j) = Tr.unhexl s.data.toList := by
          obtain ⟨k, rfl⟩ := hE.out
          exact Tr.unhexl_end k _ (by rw [HLN.out]; exact hj) (by rw [HLN.out]; exact hks)
        rw [hend] at ho
        clear hks hO hend
        rcases ho.2 with ⟨rfl, h00⟩ | ⟨g, cap, cur, rfl, _⟩
        · have hl0 : Tr.unhexl s.data.toList = [] := List.length_eq_zero_iff.1 h00
          have HL0 := Lib.hid hl0
          have hcv : (convert 95 9 (.slice none 0 0)).run Tryd.prog wr = .ok (.string ⟨#[]⟩) wr := by kernel_rfl
          clear ho h00 hl0
          go_wp2_with fail
          go_ret
          exact ⟨by rw [HL0.out]; rfl, hB.out⟩
        · have hcv := back_of_own ho
          clear ho
          go_wp2_with fail
          go_ret
          exact ⟨rfl, hB.out⟩
      · have hlt : (j : Int) + 1 < (s.size : Int) := by omega
        have hx0 := index_string s (j : Int) j rfl (by omega)
        have hx1 := index_string s ((j : Int) + 1) (j + 1) (by omega) (by omega)
        have hsn : Tr.unhexl (s.data.toList.take (j + 2)) = Tr.unhexl (s.data.toList.take j) ++ [Tr.two (s.data.toList.getD j 0) (s.data.toList.getD (j + 1) 0)] := by
          obtain ⟨k, rfl⟩ := hE.out
          exact Tr.unhexl_snoc k _ (by rw [HLN.out]; omega)
        have HC : Hid (∀ w : World, Calls Tryd.prog 87 #[.string ⟨#[48, 49, 50, 51, 52, 53, 54, 55, 56, 57, 97, 98, 99, 100, 101, 102]⟩, .int .u8 ((s.data.toList.getD j 0).toNat : Int)] w fun e w' => e = .returned (.int .i64 (Lib.indexByte Tr.digits (s.data.toList.getD j 0))) ∧ w' = w) := Lib.hid fun w => (Tryd.strings_IndexByte ⟨#[48, 49, 50, 51, 52, 53, 54, 55, 56, 57, 97, 98, 99, 100, 101, 102]⟩ ((s.data.toList.getD j 0).toNat : Int) w).mono fun e w' ⟨h1, h2⟩ => ⟨by rw [h1]; show Ending.returned (.int .i64 (Lib.indexByte Tr.digits ((((s.data.toList.getD j 0).toNat : Int).toNat).toUInt8))) = _; simp, h2⟩
        have HD : Hid (∀ w : World, Calls Tryd.prog 87 #[.string ⟨#[48, 49, 50, 51, 52, 53, 54, 55, 56, 57, 97, 98, 99, 100, 101, 102]⟩, .int .u8 ((s.data.toList.getD (j + 1) 0).toNat : Int)] w fun e w' => e = .returned (.int .i64 (Lib.indexByte Tr.digits (s.data.toList.getD (j + 1) 0))) ∧ w' = w) := Lib.hid fun w => (Tryd.strings_IndexByte ⟨#[48, 49, 50, 51, 52, 53, 54, 55, 56, 57, 97, 98, 99, 100, 101, 102]⟩ ((s.data.toList.getD (j + 1) 0).toNat : Int) w).mono fun e w' ⟨h1, h2⟩ => ⟨by rw [h1]; show Ending.returned (.int .i64 (Lib.indexByte Tr.digits ((((s.data.toList.getD (j + 1) 0).toNat : Int).toNat).toUInt8))) = _; simp, h2⟩
        generalize s.data.toList.getD j 0 = c at hx0 hsn HC
        generalize s.data.toList.getD (j + 1) 0 = d at hx1 hsn HD
        have htw : Hid ((Tr.two c d).toNat = (IntKind.u8.wrap (bits .or .i64 (Lib.indexByte Tr.digits c * 16) (Lib.indexByte Tr.digits d))).toNat % 256) := Lib.hid (by unfold Tr.two; simp)
        obtain ⟨hc1, hc2⟩ := index_in c
        obtain ⟨hd1, hd2⟩ := index_in d
        have hwr : 0 ≤ IntKind.u8.wrap (bits .or .i64 (Lib.indexByte Tr.digits c * 16) (Lib.indexByte Tr.digits d)) ∧ IntKind.u8.wrap (bits .or .i64 (Lib.indexByte Tr.digits c * 16) (Lib.indexByte Tr.digits d)) < 256 := by
          generalize bits .or .i64 (Lib.indexByte Tr.digits c * 16) (Lib.indexByte Tr.digits d) = z
          simp only [IntKind.wrap, IntKind.bits, IntKind.signed]; simp; omega
        have hw3 : IntKind.u8.wrap (bits .or .i64 (Lib.indexByte Tr.digits c * 16) (Lib.indexByte Tr.digits d)) = ((Tr.two c d).toNat : Int) := by rw [htw.out]; omega
        have hj1 : IntKind.i64.wrap ((j : Int) + 1) = (j : Int) + 1 := IntWalk.i64_in _ (by omega)
        have hs4 := shl4 _ hc1 hc2
        clear hwr htw
        generalize Lib.indexByte Tr.digits c = ic at HC hw3 hc1 hc2 hs4
        generalize Lib.indexByte Tr.digits d = id' at HD hw3 hd1 hd2
        have ho := hO.out
        have HO9 := Lib.hid (own_below ho (below_new (Below.refl wr.heap.size wr).drew (.cells #[.int .u8 ((Tr.two c d).toNat : Int)] 5)))
        have hlen : (Tr.unhexl (s.data.toList.take j)).length ≤ 2000000 := by
          have h1 := Tr.unhexl_len (s.data.toList.take j)
          have := List.length_take_le j s.data.toList; omega
        have hbz := hB.out.size
        have HEE : Hid ((Tr.unhexl (s.data.toList.take (j + 2))).length = (Tr.unhexl (s.data.toList.take j)).length + 1 ∧ Lib.byteCells (Tr.unhexl (s.data.toList.take (j + 2))) = Lib.byteCells (Tr.unhexl (s.data.toList.take j)) ++ [.int .u8 ((Tr.two c d).toNat : Int)]) := Lib.hid (by rw [hsn]; simp [Lib.byteCells])
        generalize (Tr.unhexl (s.data.toList.take j)).length = N at HEE HO9 hlen ho ⊢
        generalize Lib.byteCells (Tr.unhexl (s.data.toList.take j)) = cs at HEE HO9 ho
        clear ho hO hsn hks
        go_wp2_with fail
        refine wp_region_ord [4, 10, 13, 14] [0, 1, 2, 3, 6, 7, 8, 9, 4, 5, 10, 11, 12, 13, 14, 15] (fun _ => True) (by kernel_rfl) (by kernel_rfl) rfl (by kernel_rfl) trivial ?_
        iterate 8
          refine wpO_one (by simp only [List.getElem?_toArray, List.getElem?_cons_zero, List.getElem?_cons_succ]; exact rfl) (by kernel_rfl) ?_
          (first
            | go_big_quiet_step (fail)
            | (go_big_quiet_want; go_big_quiet_op; refine ⟨_, fun _ _ _ => rfl, ?_⟩; go_big_quiet_on))
          refine wpQuiet_nil ?_
        refine wpO_run rfl rfl rfl (fun K hK => ?_)
        go_simp
        refine (HC.out _).mono ?_
        rintro e W ⟨rfl, hw⟩
        obtain rfl := hw.symm
        refine ⟨_, rfl, trivial, hK _ _ ?_⟩
        clear hK K
        simp only [Act.put, List.setIfInBounds_toArray, List.set_cons_succ, List.set_cons_zero]
        iterate 1
          refine wpO_one (by simp only [List.getElem?_toArray, List.getElem?_cons_zero, List.getElem?_cons_succ]; exact rfl) (by kernel_rfl) ?_
          (first
            | go_big_quiet_step (fail)
            | (go_big_quiet_want; go_big_quiet_op; refine ⟨_, fun _ _ _ => rfl, ?_⟩; go_big_quiet_on))
          refine wpQuiet_nil ?_
        refine wpO_run rfl rfl rfl (fun K hK => ?_)
        go_simp
        refine (HD.out _).mono ?_
        rintro e W ⟨rfl, hw⟩
        obtain rfl := hw.symm
        refine ⟨_, rfl, trivial, hK _ _ ?_⟩
        clear hK K
        simp only [Act.put, List.setIfInBounds_toArray, List.set_cons_succ, List.set_cons_zero]
        iterate 2
          refine wpO_one (by simp only [List.getElem?_toArray, List.getElem?_cons_zero, List.getElem?_cons_succ]; exact rfl) (by kernel_rfl) ?_
          (first
            | go_big_quiet_step (fail)
            | (go_big_quiet_want; go_big_quiet_op; refine ⟨_, fun _ _ _ => rfl, ?_⟩; go_big_quiet_on))
          refine wpQuiet_nil ?_
        refine wpO_run rfl rfl rfl (fun K hK => ?_)
        go_simp
        refine ⟨trivial, hK _ _ ?_⟩
        clear hK K
        simp only [Act.put, List.setIfInBounds_toArray, List.set_cons_succ, List.set_cons_zero]
        refine wpO_run rfl rfl rfl (fun K hK => ?_)
        refine runs_append_own (.tmp 14) (.tmp 27) 95 rfl w.heap.size 5 i0 (.int .u8 0) 1 1 Tryd.underlying95 hi hz0 hz1 hz2 rfl (by decide) u3 N cs (by simp [Act.eval]) HO9.out ⟨wr.heap.size, 0, none⟩ 1 1 [.int .u8 ((Tr.two c d).toNat : Int)] (by simp [Act.eval]) rfl (news_one (heap_alloc_new wr _)) (by simp [Value.oneCell']) (by unfold maxLen; omega) (by omega) (by simp; omega) (fun v' w2 hown' hgrow => ⟨trivial, hK _ _ ?_⟩)
        have HOW := Lib.hid hown'
        have HG := Lib.hid hgrow
        clear hown' hgrow hK K
        simp only [Act.put, List.getElem_toArray, List.getElem_cons_succ, List.getElem_cons_zero, List.setIfInBounds_toArray, List.set_cons_succ, List.set_cons_zero]
        iterate 1
          refine wpO_one (by simp only [List.getElem?_toArray, List.getElem?_cons_zero, List.getElem?_cons_succ]; exact rfl) (by kernel_rfl) ?_
          (first
            | go_big_quiet_step (fail)
            | (go_big_quiet_want; go_big_quiet_op; refine ⟨_, fun _ _ _ => rfl, ?_⟩; go_big_quiet_on))
          refine wpQuiet_nil ?_
        refine wpO_nil ?_
        have hb2 : Below w.heap.size w w2 := (below_here hB.out (below_new (Below.refl wr.heap.size wr).drew (.cells #[.int .u8 ((Tr.two c d).toNat : Int)] 5))).grown HG.out (by simp; omega) (fun k h => (HO9.out.lt k h).1)
        have HB2 := Lib.hid hb2
        have HE2 : Hid (∃ k, j + 2 = 2 * k) := Lib.hid (by obtain ⟨k, rfl⟩ := hE.out; exact ⟨k + 1, by omega⟩)
        clear hb2
        go_wp2_with fail
        go_roundw
        case rel => exact ⟨j + 2, by go_num, by omega, HE2, by rw [HEE.out.1, HEE.out.2]; exact HOW, HB2⟩
        case measure => simp [intOf]; omega
end Go.Proofs.YtdjndnoiankicaaDoor
namespace Go.Proofs.YtdjndnoiankicaaDoor
open Go.RowKit Go.Shelf
set_option linter.unusedSimpArgs false
set_option linter.unusedVariables false
attribute [local go_sem] cell_over frozen_over

theorem itoa_ok (n : Int) (h0 : -9223372036854775808 ≤ n) (h1 : n ≤ 9223372036854775807) (w : World) (hW : PowAt w) : Calls Tryd.prog 62 #[.int .i64 n] w fun e w' => e = .returned (.string ⟨(Lib.itoa n).toArray⟩) ∧ Below w.heap.size w w' :=
  (Tryd.strconv_Itoa n h0 h1 w (hW w (Below.refl _ _))).mono fun e w' ⟨h1, k, os, h2⟩ => ⟨h1, by
    rw [h2]
    exact ⟨rfl, rfl, rfl, (by show w.heap.size ≤ ((w.drewN k).heap ++ os).size; rw [Array.size_append]; exact Nat.le_add_right _ _), fun i hi => by
      show ((w.drewN k).heap ++ os)[i]? = _
      rw [Array.getElem?_append_left (by show i < w.heap.size; omega)]
      rfl⟩⟩
namespace Tr
def ok (e : E) : Prop := (-9223372036854775808 ≤ e.1 ∧ e.1 ≤ 9223372036854775807) ∧ Lab.ok e.2.1.1 ∧ Lab.ok e.2.2.1 ∧ (-9223372036854775808 ≤ e.2.2.2.1 ∧ e.2.2.2.1 ≤ 9223372036854775807)
end Tr
theorem idtext_len (x : Idn.I) : (Idn.text x).length ≤ 102 := by
  unfold Idn.text
  split
  · have := labtext_size x.1
    have e : (Lab.text x.1).length ≤ 99 := by simpa [ByteArray.size] using this
    simp; omega
  · simp
theorem join5_len (a b c d e : List UInt8) : (Lib.join [a, b, c, d, e] [32]).length = a.length + b.length + c.length + d.length + e.length + 4 := by
  simp [Lib.join, List.intercalate]; omega
theorem cells5_str (w : World) (t : TypeId) (xs : List ByteArray) (a b c d e : ByteArray) (h : xs = [a, b, c, d, e]) : ∀ (j : Nat) x, xs[j]? = some x → (w.alloc (.cells #[.string a, .string b, .string c, .string d, .string e] t)).cell? ⟨w.heap.size, 0 + j, none⟩ = some (.string x) := by
  subst h
  intro j x hj
  rw [cell_of_row _ _ _ _ _ _ (heap_alloc_new w _), Nat.zero_add]
  match j, hj with
  | 0, hj => simp at hj; subst hj; rfl
  | 1, hj => simp at hj; subst hj; rfl
  | 2, hj => simp at hj; subst hj; rfl
  | 3, hj => simp at hj; subst hj; rfl
  | 4, hj => simp at hj; subst hj; rfl
set_option maxRecDepth 100000 in
set_option maxHeartbeats 2000000 in
theorem trline_ok (e : Tr.E) (he : Tr.ok e) (hs : e.2.2.2.2.size ≤ 1000000) (w : World) (hT : TabAt w) (hW : PowAt w) :
    Calls Tryd.prog 56 #[trV e] w fun r w' => r = .returned (.string ⟨(Tr.line e).toArray⟩) ∧ Below w.heap.size w w' := by
  obtain ⟨⟨a0, a1⟩, hwho, hlab, b0, b1⟩ := he
  have I1 := Lib.hid (fun w h => itoa_ok e.1 a0 a1 w h)
  have I2 := Lib.hid (fun w h => itoa_ok e.2.2.2.1 b0 b1 w h)
  have T1 := Lib.hid (fun w hT hW => itext_ok e.2.1 hwho w hT hW)
  have T2 := Lib.hid (fun w hT hW => ltext_ok e.2.2.1 hlab w hT hW)
  have X1 := Lib.hid (fun w => hex_ok e.2.2.2.2 hs w)
  have l1 := Lib.itoa_length_le e.1 a0 a1
  have l2 := Lib.itoa_length_le e.2.2.2.1 b0 b1
  have l3 := idtext_len e.2.1
  have l4 : (Lab.text e.2.2.1).length ≤ 99 := by simpa [ByteArray.size] using labtext_size e.2.2.1
  have l5 : (Tr.hex e.2.2.2.2.data.toList).length ≤ 2000001 := by
    unfold Tr.hex
    split
    · simp
    · rw [Tr.hexl_len, Array.length_toList]; have : e.2.2.2.2.data.size ≤ 1000000 := hs; omega
  have HS : Hid (Tr.line e = Lib.join [Lib.itoa e.1, Idn.text e.2.1, Lab.text e.2.2.1, Lib.itoa e.2.2.2.1, Tr.hex e.2.2.2.2.data.toList] [32]) := Lib.hid rfl
  have HJL := Lib.hid (join5_len (Lib.itoa e.1) (Idn.text e.2.1) (Lab.text e.2.2.1) (Lib.itoa e.2.2.2.1) (Tr.hex e.2.2.2.2.data.toList))
  have HT := Lib.hid (hT.below (below_fresh w (.cells #[.int .i64 e.1, .int .u16 (e.2.1.1.1 : Int), .int .u16 (e.2.1.1.2 : Int), .int .i64 e.2.1.2.1, .int .i64 e.2.1.2.2, .int .u16 (e.2.2.1.1 : Int), .int .u16 (e.2.2.1.2 : Int), .int .i64 e.2.2.2.1, .string e.2.2.2.2] 79)))
  have HW := Lib.hid (hW.below (below_fresh w (.cells #[.int .i64 e.1, .int .u16 (e.2.1.1.1 : Int), .int .u16 (e.2.1.1.2 : Int), .int .i64 e.2.1.2.1, .int .i64 e.2.1.2.2, .int .u16 (e.2.2.1.1 : Int), .int .u16 (e.2.2.1.2 : Int), .int .i64 e.2.2.2.1, .string e.2.2.2.2] 79)))
  generalize Lib.itoa e.1 = s1 at I1 l1 HS HJL
  generalize Idn.text e.2.1 = s2 at T1 l3 HS HJL
  generalize Lab.text e.2.2.1 = s3 at T2 l4 HS HJL
  generalize Lib.itoa e.2.2.2.1 = s4 at I2 l2 HS HJL
  generalize Tr.hex e.2.2.2.2.data.toList = s5 at X1 l5 HS HJL
  obtain ⟨at', ⟨⟨x1, x2⟩, x3, x4⟩, ⟨y1, y2⟩, er, da⟩ := e
  have HJ := Lib.hid (fun (W : World) => Tryd.strings_Join W.heap.size 0 5 [⟨s1.toArray⟩, ⟨s2.toArray⟩, ⟨s3.toArray⟩, ⟨s4.toArray⟩, ⟨s5.toArray⟩] ⟨#[32]⟩ (W.alloc (.cells #[.string ⟨s1.toArray⟩, .string ⟨s2.toArray⟩, .string ⟨s3.toArray⟩, .string ⟨s4.toArray⟩, .string ⟨s5.toArray⟩] 9)) (cells5_str W _ _ _ _ _ _ _ rfl) (by simp) (by simp) (by simp) (by simp only [List.map_cons, List.map_nil]; rw [HJL.out]; omega))
  simp only [List.map_cons, List.map_nil, List.length_cons, List.length_nil, Nat.reduceAdd] at HJ
  rw [← HS.out] at HJ
  generalize (⟨s1.toArray⟩ : ByteArray) = r1 at I1 HJ
  generalize (⟨s2.toArray⟩ : ByteArray) = r2 at T1 HJ
  generalize (⟨s3.toArray⟩ : ByteArray) = r3 at T2 HJ
  generalize (⟨s4.toArray⟩ : ByteArray) = r4 at I2 HJ
  generalize (⟨s5.toArray⟩ : ByteArray) = r5 at X1 HJ
  generalize Tr.line (at', ((x1, x2), x3, x4), (y1, y2), er, da) = res at HJ HS
  simp only at I1 I2 T1 T2 X1 HT HW
  clear HJL HS l1 l2 l3 l4 l5 hT hW hs hwho hlab a0 a1 b0 b1
  go_enter Tryd.func56, Tryd.ntmps56
  go_wp2_with fail
  refine wp_region_over_tail 17 (by kernel_rfl) (by kernel_rfl) ?_
  simp only [List.take_succ_cons, List.take_zero, List.drop_succ_cons, List.drop_zero]
  repeat (go_big_quiet_step (first
    | ((go_at_call 62; with_reducible exact Calls.over_of (I1.out _ (HW.out.below (over_below _ _)))))
    | ((go_at_call 62; with_reducible exact Calls.over_of (I2.out _ (HW.out.below (over_below _ _)))))
    | ((go_at_call 42; exact Calls.over_of (T1.out _ (HT.out.below (over_below _ _)) (HW.out.below (over_below _ _)))))
    | ((go_at_call 27; exact Calls.over_of (T2.out _ (HT.out.below (over_below _ _)) (HW.out.below (over_below _ _)))))
    | ((go_at_call 82; exact Calls.over_of (X1.out _)))))
  refine wpQuiet_nil ?_
  intro W7 hW7
  have hb7 := below_of_over hW7
  clear hW7
  go_wp2_with (go_at_call 81; refine (HJ.out W7).mono ?_; rintro e w8 ⟨rfl, hb8⟩)
  go_ret
  exact ⟨rfl, below_here (below_new (below_here (below_fresh _ _) hb7) _) hb8⟩
end Go.Proofs.YtdjndnoiankicaaDoor
