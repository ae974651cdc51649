/- Package trace: Seen (a range over a closure): what it returns. No conditions. -/
import Derived.Test.YtdjndnoiankicaaDoorTrc
import Derived.Test.YtdjndnoiankicaaDoorTtext
namespace Go.Proofs.YtdjndnoiankicaaDoor
open Go.RowKit Go.Shelf
set_option linter.unusedSimpArgs false
set_option linter.unusedVariables false
attribute [local go_sem] Oper.semAt_some

/-- The blocks below M + 4 lie as they lay, but for one. -/
def KeepS (M : Nat) (A B : World) : Prop := ∀ k, k < M + 4 → k ≠ M + 1 → B.heap[k]? = A.heap[k]?
theorem keepS_t {M : Nat} {A B C : World} (h : KeepS M A B) (k : KeepS M B C) : KeepS M A C := fun q h1 h2 => (k q h1 h2).trans (h q h1 h2)
theorem keepS_b {M : Nat} {w : World} (hN : M + 4 ≤ w.heap.size) (W : World) (l : Nat) (o o' : Obj) (hl : w.heap.size ≤ l) (_ : W.heap[l]? = some o) (_ : o.isCells = false) (_ : o.isWalk = false) : KeepS M W (W.putObj l o') := fun q hq _ => by
  show (W.heap.setIfInBounds l o')[q]? = _
  rw [Array.getElem?_setIfInBounds_ne (by omega)]
theorem keepS_below {M : Nat} {A B : World} (hN : M + 4 ≤ A.heap.size) (h : Below A.heap.size A B) : KeepS M A B := fun q hq _ => h.block q (by omega)
/-- What the closure reads. -/
def SeenEnv (M : Nat) (A : Option Addr) (c : Nat) (es : List Tr.E) (b : Lab.L) (W : World) : Prop :=
  W.heap[M + 2]? = some (.cells #[.slice A es.length c] 44 (0, 0)) ∧ LabIn (M + 3) b W ∧ (es = [] ∨ ∃ blk off, A = some ⟨blk, off, none⟩ ∧ blk < M ∧ ∀ i (h : i < es.length), Ent9 W blk (off + i * 9) es[i])
theorem Ent9.keep {A B : World} {b o : Nat} {e : Tr.E} (h : Ent9 A b o e) (hb : B.heap[b]? = A.heap[b]?) : Ent9 B b o e := by
  have k : ∀ i, B.cell? ⟨b, i, none⟩ = A.cell? ⟨b, i, none⟩ := fun i => World.cell?_of_block (w := A) (a := ⟨b, i, none⟩) hb
  unfold Ent9
  simp only [k]
  exact h
theorem SeenEnv.keep {M : Nat} {A : Option Addr} {c : Nat} {es : List Tr.E} {b : Lab.L} {W W' : World} (h : SeenEnv M A c es b W) (hk : KeepS M W W') : SeenEnv M A c es b W' := by
  obtain ⟨h1, h2, h3⟩ := h
  refine ⟨(hk _ (by omega) (by omega)).trans h1, (hk _ (by omega) (by omega)).trans h2, ?_⟩
  rcases h3 with h3 | ⟨blk, off, h4, h5, h6⟩
  · exact .inl h3
  · exact .inr ⟨blk, off, h4, h5, fun i hi => (h6 i hi).keep (hk _ (by omega) (by omega))⟩
theorem SeenEnv.below {M : Nat} {A : Option Addr} {c : Nat} {es : List Tr.E} {b : Lab.L} {W W' : World} (h : SeenEnv M A c es b W) (hb : Below W.heap.size W W') : SeenEnv M A c es b W' := by
  obtain ⟨h1, h2, h3⟩ := h
  refine ⟨block_below hb h1, block_below hb h2, ?_⟩
  rcases h3 with h3 | ⟨blk, off, h4, h5, h6⟩
  · exact .inl h3
  · exact .inr ⟨blk, off, h4, h5, fun i hi => (h6 i hi).below hb⟩
theorem seq_ok (A : Option Addr) (n c : Nat) (b : Lab.L) (w : World) : Calls Tryd.prog 57 #[.slice A n c, labV b] w fun e w' => e = .returned (.func (.func 83) #[] #[.pointer (some ⟨w.heap.size, 0, none⟩), .pointer (some ⟨w.heap.size + 1, 0, none⟩)]) ∧ w' = (w.alloc (.cells #[.slice A n c] 44)).alloc (.cells #[.int .u16 (b.1 : Int), .int .u16 (b.2 : Int)] 24) := by
  go_enter Tryd.func57, Tryd.ntmps57
  go_wp2_with fail
  go_ret
  exact ⟨rfl, rfl⟩
set_option maxRecDepth 100000 in
set_option maxHeartbeats 2000000 in
theorem seen1_in (n l M c B : Nat) (A : Option Addr) (es : List Tr.E) (hlen : es.length ≤ 1000000) (hok : ∀ e ∈ es, Lab.ok e.2.2.1) (b : Lab.L) (hb : Lab.ok b) (J Jx : List Tr.E → World → Prop) (hJA : AbidesFrom B J)
    (hY : ∀ (pre : List Tr.E) (x : Tr.E) (W : World), J pre W → pre.length < es.length → YieldAt Fence.wide (n - 1) Tryd.prog l #[trV x] W fun e W' =>
      (e = .returned (.bool true) ∧ J (pre ++ [x]) W' ∧ KeepS M W W') ∨ (e = .returned (.bool false) ∧ Jx (pre ++ [x]) W'))
    (W : World) (hE : SeenEnv M A c es b W) (h0 : J [] W) :
    CallsIn Fence.wide n Tryd.prog 83 #[.func (.yield l) #[] #[], .pointer (some ⟨M + 2, 0, none⟩), .pointer (some ⟨M + 3, 0, none⟩)] W fun e W' => (∃ v, e = .returned v) ∧
      ((∃ ys, ys = Tr.seen es b ∧ J ys W') ∨ (∃ pre, pre <+: Tr.seen es b ∧ Jx pre W')) := by
  refine callsIn_of_wp Tryd.func83 rfl trivial ?_ rfl
  simp only [Tryd.ntmps83, List.size_toArray, List.length_cons, List.length_nil, Nat.reduceAdd, Nat.reduceSub, Array.replicate_succ, Array.replicate_zero, List.push_toArray, List.append_toArray, List.nil_append, List.cons_append]
  have hc := cell_of_one hE.1
  obtain ⟨N, hN⟩ : ∃ N, N = es.length := ⟨_, rfl⟩
  have HN := Lib.hid hN
  have HE := Lib.hid hE
  have HJ := Lib.hid h0
  have HOK := Lib.hid hok
  have HF := Lib.hid (fun e (h : Lab.ok e) w => flows_ok e b h hb w)
  rw [← hN] at hc hlen
  clear hE h0 hok hb hN
  gi_wp2
  gi_loopw [8] (fun i wr => ∃ (k : Nat) (pre : List Tr.E), i = .int .i64 (k : Int) ∧ k ≤ N ∧ Hid (pre = Tr.seen (es.take k) b) ∧ Hid (SeenEnv M A c es b wr) ∧ Hid (J pre wr)) (fun i _ => N - (intOf i).toNat)
  case atStart => exact ⟨0, [], rfl, Nat.zero_le _, Lib.hid rfl, HE, HJ⟩
  case round =>
    obtain ⟨k, pre, rfl, hk, hp, HE1, HJ1⟩ := hrel
    by_cases hkn : k = N
    · subst hkn
      gi_wp2
      go_end0
      refine ⟨⟨_, rfl⟩, .inl ⟨_, ?_, HJ1.out⟩⟩
      rw [hp.out, HN.out, List.take_length]
    · have hlt : k < N := by omega
      have hki : (k : Int) < (N : Int) := by omega
      have hkl : k < es.length := by rw [← HN.out]; exact hlt
      obtain ⟨b', off, rfl, hbM, e0⟩ : ∃ b off, A = some ⟨b, off, none⟩ ∧ b < M ∧ Ent9 wr b (off + k * 9) es[k] := by
        rcases HE1.out.2.2 with h | ⟨b, off, h1, h2, h3⟩
        · rw [h] at hkl; simp at hkl
        · exact ⟨b, off, h1, h2, h3 k hkl⟩
      have HFK := Lib.hid (HF.out _ (HOK.out _ (List.getElem_mem hkl)))
      have hsn := Tr.seen_snoc (es.take k) b es[k]
      rw [← List.take_succ_eq_append_getElem hkl, ← hp.out] at hsn
      have hpl : pre.length < es.length := by
        have h1 := Tr.seen_len (es.take k) b
        have h2 := List.length_take_le k es
        rw [hp.out]; omega
      have hpf : ∀ z, Tr.seen (es.take (k + 1)) b = z → z <+: Tr.seen es b := fun z hz => by
        subst hz
        conv => rhs; rw [← List.take_append_drop (k + 1) es]
        unfold Tr.seen
        rw [List.filter_append]
        exact List.prefix_append _ _
      have HPF := Lib.hid hpf
      have HPL := Lib.hid hpl
      have HS := Lib.hid hsn
      clear hsn hpl hpf
      generalize es[k] = x at e0 HS HFK
      generalize Lab.flows x.2.2.1 b = d at HS HFK
      obtain ⟨at', ⟨⟨x1, x2⟩, x3, x4⟩, ⟨y1, y2⟩, er, da⟩ := x
      have e1 := e0
      obtain ⟨a0, a1, a2, a3, a4, a5, a6, a7, a8⟩ := e1
      obtain ⟨c1, c2, c3, c4⟩ := pair_cells HE1.out.2.1
      have hlp : M + 3 < wr.heap.size := World.block_lt_of_cell? wr _ c1
      have hlb : b' < wr.heap.size := by omega
      clear e0 hkl hkn
      gi_wp2
      refine ⟨trivial, (fun h => by cases h), ?_⟩
      refine (callsIn_wide.2 (HFK.out _)).mono ?_
      rintro e w1 ⟨rfl, hb1⟩
      have hbl := block_below hb1 (heap_alloc_new wr (.cells #[.int .i64 at', .int .u16 (x1 : Int), .int .u16 (x2 : Int), .int .i64 x3, .int .i64 x4, .int .u16 (y1 : Int), .int .u16 (y2 : Int), .int .i64 er, .string da] 79))
      have hB1 : Below wr.heap.size wr w1 := below_here (below_fresh wr _) hb1
      have HE2 := Lib.hid (HE1.out.below hB1)
      have HJ2 := Lib.hid (hJA _ _ _ none HJ1.out (grown_below hB1 none) (fun r e => by cases e))
      clear a0 a1 a2 a3 a4 a5 a6 a7 a8 c1 c2 c3 c4 hlb hlp hb1 hB1 HE1 HJ1 HJ HE
      obtain ⟨⟨n0, n1, n2, n3, n4, n5, n6, n7, n8⟩, ⟨f0, f1, f2, f3, f4, f5, f6, f7, f8⟩, hl9⟩ := nine_cells hbl
      clear hbl
      cases d with
      | false =>
        have HSS : Hid (pre = Tr.seen (es.take (k + 1)) b) := Lib.hid (by rw [HS.out]; simp)
        gi_wp2
        refine ⟨(fun f h => by cases h), ?_⟩
        gi_wp2
        go_roundw
        case rel => exact ⟨k + 1, pre, by go_num, by omega, HSS, HE2, HJ2⟩
        case measure => simp [intOf]; omega
      | true =>
        have HSS : Hid (pre ++ [(at', ((x1, x2), x3, x4), (y1, y2), er, da)] = Tr.seen (es.take (k + 1)) b) := Lib.hid (by rw [HS.out]; simp)
        clear HS HFK
        gi_wp2
        obtain ⟨fn, tmps, assign, body, hy, hR⟩ := hY pre (at', ((x1, x2), x3, x4), (y1, y2), er, da) _ HJ2.out HPL.out
        rw [hy, Oper.uponIn_round]
        refine ⟨(fun h => by cases h), ?_⟩
        refine hR.mono ?_
        rintro e W3 (⟨rfl, hJ3, hk3⟩ | ⟨rfl, hJx3⟩)
        · clear hy hR
          have HE3 := Lib.hid (HE2.out.keep hk3)
          have HJ3 := Lib.hid hJ3
          clear hJ3 hk3 n0 n1 n2 n3 n4 n5 n6 n7 n8 f0 f1 f2 f3 f4 f5 f6 f7 f8 hl9
          gi_wp2
          go_roundw
          case rel => exact ⟨k + 1, _, by go_num, by omega, HSS, HE3, HJ3⟩
          case measure => simp [intOf]; omega
        · clear hy hR n0 n1 n2 n3 n4 n5 n6 n7 n8 f0 f1 f2 f3 f4 f5 f6 f7 f8 hl9
          gi_wp2
          refine bodyPost_ret (results_none rfl _ _ _) rfl ?_
          exact ⟨⟨_, rfl⟩, .inr ⟨_, HPF.out _ HSS.out.symm, hJx3⟩⟩
theorem seen_seqK (n M c : Nat) (A : Option Addr) (es : List Tr.E) (hlen : es.length ≤ 1000000) (hok : ∀ e ∈ es, Lab.ok e.2.2.1) (b : Lab.L) (hb : Lab.ok b) (w : World) (hE : SeenEnv M A c es b w) :
    SeqStopsK Fence.wide n Tryd.prog 83 #[.pointer (some ⟨M + 2, 0, none⟩), .pointer (some ⟨M + 3, 0, none⟩)] (fun x : Tr.E => #[trV x]) (KeepS M) (fun ys => ys = Tr.seen es b) (fun pre => pre <+: Tr.seen es b) es.length w := fun l J Jx W hW hJ _ hY h0 =>
  seen1_in n l M c W.heap.size A es hlen hok b hb J Jx hJ (fun pre x W hj hl => hY pre x W hj hl) W (hE.below hW) h0
set_option maxRecDepth 100000 in
set_option maxHeartbeats 2000000 in
theorem tseen_ok (A : Option Addr) (c : Nat) (es : List Tr.E) (hlen : es.length ≤ 1000000) (hok : ∀ e ∈ es, Lab.ok e.2.2.1) (b : Lab.L) (hb : Lab.ok b) (w : World) (hA : EntsAt w A es) :
    Calls Tryd.prog 33 #[.slice A es.length c, labV b] w fun e w' => ∃ v, e = .returned v ∧ w'.ownsRow w.heap.size 79 9 v (Tr.seen es b).length (flatE (Tr.seen es b)) ∧ Below w.heap.size w w' := by
  refine (callsIn_wide (n := 9)).1 ?_
  refine callsIn_of_wp_marks Tryd.func33 rfl trivial ?_ rfl
  simp only [Tryd.ntmps33, List.size_toArray, List.length_cons, List.length_nil, Nat.reduceAdd, Nat.reduceSub, Array.replicate_succ, Array.replicate_zero, List.push_toArray, List.append_toArray, List.nil_append, List.cons_append]
  gi_wp2_with (refine ⟨trivial, ?_⟩; refine (callsIn_wide.2 (seq_ok A es.length c b _)).mono ?_; rintro e w1 ⟨rfl, rfl⟩)
  obtain ⟨i0, hi, hz0, hz1, hz2⟩ := info_parts info_tre
  have hB0 : Below w.heap.size w ((((w.alloc (.cells #[.int .u16 (b.1 : Int), .int .u16 (b.2 : Int)] 24)).alloc (.cells #[.slice none 0 0] 44)).alloc (.cells #[.slice A es.length c] 44)).alloc (.cells #[.int .u16 (b.1 : Int), .int .u16 (b.2 : Int)] 24)) := below_new (below_new (below_new (below_new (Below.refl _ _) _) _) _) _
  have hsz : ((((w.alloc (.cells #[.int .u16 (b.1 : Int), .int .u16 (b.2 : Int)] 24)).alloc (.cells #[.slice none 0 0] 44)).alloc (.cells #[.slice A es.length c] 44)).alloc (.cells #[.int .u16 (b.1 : Int), .int .u16 (b.2 : Int)] 24)).heap.size = w.heap.size + 4 := by simp
  have hbx : Boxed ((((w.alloc (.cells #[.int .u16 (b.1 : Int), .int .u16 (b.2 : Int)] 24)).alloc (.cells #[.slice none 0 0] 44)).alloc (.cells #[.slice A es.length c] 44)).alloc (.cells #[.int .u16 (b.1 : Int), .int .u16 (b.2 : Int)] 24)) (w.heap.size + 1) 44 (.slice none 0 0) := by
    have := ((Boxed.new (w.alloc (.cells #[.int .u16 (b.1 : Int), .int .u16 (b.2 : Int)] 24)) 44 (.slice none 0 0)).alloc (.cells #[.slice A es.length c] 44)).alloc (.cells #[.int .u16 (b.1 : Int), .int .u16 (b.2 : Int)] 24)
    rwa [World.size_alloc] at this
  have hE : SeenEnv w.heap.size A c es b ((((w.alloc (.cells #[.int .u16 (b.1 : Int), .int .u16 (b.2 : Int)] 24)).alloc (.cells #[.slice none 0 0] 44)).alloc (.cells #[.slice A es.length c] 44)).alloc (.cells #[.int .u16 (b.1 : Int), .int .u16 (b.2 : Int)] 24)) := by
    refine ⟨?_, ?_, ?_⟩
    · have := block_below (below_fresh _ (.cells #[.int .u16 (b.1 : Int), .int .u16 (b.2 : Int)] 24)) (heap_alloc_new ((w.alloc (.cells #[.int .u16 (b.1 : Int), .int .u16 (b.2 : Int)] 24)).alloc (.cells #[.slice none 0 0] 44)) (.cells #[.slice A es.length c] 44))
      rwa [World.size_alloc, World.size_alloc] at this
    · have := LabIn.new (((w.alloc (.cells #[.int .u16 (b.1 : Int), .int .u16 (b.2 : Int)] 24)).alloc (.cells #[.slice none 0 0] 44)).alloc (.cells #[.slice A es.length c] 44)) b
      rwa [World.size_alloc, World.size_alloc, World.size_alloc] at this
    · rcases hA with h | ⟨blk, off, h1, h2⟩
      · exact .inl h
      · by_cases h0 : es = []
        · exact .inl h0
        · refine .inr ⟨blk, off, h1, ?_, fun i hi => (h2 i hi).below hB0⟩
          have hp : 0 < es.length := List.length_pos_iff.2 h0
          exact World.block_lt_of_cell? w _ (h2 0 hp).1
  obtain ⟨W4, hW4⟩ : ∃ W4, W4 = ((((w.alloc (.cells #[.int .u16 (b.1 : Int), .int .u16 (b.2 : Int)] 24)).alloc (.cells #[.slice none 0 0] 44)).alloc (.cells #[.slice A es.length c] 44)).alloc (.cells #[.int .u16 (b.1 : Int), .int .u16 (b.2 : Int)] 24)) := ⟨_, rfl⟩
  rw [← hW4] at hB0 hsz hbx hE ⊢
  clear hW4
  have hseq := seen_seqK 8 w.heap.size c A es hlen hok b hb W4 hE
  refine wpIn_rangeFunc_ownH rfl (by omega) (gf := 83) (lb := #[.pointer (some ⟨w.heap.size + 1 + 1, 0, none⟩), .pointer (some ⟨w.heap.size + 1 + 1 + 1, 0, none⟩)]) rfl trivial (enters_of Tryd.func83 (by kernel_rfl) rfl)
    hseq keepS_t (keepS_b (by omega)) (Below.refl _ _) (fun _ => rfl)
    (fun pre W => (∃ v, Boxed W (w.heap.size + 1) 44 v ∧ W.ownsRow (w.heap.size + 4) 79 9 v pre.length (flatE pre) ∧ True) ∧ Below w.heap.size W4 W)
    (fun _ _ _ => False)
    (OwnFrom.and (Own.from (holdsRow_own (w.heap.size + 4) (w.heap.size + 1) 44 79 9 (fun pre : List Tr.E => pre.length) (fun pre : List Tr.E => flatE pre) (fun _ _ => True)) _) (ownFrom_below (by omega) (by omega)))
    (fun _ _ _ _ _ hs _ _ => hs)
    ⟨⟨_, hbx, World.ownsRow_nil _ _ _ _, trivial⟩, Below.refl _ _⟩
    (fun x a' W => ∃ g', W.heap[g']? = some (.cells #[.int .i64 x.1, .int .u16 (x.2.1.1.1 : Int), .int .u16 (x.2.1.1.2 : Int), .int .i64 x.2.1.2.1, .int .i64 x.2.1.2.2, .int .u16 (x.2.2.1.1 : Int), .int .u16 (x.2.2.1.2 : Int), .int .i64 x.2.2.2.1, .string x.2.2.2.2] 79 (0, 0)) ∧ a' = { tmps := #[.slice A es.length c, labV b, undef, .pointer (some ⟨w.heap.size, 0, none⟩), .slice none 0 0, .pointer (some ⟨w.heap.size + 1, 0, none⟩), .pointer (some ⟨g', 0, none⟩), .slice A es.length c, .agg #[.int .u16 (b.1 : Int), .int .u16 (b.2 : Int)], .func (.func 83) #[] #[.pointer (some ⟨w.heap.size + 1 + 1, 0, none⟩), .pointer (some ⟨w.heap.size + 1 + 1 + 1, 0, none⟩)], trV x, undef, undef, undef, undef, undef], defers := [] })
    (fun x a' _ A B row hs hg hr => by
      obtain ⟨g', h1, h2⟩ := hs
      refine ⟨g', (hg.block g' (Array.getElem?_eq_some_iff.1 h1).1 fun e => ?_).trans h1, h2⟩
      obtain ⟨_, o, ho, hc⟩ := hr g' e.symm
      rw [h1] at ho; cases ho; cases hc) ?assign ?body ?done ?stop
  case assign =>
    rintro l pre x W K ⟨⟨v, hv, hrow, _⟩, hB⟩ hK
    have hsW := hB.size
    simp only [List.zip_toArray, List.zip_cons_cons, List.zip_nil_right, List.foldl_toArray', List.foldl_cons, List.foldl_nil, List.setIfInBounds_toArray, List.set_cons_succ, List.set_cons_zero]
    gi_wp2
    exact hK _ _ ((KeepsOthers.alloc W _).from _) (fun k hk _ => Below.heap_alloc W _ k (by omega)) ⟨⟨v, hv.alloc _, hrow.alloc _, trivial⟩, hB.alloc (by omega) _⟩ ⟨W.heap.size, heap_alloc_new W _, rfl⟩
  case body =>
    rintro l pre x a' W hl _ ⟨⟨v, hv, hrow, _⟩, hB⟩ ⟨g', hg', rfl⟩ hlen1
    have hcv := hv.cell
    have hfv := hv.frozen
    have hsW := hB.size
    obtain ⟨at', ⟨⟨x1, x2⟩, x3, x4⟩, ⟨y1, y2⟩, er, da⟩ := x
    dsimp only at hg' ⊢
    obtain ⟨⟨n0, n1, n2, n3, n4, n5, n6, n7, n8⟩, ⟨f0, f1, f2, f3, f4, f5, f6, f7, f8⟩, hl9⟩ := nine_cells hg'
    clear hg'
    gi_wp2_with (gi_at_builtin; refine wpListIn_append_own _ rfl (.tmp 11) (.tmp 13) 44 rfl (w.heap.size + 4) 79 i0 _ 9 64 Tryd.underlying44 hi hz0 hz1 hz2 rfl (by decide) v pre.length (flatE pre) (by simp [Act.eval, Act.put]) (hrow.alloc _) ⟨W.heap.size, 0, none⟩ 1 1 [.int .i64 at', .int .u16 (x1 : Int), .int .u16 (x2 : Int), .int .i64 x3, .int .i64 x4, .int .u16 (y1 : Int), .int .u16 (y2 : Int), .int .i64 er, .string da] (by simp [Act.eval, Act.put]) rfl (news_block (heap_alloc_new W _)) (by simp [Value.oneCell']) (by unfold maxLen; omega) (by omega) (by simp; omega) ?_; intro v' w2 hown' hgrow _; obtain ⟨gg, cap2, rfl⟩ := ownsRow_succ hown'; have hv2 : Boxed w2 (w.heap.size + 1) 44 v := (hv.appended (by decide) (own_base hrow (Nat.le_add_right _ _)) (by omega) (by omega) (own_base hown' (Nat.le_add_right _ _)) hgrow).1; have hcv2 := hv2.cell; have hfv2 := hv2.frozen; have HO := Lib.hid hown'; have HG := Lib.hid hgrow; clear hown' hgrow)
    obtain ⟨_, hb3, _, hk3, hw3⟩ := hv.appended (by decide) (own_base hrow (Nat.le_add_right w.heap.size 4)) (by omega) (by omega) (own_base HO.out (Nat.le_add_right w.heap.size 4)) HG.out
    have hown3 := HO.out.kept (grownBy_setCell' w2 (w.heap.size + 1) (.slice (some ⟨gg, 0, none⟩) (pre.length + 1) cap2)) (.inr (hv2.not_row (by decide) HO.out).symm)
    have hkS : KeepS w.heap.size W (w2.setCell ⟨w.heap.size + 1, 0, none⟩ (.slice (some ⟨gg, 0, none⟩) (pre.length + 1) cap2)) := fun k hk hne => by
      have h1 : ((w2.setCell ⟨w.heap.size + 1, 0, none⟩ (.slice (some ⟨gg, 0, none⟩) (pre.length + 1) cap2))).heap[k]? = w2.heap[k]? := Below.heap_setCell w2 ⟨w.heap.size + 1, 0, none⟩ _ k hne
      have h2 := HG.out.block k (by simp; omega) (fun e => by have := (hrow.lt k e.symm).1; omega)
      rw [h1, h2]
      exact Below.heap_alloc W _ k (by omega)
    exact ⟨hk3.from _, hkS, ⟨_, hb3, by rw [flatE_snoc]; simpa using hown3, trivial⟩, hB.trans hw3⟩
  case done =>
    rintro D ys W hD hys ⟨⟨v, hv, hrow, _⟩, hB⟩ hK
    subst hys
    have hcv := hv.cell
    gi_wp2
    refine ⟨by simp, .inl ⟨_, _, rfl, run_takeDeferred hK, _, results_tmp rfl _ _ _, _, rfl, own_base (ownsRow_putObj hrow _ hK rfl) (Nat.le_add_right w.heap.size 4), (hB0.trans hB).trans (belowK_b (w := w) (Nat.le_refl _) W D _ _ (by omega) hK rfl rfl)⟩⟩
  case stop =>
    rintro D c pre W _ _ h _
    exact h.elim
end Go.Proofs.YtdjndnoiankicaaDoor
