/- PartNobody: the walk. No conditions. -/
import Derived.Test.YtaapejhoegeimaaPartd
namespace Go.Proofs.Ytaapejhoegeimaa
open Go.RowKit Go.Shelf
set_option linter.unusedSimpArgs false

/-- On the way: what came in lies in a block of its own. -/
structure Two (w W : World) (m z : Nat) (o : List Value) : Prop where
  b : Below w.heap.size w W
  mo : W.heap[m]? = some (.cells o.toArray 39 (0, 0))
  zo : W.heap[z]? = some (.cells zobj.toArray 39 (0, 0))
theorem Two.below {w W W' : World} {m z : Nat} {o : List Value} (h : Two w W m z o) (hb : Below W.heap.size W W') : Two w W' m z o := ⟨below_here h.b hb, block_below hb h.mo, block_below hb h.zo⟩
theorem row_none {W : World} {base : Nat} {e : TypeId} {size : Nat} {v : Value} {xs : List Value} (h : W.ownsRow base e size v 0 xs) : ∃ A c, v = .slice A 0 c := by
  rcases h.2 with ⟨rfl, _⟩ | ⟨g, cap, cur, rfl, _⟩
  · exact ⟨none, 0, rfl⟩
  · exact ⟨_, _, rfl⟩
set_option maxRecDepth 100000 in
set_option maxHeartbeats 4000000 in
theorem nobody_ok (a b k n : Value) (r : List Value) (hr : r.length = 13) (l : Int) (w : World) :
    Calls Try.prog 5 #[.agg (a :: b :: k :: n :: r).toArray, .int .i64 l] w fun e w' => e = .returned (.bool true) ∧ Below w.heap.size w w' := by
  obtain ⟨o, ho⟩ : ∃ o, o = a :: b :: k :: n :: r := ⟨_, rfl⟩
  have hi : (Try.prog.info? 39).map (·.size) = some o.length := by rw [ho]; simp only [List.length_cons, hr]; exact sizeObj
  rw [← ho]
  have HPut : Hid (∀ W : World, Calls Try.prog 15 #[.pointer none, .agg o.toArray] W fun e w' => e = .returned (.int .i64 2) ∧ Below W.heap.size W w') := Lib.hid (fun W => by
    rw [ho]; exact put_err (.pointer none) a b k n r 2 W rfl (fun W _ => at_nil a b k n W))
  have HSet : Hid (∀ W : World, Calls Try.prog 16 #[.pointer none, .agg o.toArray] W fun e w' => e = .returned (.int .i64 2) ∧ Below W.heap.size W w') := Lib.hid (fun W => by
    rw [ho]; exact set_err (.pointer none) a b k n r 2 W rfl (fun W _ => at_nil a b k n W))
  have HI := Lib.hid hi
  have HO := Lib.hid ho
  clear hi ho hr
  go_enter Try.func5, Try.ntmps5
  go_wp2_with (first
    | (go_at_call 19; refine (get_out (.pointer none) l _ (.inl rfl)).mono ?_; rintro e w1 ⟨rfl, hb1⟩; have hm1 := block_below hb1 (heap_alloc_new w _); have hB1 := below_here (below_new (Below.refl _ _) _) hb1)
    | (refine wpList_store_new rfl 39 (.tmp 6) (.tmp 12) rfl _ zobj.toArray ?x1 ?x2 sizeObj rfl (all_oneCell_toArray zobj_one) ?_; (case x1 => simp [Act.eval, Act.put]); (case x2 => simp [Act.eval, Act.put]); have hT2 : Two w (w1.alloc (.cells zobj.toArray 39)) w.heap.size w1.heap.size o := ⟨below_new hB1 _, block_below (below_new (Below.refl _ _) _) hm1, heap_alloc_new _ _⟩)
    | (have _h := hT2; refine wpList_load_mid rfl 39 (.tmp 2) rfl w.heap.size 0 rfl o _ (range_of_block hT2.mo 0 _ (fun j hj => by rw [Nat.zero_add])) Try.underlying39 rfl HI.out ?_)
    | (go_at_call 15; refine (HPut.out _).mono ?_; rintro e w3 ⟨rfl, hb3⟩; have hT3 := hT2.below hb3)
    | (have _h := hT3; refine wpList_load_wanted 39 (.tmp 2) rfl (by kernel_rfl) w.heap.size 0 rfl o _ (range_of_block hT3.mo 0 _ (fun j hj => by rw [Nat.zero_add])) Try.underlying39 rfl HI.out ?_)
    | (go_at_call 16; refine (HSet.out _).mono ?_; rintro e w4 ⟨rfl, hb4⟩; have hT4 := hT3.below hb4)
    | (go_at_call 18; refine (drop_nil _ _).mono ?_; rintro e w5 ⟨rfl, rfl⟩)
    | (have _h := hT4; refine wpList_load_wanted 39 (.tmp 6) rfl (by kernel_rfl) w1.heap.size 0 rfl zobj _ (range_of_block hT4.zo 0 _ (fun j hj => by rw [Nat.zero_add])) Try.underlying39 rfl sizeObj ?_)
    | (go_at_call 21; refine (ref25_same_zero _).mono ?_; rintro e w6 ⟨rfl, hb6⟩; have hT6 := hT4.below hb6)
    | (go_at_call 22; refine (len_ok (.pointer none) rfl [] (by decide) _ (.inl ⟨rfl, rfl⟩)).mono ?_; rintro e w7 ⟨rfl, hb7⟩; have hT7 := hT6.below hb7)
    | (go_at_call 24; refine (allOf_ok (.pointer none) rfl [] (by decide) _ (.inl ⟨rfl, rfl⟩)).mono ?_; rintro e w8 ⟨v, rfl, hrow, hb8⟩; have hT8 := hT7.below hb8; obtain ⟨A0, c0, rfl⟩ := row_none hrow; clear hrow)
    | (go_at_call 12; refine (birth_nil _).mono ?_; rintro e w9 ⟨rfl, hb9⟩; have hT9 := hT8.below hb9)
    | (go_at_call 10; refine (alive_ok _).mono ?_; rintro e w10 ⟨rfl, hb10⟩; have hT10 := hT9.below hb10))
  go_ret
  exact ⟨rfl, hT10.b⟩
end Go.Proofs.Ytaapejhoegeimaa
