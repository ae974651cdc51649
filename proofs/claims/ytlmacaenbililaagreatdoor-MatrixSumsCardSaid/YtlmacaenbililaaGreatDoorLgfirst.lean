/- The first object, the first policy, the first world. No conditions. -/
import Derived.Test.YtlmacaenbililaaGreatDoorKe
import Derived.Test.YtlmacaenbililaaGreatDoorKm
import Derived.Test.YtlmacaenbililaaGreatDoorIdent
import Derived.Test.YtlmacaenbililaaGreatDoorFree
namespace Go.Proofs.YtlmacaenbililaaGreatDoor
open Go.RowKit Go.Shelf
set_option linter.unusedSimpArgs false
set_option linter.unusedVariables false
attribute [local go_sem] cell_over frozen_over

theorem info_obj : (Tryz.prog.info? 114).map (·.size) = some 17 := by kernel_rfl
theorem obj_build (x : Idn.I) (l : Lab.L) (st : Int) (W : World) : (Instr.build 114 #[(0, idV x), (2, .int .i64 st), (1, labV l)]).run Tryz.prog W = .ok (.agg #[.int .u16 (x.1.1 : Int), .int .u16 (x.1.2 : Int), .int .i64 x.2.1, .int .i64 x.2.2, .int .u16 (l.1 : Int), .int .u16 (l.2 : Int), .int .i64 st, .bool false, .int .u16 0, .int .u16 0, .int .i64 0, .string ⟨#[]⟩, .bool false, .int .i64 0, .slice none 0 0, .slice none 0 0, .slice none 0 0]) W := by
  obtain ⟨⟨x1, x2⟩, x3, x4⟩ := x
  obtain ⟨l1, l2⟩ := l
  kernel_rfl
set_option maxRecDepth 100000 in
set_option maxHeartbeats 2000000 in
theorem thing_ok (x : Idn.I) (st : Int) (l : Lab.L) (w : World) : Calls Tryz.prog 200 #[idV x, .int .i64 st, labV l] w fun e w' => e = .returned (.agg #[.int .u16 (x.1.1 : Int), .int .u16 (x.1.2 : Int), .int .i64 x.2.1, .int .i64 x.2.2, .int .u16 (l.1 : Int), .int .u16 (l.2 : Int), .int .i64 st, .bool false, .int .u16 0, .int .u16 0, .int .i64 0, .string ⟨#[]⟩, .bool false, .int .i64 0, .slice none 0 0, .slice none 0 0, .slice none 0 0]) ∧ Below w.heap.size w w' := by
  have HI := Lib.hid (heap_alloc2_old' w (.cells #[.int .u16 (x.1.1 : Int), .int .u16 (x.1.2 : Int), .int .i64 x.2.1, .int .i64 x.2.2] 64) (.cells #[.int .u16 (l.1 : Int), .int .u16 (l.2 : Int)] 25) (.cells #[.int .u16 0, .int .u16 0, .int .i64 0, .int .i64 0, .int .u16 0, .int .u16 0, .int .i64 0, .bool false, .int .u16 0, .int .u16 0, .int .i64 0, .string ⟨#[]⟩, .bool false, .int .i64 0, .slice none 0 0, .slice none 0 0, .slice none 0 0] 114))
  have HR := Lib.hid (heap_alloc_new ((w.alloc (.cells #[.int .u16 (x.1.1 : Int), .int .u16 (x.1.2 : Int), .int .i64 x.2.1, .int .i64 x.2.2] 64)).alloc (.cells #[.int .u16 (l.1 : Int), .int .u16 (l.2 : Int)] 25)) (.cells #[.int .u16 0, .int .u16 0, .int .i64 0, .int .i64 0, .int .u16 0, .int .u16 0, .int .i64 0, .bool false, .int .u16 0, .int .u16 0, .int .i64 0, .string ⟨#[]⟩, .bool false, .int .i64 0, .slice none 0 0, .slice none 0 0, .slice none 0 0] 114))
  rw [World.size_alloc, World.size_alloc] at HR
  have HB := Lib.hid (below_new (below_new (below_fresh w (.cells #[.int .u16 (x.1.1 : Int), .int .u16 (x.1.2 : Int), .int .i64 x.2.1, .int .i64 x.2.2] 64)) (.cells #[.int .u16 (l.1 : Int), .int .u16 (l.2 : Int)] 25)) (.cells #[.int .u16 0, .int .u16 0, .int .i64 0, .int .i64 0, .int .u16 0, .int .u16 0, .int .i64 0, .bool false, .int .u16 0, .int .u16 0, .int .i64 0, .string ⟨#[]⟩, .bool false, .int .i64 0, .slice none 0 0, .slice none 0 0, .slice none 0 0] 114))
  have hbd := obj_build x l st
  go_enter Tryz.func200, Tryz.ntmps200
  go_wp2_with (first
    | (refine wpList_build rfl 114 _ rfl #[(0, idV x), (2, .int .i64 st), (1, labV l)] ?b1 (hbd _) ?_; (case b1 => simp [Act.eval, Act.put]))
    | (refine wpList_store_mid rfl 114 _ _ rfl (w.heap.size + 1 + 1) 0 #[.int .u16 (x.1.1 : Int), .int .u16 (x.1.2 : Int), .int .i64 x.2.1, .int .i64 x.2.2, .int .u16 (l.1 : Int), .int .u16 (l.2 : Int), .int .i64 st, .bool false, .int .u16 0, .int .u16 0, .int .i64 0, .string ⟨#[]⟩, .bool false, .int .i64 0, .slice none 0 0, .slice none 0 0, .slice none 0 0] rfl rfl (there_of_block HR.out 0 17 (by simp)) info_obj (by simp [Value.oneCell']) ?_))
  exact ret_cell rfl (w.heap.size + 1 + 1) 0 rfl [.int .u16 (x.1.1 : Int), .int .u16 (x.1.2 : Int), .int .i64 x.2.1, .int .i64 x.2.2, .int .u16 (l.1 : Int), .int .u16 (l.2 : Int), .int .i64 st, .bool false, .int .u16 0, .int .u16 0, .int .i64 0, .string ⟨#[]⟩, .bool false, .int .i64 0, .slice none 0 0, .slice none 0 0, .slice none 0 0] _ (range_of_block (heap_setCells_same _ _ [.int .u16 (x.1.1 : Int), .int .u16 (x.1.2 : Int), .int .i64 x.2.1, .int .i64 x.2.2, .int .u16 (l.1 : Int), .int .u16 (l.2 : Int), .int .i64 st, .bool false, .int .u16 0, .int .u16 0, .int .i64 0, .string ⟨#[]⟩, .bool false, .int .i64 0, .slice none 0 0, .slice none 0 0, .slice none 0 0] 0 _ [.int .u16 0, .int .u16 0, .int .i64 0, .int .i64 0, .int .u16 0, .int .u16 0, .int .i64 0, .bool false, .int .u16 0, .int .u16 0, .int .i64 0, .string ⟨#[]⟩, .bool false, .int .i64 0, .slice none 0 0, .slice none 0 0, .slice none 0 0] HR.out (by simp)) 0 _ (fun j _ => by rw [Nat.zero_add]; rfl)) Tryz.underlying114 rfl info_obj rfl ⟨rfl, below_setCells HB.out (by omega) _ _⟩
set_option maxRecDepth 100000 in
set_option maxHeartbeats 2000000 in
theorem process_ok (x : Idn.I) (st role : Int) (l : Lab.L) (held : ByteArray) (w : World) : Calls Tryz.prog 147 #[idV x, .int .i64 st, .int .i64 role, labV l, .string held] w fun e w' => e = .returned (.agg #[.int .u16 (x.1.1 : Int), .int .u16 (x.1.2 : Int), .int .i64 x.2.1, .int .i64 x.2.2, .int .u16 (l.1 : Int), .int .u16 (l.2 : Int), .int .i64 st, .bool false, .int .u16 0, .int .u16 0, .int .i64 role, .string held, .bool false, .int .i64 0, .slice none 0 0, .slice none 0 0, .slice none 0 0]) ∧ Below w.heap.size w w' := by
  have HR := Lib.hid (heap_alloc_new ((w.alloc (.cells #[.int .u16 (x.1.1 : Int), .int .u16 (x.1.2 : Int), .int .i64 x.2.1, .int .i64 x.2.2] 64)).alloc (.cells #[.int .u16 (l.1 : Int), .int .u16 (l.2 : Int)] 25)) (.cells #[.int .u16 0, .int .u16 0, .int .i64 0, .int .i64 0, .int .u16 0, .int .u16 0, .int .i64 0, .bool false, .int .u16 0, .int .u16 0, .int .i64 0, .string ⟨#[]⟩, .bool false, .int .i64 0, .slice none 0 0, .slice none 0 0, .slice none 0 0] 114))
  rw [World.size_alloc, World.size_alloc] at HR
  have HB := Lib.hid (below_new (below_new (below_fresh w (.cells #[.int .u16 (x.1.1 : Int), .int .u16 (x.1.2 : Int), .int .i64 x.2.1, .int .i64 x.2.2] 64)) (.cells #[.int .u16 (l.1 : Int), .int .u16 (l.2 : Int)] 25)) (.cells #[.int .u16 0, .int .u16 0, .int .i64 0, .int .i64 0, .int .u16 0, .int .u16 0, .int .i64 0, .bool false, .int .u16 0, .int .u16 0, .int .i64 0, .string ⟨#[]⟩, .bool false, .int .i64 0, .slice none 0 0, .slice none 0 0, .slice none 0 0] 114))
  have HT := Lib.hid (fun w => thing_ok x st l w)
  go_enter Tryz.func147, Tryz.ntmps147
  go_wp2_with fail
  refine (HT.out _).mono ?_
  rintro e w1 ⟨rfl, hb1⟩
  have HX2 := Lib.hid (heap_alloc_new w1 (.cells #[.int .u16 (x.1.1 : Int), .int .u16 (x.1.2 : Int), .int .i64 x.2.1, .int .i64 x.2.2, .int .u16 (l.1 : Int), .int .u16 (l.2 : Int), .int .i64 st, .bool false, .int .u16 0, .int .u16 0, .int .i64 role, .string held, .bool false, .int .i64 0, .slice none 0 0, .slice none 0 0, .slice none 0 0] 114))
  have HR2 := Lib.hid (block_below (below_fresh w1 (.cells #[.int .u16 (x.1.1 : Int), .int .u16 (x.1.2 : Int), .int .i64 x.2.1, .int .i64 x.2.2, .int .u16 (l.1 : Int), .int .u16 (l.2 : Int), .int .i64 st, .bool false, .int .u16 0, .int .u16 0, .int .i64 role, .string held, .bool false, .int .i64 0, .slice none 0 0, .slice none 0 0, .slice none 0 0] 114)) (block_below hb1 HR.out))
  have HB2 := Lib.hid (below_new (below_here HB.out hb1) (.cells #[.int .u16 (x.1.1 : Int), .int .u16 (x.1.2 : Int), .int .i64 x.2.1, .int .i64 x.2.2, .int .u16 (l.1 : Int), .int .u16 (l.2 : Int), .int .i64 st, .bool false, .int .u16 0, .int .u16 0, .int .i64 role, .string held, .bool false, .int .i64 0, .slice none 0 0, .slice none 0 0, .slice none 0 0] 114))
  clear hb1
  go_wp2_with (first
    | (refine wpList_store_new rfl 114 (.tmp 11) (.tmp 15) rfl _ #[.int .u16 (x.1.1 : Int), .int .u16 (x.1.2 : Int), .int .i64 x.2.1, .int .i64 x.2.2, .int .u16 (l.1 : Int), .int .u16 (l.2 : Int), .int .i64 st, .bool false, .int .u16 0, .int .u16 0, .int .i64 0, .string ⟨#[]⟩, .bool false, .int .i64 0, .slice none 0 0, .slice none 0 0, .slice none 0 0] rfl rfl info_obj rfl (by simp [Value.oneCell']) ?_)
    | (refine wpList_load_mid rfl 114 (.tmp 11) rfl w1.heap.size 0 rfl [.int .u16 (x.1.1 : Int), .int .u16 (x.1.2 : Int), .int .i64 x.2.1, .int .i64 x.2.2, .int .u16 (l.1 : Int), .int .u16 (l.2 : Int), .int .i64 st, .bool false, .int .u16 0, .int .u16 0, .int .i64 role, .string held, .bool false, .int .i64 0, .slice none 0 0, .slice none 0 0, .slice none 0 0] _ (range_of_block HX2.out 0 _ (fun j _ => by rw [Nat.zero_add])) Tryz.underlying114 rfl info_obj ?_)
    | (refine wpList_store_mid rfl 114 _ _ rfl (w.heap.size + 1 + 1) 0 #[.int .u16 (x.1.1 : Int), .int .u16 (x.1.2 : Int), .int .i64 x.2.1, .int .i64 x.2.2, .int .u16 (l.1 : Int), .int .u16 (l.2 : Int), .int .i64 st, .bool false, .int .u16 0, .int .u16 0, .int .i64 role, .string held, .bool false, .int .i64 0, .slice none 0 0, .slice none 0 0, .slice none 0 0] rfl rfl (there_of_block HR2.out 0 17 (by simp)) info_obj (by simp [Value.oneCell']) ?_))
  exact ret_cell rfl (w.heap.size + 1 + 1) 0 rfl [.int .u16 (x.1.1 : Int), .int .u16 (x.1.2 : Int), .int .i64 x.2.1, .int .i64 x.2.2, .int .u16 (l.1 : Int), .int .u16 (l.2 : Int), .int .i64 st, .bool false, .int .u16 0, .int .u16 0, .int .i64 role, .string held, .bool false, .int .i64 0, .slice none 0 0, .slice none 0 0, .slice none 0 0] _ (range_of_block (heap_setCells_same _ _ [.int .u16 (x.1.1 : Int), .int .u16 (x.1.2 : Int), .int .i64 x.2.1, .int .i64 x.2.2, .int .u16 (l.1 : Int), .int .u16 (l.2 : Int), .int .i64 st, .bool false, .int .u16 0, .int .u16 0, .int .i64 role, .string held, .bool false, .int .i64 0, .slice none 0 0, .slice none 0 0, .slice none 0 0] 0 _ [.int .u16 0, .int .u16 0, .int .i64 0, .int .i64 0, .int .u16 0, .int .u16 0, .int .i64 0, .bool false, .int .u16 0, .int .u16 0, .int .i64 0, .string ⟨#[]⟩, .bool false, .int .i64 0, .slice none 0 0, .slice none 0 0, .slice none 0 0] HR2.out (by simp)) 0 _ (fun j _ => by rw [Nat.zero_add]; rfl)) Tryz.underlying114 rfl info_obj rfl ⟨rfl, below_setCells HB2.out (by omega) _ _⟩
def polz : List Value := .int .u16 0 :: (List.replicate 32 (.int .u16 0) ++ (List.replicate 16 (.int .u16 0) ++ (List.replicate 16 (.int .u8 0) ++ [.int .u16 0])))
def pol0 : List Value := .int .u16 1 :: (List.replicate 32 (.int .u16 0) ++ (List.replicate 16 (.int .u16 0) ++ (List.replicate 16 (.int .u8 0) ++ [.int .u16 65535])))
/-- The first policy's cells. -/
def pol1 : List Value := .int .u16 1 :: .int .u16 0 :: .int .u16 65535 :: (List.replicate 30 (.int .u16 0) ++ (List.replicate 16 (.int .u16 0) ++ (List.replicate 16 (.int .u8 0) ++ [.int .u16 65535])))
theorem info_pol : (Tryz.prog.info? 30).map (·.size) = some 66 := by kernel_rfl
theorem pol_build (W : World) : (Instr.build 30 #[(0, .int .u16 1), (4, .int .u16 65535)]).run Tryz.prog W = .ok (.agg pol0.toArray) W := by kernel_rfl
theorem pol0_size : pol0.toArray.size = 66 := by kernel_rfl
theorem pol1_size : pol1.toArray.size = 66 := by kernel_rfl
theorem pol1_len : pol1.length = 66 := by kernel_rfl
theorem polz_len : polz.length = 66 := by kernel_rfl
theorem pol0_one : pol0.toArray.all (·.oneCell') = true := by decide +kernel
theorem pol1_one : pol1.toArray.all (·.oneCell') = true := by decide +kernel
theorem pol_splice : splice pol0 1 [.int .u16 0, .int .u16 65535] = pol1 := by rfl
theorem polz_is : Tryz.zeroCells30 = polz.toArray := by kernel_rfl
theorem polz_splice : splice polz 0 pol1 = pol1 := by rfl
set_option maxRecDepth 100000 in
set_option maxHeartbeats 4000000 in
theorem pfirst_ok (w : World) : Calls Tryz.prog 122 #[] w fun e w' => e = .returned (.agg pol1.toArray) ∧ Below w.heap.size w w' := by
  have HR := Lib.hid (heap_alloc_new w (.cells Tryz.zeroCells30 30))
  have HB := Lib.hid (below_fresh w (.cells Tryz.zeroCells30 30))
  have HX := Lib.hid (heap_alloc_new (w.alloc (.cells Tryz.zeroCells30 30)) (.cells pol0.toArray 30))
  rw [World.size_alloc] at HX
  have HR1 := Lib.hid (block_below (below_fresh (w.alloc (.cells Tryz.zeroCells30 30)) (.cells pol0.toArray 30)) HR.out)
  have HB1 := Lib.hid (below_new HB.out (.cells pol0.toArray 30))
  go_enter Tryz.func122, Tryz.ntmps122
  go_wp2_with (first
    | (refine wpList_build rfl 30 _ rfl #[(0, .int .u16 1), (4, .int .u16 65535)] ?b1 (pol_build _) ?_; (case b1 => simp [Act.eval, Act.put]))
    | (refine wpList_store_new rfl 30 (.tmp 1) (.tmp 2) rfl _ pol0.toArray ?x1 ?x2 ?x4 ?x3 pol0_one ?_; (case x1 => first | rfl | (rw [World.size_alloc]; rfl)); (case x2 => rfl); (case x3 => kernel_rfl); (case x4 => rw [pol0_size]; exact info_pol)))
  refine (bottom_ok _).mono ?_
  rintro e w2 ⟨rfl, hb2⟩
  have HX2 := Lib.hid (block_below hb2 HX.out)
  have HR2 := Lib.hid (block_below hb2 HR1.out)
  have HB2 := Lib.hid (below_here HB1.out hb2)
  have hX3 := heap_setCells_same (w.heap.size + 1) 30 [.int .u16 0, .int .u16 65535] 1 w2 pol0 HX2.out (by show 1 + 2 ≤ pol0.toArray.size; rw [pol0_size]; omega)
  rw [pol_splice] at hX3
  have HX3 := Lib.hid hX3
  have HR3 := Lib.hid ((heap_setCells_other (w.heap.size + 1) [.int .u16 0, .int .u16 65535] 1 w2 w.heap.size (by omega)).trans HR2.out)
  have HB3 := Lib.hid (below_setCells HB2.out (g := w.heap.size + 1) (by omega) 1 [.int .u16 0, .int .u16 65535])
  clear hb2 hX3
  go_wp2_with (first
    | (refine wpList_store_mid rfl 25 _ _ rfl (w.heap.size + 1) 1 #[.int .u16 0, .int .u16 65535] rfl rfl (there_of_block HX2.out 1 2 (by rw [pol0_size]; omega)) info_lab (by simp [Value.oneCell']) ?_)
    | (refine wpList_load_mid rfl 30 (.tmp 1) rfl (w.heap.size + 1) 0 rfl pol1 _ (range_of_block HX3.out 0 _ (fun j _ => by rw [Nat.zero_add])) Tryz.underlying30 rfl (by rw [pol1_len]; exact info_pol) ?_)
    | (refine wpList_store_mid rfl 30 _ _ rfl w.heap.size 0 pol1.toArray rfl rfl (by rw [pol1_size]; exact there_of_block HR3.out 0 66 (by rw [polz_is]; show 0 + 66 ≤ polz.length; rw [polz_len]; omega)) (by rw [pol1_size]; exact info_pol) pol1_one ?_))
  have hE := heap_setCells_same w.heap.size 30 pol1 0 _ polz (by rw [← polz_is]; exact HR3.out) (by rw [polz_len, pol1_len]; omega)
  rw [polz_splice] at hE
  exact ret_cell rfl w.heap.size 0 rfl pol1 _ (range_of_block hE 0 _ (fun j _ => by rw [Nat.zero_add])) Tryz.underlying30 rfl (by rw [pol1_len]; exact info_pol) rfl ⟨rfl, below_setCells HB3.out (Nat.le_refl _) _ _⟩
/-- A world's cells. -/
def worldC (s t : Value) : List Value := .int .i64 0 :: s :: (polz ++ (mapC (List.range 16) ++ (mapC (List.range 16) ++ [.int .i64 0, .int .i64 0, t])))
def worldZ : List Value := .int .i64 0 :: .slice none 0 0 :: (polz ++ (mapC (List.replicate 16 0) ++ (mapC (List.replicate 16 0) ++ [.int .i64 0, .int .i64 0, .slice none 0 0])))
theorem info_world : (Tryz.prog.info? 36).map (·.size) = some 103 := by kernel_rfl
theorem world_build (b c : Nat) (W : World) : (Instr.build 36 #[(1, .slice (some ⟨b, 0, none⟩) 1 1), (3, mapV (List.range 16)), (4, mapV (List.range 16)), (6, .slice (some ⟨c, 0, none⟩) 1 1)]).run Tryz.prog W = .ok (.agg (worldC (.slice (some ⟨b, 0, none⟩) 1 1) (.slice (some ⟨c, 0, none⟩) 1 1)).toArray) W := by kernel_rfl
def rootC : List Value := [.int .u16 0, .int .u16 65535, .int .i64 1, .int .i64 0, .int .u16 0, .int .u16 65535, .int .i64 0, .bool false, .int .u16 0, .int .u16 0, .int .i64 0, .string ⟨#[]⟩, .bool false, .int .i64 0, .slice none 0 0, .slice none 0 0, .slice none 0 0]
theorem process_root (w : World) : Calls Tryz.prog 147 #[idV (Idn.mk Lab.bot 0), .int .i64 0, .int .i64 0, labV Lab.bot, .string ⟨#[]⟩] w fun e w' => e = .returned (.agg rootC.toArray) ∧ Below w.heap.size w w' := process_ok (Idn.mk Lab.bot 0) 0 0 Lab.bot ⟨#[]⟩ w
theorem root_one : rootC.toArray.all (·.oneCell') = true := by decide +kernel
def Fact.pols : Fact := ⟨fun v _ => ∃ b, v = .slice (some ⟨b, 0, none⟩) 1 1, fun _ _ _ h _ => h⟩
def Fact.objs : Fact := ⟨fun v w => ∃ b, v = .slice (some ⟨b, 0, none⟩) 1 1 ∧ w.heap[b]? = some (.cells rootC.toArray 114 (0, 0)), fun _ _ _ ⟨b, h1, h2⟩ hb => ⟨b, h1, block_below hb h2⟩⟩
def Fact.wld : Fact := ⟨fun v w => ∃ b c, v = .agg (worldC (.slice (some ⟨b, 0, none⟩) 1 1) (.slice (some ⟨c, 0, none⟩) 1 1)).toArray ∧ w.heap[c]? = some (.cells rootC.toArray 114 (0, 0)), fun _ _ _ ⟨b, c, h1, h2⟩ hb => ⟨b, c, h1, block_below hb h2⟩⟩
def Fact.objbox (N : Nat) : Fact := ⟨fun v w => ∃ b, v = .pointer (some ⟨b, 0, none⟩) ∧ w.heap[b]? = some (.cells #[.int .u16 0, .int .u16 0, .int .i64 0, .int .i64 0, .int .u16 0, .int .u16 0, .int .i64 0, .bool false, .int .u16 0, .int .u16 0, .int .i64 0, .string ⟨#[]⟩, .bool false, .int .i64 0, .slice none 0 0, .slice none 0 0, .slice none 0 0] 114 (0, 0)) ∧ N ≤ b, fun _ _ _ ⟨b, h1, h2, h3⟩ hb => ⟨b, h1, block_below hb h2, h3⟩⟩
theorem worldC_size (s t : Value) : (worldC s t).toArray.size = 103 := by rfl
theorem worldC_len (s t : Value) : (worldC s t).length = 103 := by rfl
theorem worldZ_len : worldZ.length = 103 := by kernel_rfl
theorem splice_all {C vs : List Value} (h : vs.length = C.length) : splice C 0 vs = vs := by
  unfold splice
  rw [List.take_zero, List.nil_append, List.drop_of_length_le (by omega), List.append_nil]
theorem worldZ_is : Tryz.zeroCells36 = worldZ.toArray := by kernel_rfl
theorem world_one (b c : Nat) : (worldC (.slice (some ⟨b, 0, none⟩) 1 1) (.slice (some ⟨c, 0, none⟩) 1 1)).toArray.all (·.oneCell') = true := by kernel_rfl
theorem slice_pol (W : World) : (Instr.buildSlice 22 1 #[(0, .agg pol1.toArray)]).run Tryz.prog W = .ok (.slice (some ⟨W.heap.size, 0, none⟩) 1 1) (W.alloc (.cells pol1.toArray 30)) := by kernel_rfl
theorem slice_obj (W : World) : (Instr.buildSlice 34 1 #[(0, .agg rootC.toArray)]).run Tryz.prog W = .ok (.slice (some ⟨W.heap.size, 0, none⟩) 1 1) (W.alloc (.cells rootC.toArray 114)) := by kernel_rfl
theorem exec_build {P : Program} {a : Act} {o : Oper} (t : TypeId) (parts : Array (Nat × Operand)) (ho : o.op = .build t parts) (vals : Array (Nat × Value)) (hv : (parts.map fun (i, x) => (i, a.eval x)) = vals) {v : Value} {W : World} (h : (Instr.build t vals).run P W = .ok v W) : (execOp a.eval o).run P W = .ok (.value v) W := by
  unfold execOp; simp only [ho]; rw [hv, Sem.run_bind, h]; simp only [Result.andThen_ok, Sem.run_pure]
theorem exec_load {P : Program} {a : Act} {o : Oper} (ty : TypeId) (x : Operand) (ho : o.op = .load ty x) (b off : Nat) (hx : a.eval x = .pointer (some ⟨b, off, none⟩)) (cs : List Value) (d : TypeDesc) {W : World} (hc : W.rangeAt b off cs) (hu : P.underlying ty = some d) (hd : d.isRow = true) (hi : (P.info? ty).map (·.size) = some cs.length) : (execOp a.eval o).run P W = .ok (.value (.agg cs.toArray)) W := by
  unfold execOp
  simp only [ho, hx, Instr.loadAt, Instr.sureAddr, Sem.run_bind, Sem.run_pure, Result.andThen_ok, run_loadVar_mid W b off ty cs d hc hu hd hi]
set_option maxRecDepth 100000 in
set_option maxHeartbeats 2000000 in
theorem wfirst_ok (w : World) : Calls Tryz.prog 68 #[] w fun e w' => (∃ b c, e = .returned (.agg (worldC (.slice (some ⟨b, 0, none⟩) 1 1) (.slice (some ⟨c, 0, none⟩) 1 1)).toArray) ∧ w'.heap[c]? = some (.cells rootC.toArray 114 (0, 0))) ∧ Below w.heap.size w w' := by
  have HR := Lib.hid (heap_alloc_new w (.cells Tryz.zeroCells36 36))
  have HB := Lib.hid (below_fresh w (.cells Tryz.zeroCells36 36))
  go_enter Tryz.func68, Tryz.ntmps68
  go_wp2_with fail
  refine (bottom_ok _).mono ?_
  rintro e w1 ⟨rfl, hb1⟩
  go_wp2_with fail
  have HR1 := Lib.hid (block_below (below_fresh w1 (.cells #[.int .u16 (Lab.bot.1 : Int), .int .u16 (Lab.bot.2 : Int)] 25)) (block_below hb1 HR.out))
  have HB1 := Lib.hid (below_new (below_here HB.out hb1) (.cells #[.int .u16 (Lab.bot.1 : Int), .int .u16 (Lab.bot.2 : Int)] 25))
  have hl1 := heap_alloc_new w1 (.cells #[.int .u16 (Lab.bot.1 : Int), .int .u16 (Lab.bot.2 : Int)] 25)
  generalize w1.alloc (.cells #[.int .u16 (Lab.bot.1 : Int), .int .u16 (Lab.bot.2 : Int)] 25) = w9 at HR1 HB1 hl1 ⊢
  generalize w1.heap.size = L at hl1 ⊢
  obtain ⟨l0, l1, _, _⟩ := pair_cells hl1
  have hll := World.block_lt_of_cell? w9 _ l0
  clear hb1 hl1
  refine wp_region_freeA 5 [some 4, some 5, some 6, some 7, some 2] (fun W => ∃ X, W = over w9 X) [Fact.is (labV Lab.bot), Fact.is (idV (Idn.mk Lab.bot 0)), Fact.is (labV Lab.bot), Fact.is (.agg rootC.toArray), Fact.objbox w9.heap.size] [] (by kernel_rfl) (by kernel_rfl) ?same (over_of (Below.refl _ _).drew) ?steps ?fin
  case same => kernel_rfl
  case steps =>
    simp only [List.take_succ_cons, List.take_zero, stepsI]
    refine ⟨⟨fun v u => by kernel_rfl, ?s0⟩, ⟨fun v u => by kernel_rfl, ?s1⟩, ⟨fun v u => by kernel_rfl, ?s2⟩, ⟨fun v u => by kernel_rfl, ?s3⟩, ⟨fun v u => by kernel_rfl, ?s4⟩, trivial⟩
    case s0 =>
      intro v W hW hp
      obtain ⟨X, rfl⟩ := hW
      clear hp
      simp only [mkA, setAll, List.setIfInBounds_toArray, List.set_cons_succ, List.set_cons_zero]
      refine .inl ⟨rfl, ?_⟩
      go_simp
      first | exact ⟨⟨X, rfl⟩, Below.refl _ _, rfl⟩ | exact ⟨⟨X, rfl⟩, Below.refl _ _, rfl, fun h => by cases h⟩
    case s1 =>
      intro v W hW hp
      obtain ⟨X, rfl⟩ := hW
      have g0 : v 0 = labV Lab.bot := hp ⟨0, .data⟩ (by simp) rfl
      clear hp
      simp only [mkA, setAll, List.setIfInBounds_toArray, List.set_cons_succ, List.set_cons_zero]
      refine .inl ⟨rfl, ?_⟩
      go_simp
      refine (mk_ok Lab.bot 0 _).mono ?_
      rintro e W2 ⟨rfl, hb2⟩
      first | exact ⟨_, rfl, over_of (below_here (over_below _ _) hb2), hb2, rfl⟩ | exact ⟨_, rfl, over_of (below_here (over_below _ _) hb2), hb2, rfl, fun h => by cases h⟩
    case s2 =>
      intro v W hW hp
      obtain ⟨X, rfl⟩ := hW
      clear hp
      simp only [mkA, setAll, List.setIfInBounds_toArray, List.set_cons_succ, List.set_cons_zero]
      refine .inl ⟨rfl, ?_⟩
      go_simp
      first | exact ⟨⟨X, rfl⟩, Below.refl _ _, rfl⟩ | exact ⟨⟨X, rfl⟩, Below.refl _ _, rfl, fun h => by cases h⟩
    case s3 =>
      intro v W hW hp
      obtain ⟨X, rfl⟩ := hW
      have g1 : v 1 = idV (Idn.mk Lab.bot 0) := hp ⟨1, .data⟩ (by simp) rfl
      have g2 : v 2 = labV Lab.bot := hp ⟨2, .data⟩ (by simp) rfl
      clear hp
      simp only [mkA, setAll, List.setIfInBounds_toArray, List.set_cons_succ, List.set_cons_zero]
      refine .inl ⟨rfl, ?_⟩
      go_simp
      refine (process_root _).mono ?_
      rintro e W2 ⟨rfl, hb2⟩
      first | exact ⟨_, rfl, over_of (below_here (over_below _ _) hb2), hb2, rfl⟩ | exact ⟨_, rfl, over_of (below_here (over_below _ _) hb2), hb2, rfl, fun h => by cases h⟩
    case s4 =>
      intro v W hW hp
      obtain ⟨X, rfl⟩ := hW
      clear hp
      simp only [mkA, setAll, List.setIfInBounds_toArray, List.set_cons_succ, List.set_cons_zero]
      refine .inl ⟨rfl, ?_⟩
      go_simp
      first | exact ⟨over_of (below_new (over_below _ _) _), below_fresh _ _, ⟨_, rfl, heap_alloc_new _ _, (over_below w9 X).size⟩⟩ | exact ⟨over_of (below_new (over_below _ _) _), below_fresh _ _, ⟨_, rfl, heap_alloc_new _ _, (over_below w9 X).size⟩, fun h => by cases h⟩
  case fin =>
    intro v W hW hR hD
    have hb9 := below_of_over hW
    have g3 : v 3 = .agg rootC.toArray := hR 3 (by omega)
    obtain ⟨B, g4, z4, n4⟩ := hR 4 (by omega)
    simp only [List.drop_succ_cons, List.drop_zero, mkA, setAll, List.setIfInBounds_toArray, List.set_cons_succ, List.set_cons_zero, g3, g4]
    generalize v 0 = u0
    generalize v 1 = u1
    generalize v 2 = u2
    have HR2 := Lib.hid ((heap_setCells_other B rootC 0 W w.heap.size (by have h := (Array.getElem?_eq_some_iff.1 HR1.out).1; omega)).trans (block_below hb9 HR1.out))
    have HB2 := Lib.hid (below_setCells (below_here HB1.out hb9) (show w.heap.size ≤ B by have h := (Array.getElem?_eq_some_iff.1 HR1.out).1; omega) 0 rootC)
    have hX2 := heap_setCells_same B 114 rootC 0 W [.int .u16 0, .int .u16 0, .int .i64 0, .int .i64 0, .int .u16 0, .int .u16 0, .int .i64 0, .bool false, .int .u16 0, .int .u16 0, .int .i64 0, .string ⟨#[]⟩, .bool false, .int .i64 0, .slice none 0 0, .slice none 0 0, .slice none 0 0] z4 (by simp [rootC])
    have HXR := Lib.hid (show (W.setCells B 0 rootC).rangeAt B 0 rootC from range_of_block hX2 0 _ (fun j _ => by rw [Nat.zero_add]; rfl))
    have hth := there_of_block z4 0 17 (by simp)
    go_wp2_with (refine wpList_store_mid rfl 114 _ _ rfl B 0 rootC.toArray rfl rfl hth info_obj root_one ?_)
    clear hX2 hth z4 n4 hb9 hR hD hW l0 l1 hll HR1 HB1
    try simp only [List.toList_toArray, Act.put]
    generalize W.setCells B 0 rootC = w8 at HR2 HB2 HXR ⊢
    refine wp_region_freeA 7 [some 8, some 9, some 10, some 11, some 12, some 13, some 14] (fun W => ∃ X, W = over w8 X) [Fact.is (.agg pol1.toArray), Fact.pols, Fact.is (mapV (List.range 16)), Fact.is (mapV (List.range 16)), Fact.is (.agg rootC.toArray), Fact.objs, Fact.wld] [] (by kernel_rfl) (by kernel_rfl) ?same3 (over_of (Below.refl _ _).drew) ?steps3 ?fin3
    case same3 => kernel_rfl
    case steps3 =>
      simp only [List.take_succ_cons, List.take_zero, stepsI]
      refine ⟨⟨fun v u => by kernel_rfl, ?s0⟩, ⟨fun v u => by kernel_rfl, ?s1⟩, ⟨fun v u => by kernel_rfl, ?s2⟩, ⟨fun v u => by kernel_rfl, ?s3⟩, ⟨fun v u => by kernel_rfl, ?s4⟩, ⟨fun v u => by kernel_rfl, ?s5⟩, ⟨fun v u => by kernel_rfl, ?s6⟩, trivial⟩
      case s0 =>
        intro v W hW hp
        obtain ⟨X, rfl⟩ := hW
        clear hp
        simp only [mkA, setAll, List.setIfInBounds_toArray, List.set_cons_succ, List.set_cons_zero]
        refine .inl ⟨rfl, ?_⟩
        go_simp
        refine (pfirst_ok _).mono ?_
        rintro e W2 ⟨rfl, hb2⟩
        first | exact ⟨_, rfl, over_of (below_here (over_below _ _) hb2), hb2, rfl⟩ | exact ⟨_, rfl, over_of (below_here (over_below _ _) hb2), hb2, rfl, fun h => by cases h⟩
      case s1 =>
        intro v W hW hp
        obtain ⟨X, rfl⟩ := hW
        have g0 : v 0 = .agg pol1.toArray := hp ⟨0, .data⟩ (by simp) rfl
        clear hp
        simp only [mkA, setAll, List.setIfInBounds_toArray, List.set_cons_succ, List.set_cons_zero]
        refine .inl ⟨rfl, ?_⟩
        have hx : ∀ W, (Instr.buildSlice 22 1 #[(0, .agg pol1.toArray)]).run Tryz.prog W = .ok (.slice (some ⟨W.heap.size, 0, none⟩) 1 1) (W.alloc (.cells pol1.toArray 30)) := slice_pol
        go_simp
        first | exact ⟨over_of (below_new (over_below _ _) _), below_fresh _ _, ⟨_, rfl⟩⟩ | exact ⟨over_of (below_new (over_below _ _) _), below_fresh _ _, ⟨_, rfl⟩, fun h => by cases h⟩
      case s2 =>
        intro v W hW hp
        obtain ⟨X, rfl⟩ := hW
        clear hp
        simp only [mkA, setAll, List.setIfInBounds_toArray, List.set_cons_succ, List.set_cons_zero]
        refine .inl ⟨rfl, ?_⟩
        go_simp
        refine (same4_ok _).mono ?_
        rintro e W2 ⟨rfl, hb2⟩
        first | exact ⟨_, rfl, over_of (below_here (over_below _ _) hb2), hb2, rfl⟩ | exact ⟨_, rfl, over_of (below_here (over_below _ _) hb2), hb2, rfl, fun h => by cases h⟩
      case s3 =>
        intro v W hW hp
        obtain ⟨X, rfl⟩ := hW
        clear hp
        simp only [mkA, setAll, List.setIfInBounds_toArray, List.set_cons_succ, List.set_cons_zero]
        refine .inl ⟨rfl, ?_⟩
        go_simp
        refine (same4_ok _).mono ?_
        rintro e W2 ⟨rfl, hb2⟩
        first | exact ⟨_, rfl, over_of (below_here (over_below _ _) hb2), hb2, rfl⟩ | exact ⟨_, rfl, over_of (below_here (over_below _ _) hb2), hb2, rfl, fun h => by cases h⟩
      case s4 =>
        intro v W hW hp
        obtain ⟨X, rfl⟩ := hW
        clear hp
        simp only [mkA, setAll, List.setIfInBounds_toArray, List.set_cons_succ, List.set_cons_zero]
        refine .inl ⟨rfl, ?_⟩
        rw [exec_load 114 (.tmp 2) rfl B 0 rfl rootC _ (rangeAt_over HXR.out) Tryz.underlying114 rfl info_obj]
        first | exact ⟨⟨X, rfl⟩, Below.refl _ _, rfl⟩ | exact ⟨⟨X, rfl⟩, Below.refl _ _, rfl, fun h => by cases h⟩
      case s5 =>
        intro v W hW hp
        obtain ⟨X, rfl⟩ := hW
        have g4 : v 4 = .agg rootC.toArray := hp ⟨4, .data⟩ (by simp) rfl
        clear hp
        simp only [mkA, setAll, List.setIfInBounds_toArray, List.set_cons_succ, List.set_cons_zero]
        refine .inl ⟨rfl, ?_⟩
        have hx := slice_obj
        go_simp
        first | exact ⟨over_of (below_new (over_below _ _) _), below_fresh _ _, ⟨_, rfl, heap_alloc_new _ _⟩⟩ | exact ⟨over_of (below_new (over_below _ _) _), below_fresh _ _, ⟨_, rfl, heap_alloc_new _ _⟩, fun h => by cases h⟩
      case s6 =>
        intro v W hW hp
        obtain ⟨X, rfl⟩ := hW
        obtain ⟨b1, g1⟩ := hp ⟨1, .data⟩ (by simp) rfl
        have g2 : v 2 = mapV (List.range 16) := hp ⟨2, .data⟩ (by simp) rfl
        have g3 : v 3 = mapV (List.range 16) := hp ⟨3, .data⟩ (by simp) rfl
        obtain ⟨b5, g5, r5⟩ := hp ⟨5, .data⟩ (by simp) rfl
        clear hp
        simp only [mkA, setAll, List.setIfInBounds_toArray, List.set_cons_succ, List.set_cons_zero]
        refine .inl ⟨rfl, ?_⟩
        rw [exec_build 36 _ rfl #[(1, .slice (some ⟨b1, 0, none⟩) 1 1), (3, mapV (List.range 16)), (4, mapV (List.range 16)), (6, .slice (some ⟨b5, 0, none⟩) 1 1)] (by simp [Act.eval, g1, g2, g3, g5]) (world_build b1 b5 _)]
        first | exact ⟨⟨X, rfl⟩, Below.refl _ _, ⟨b1, b5, rfl, r5⟩⟩ | exact ⟨⟨X, rfl⟩, Below.refl _ _, ⟨b1, b5, rfl, r5⟩, fun h => by cases h⟩
    case fin3 =>
      intro v W hW hR hD
      have hb8 := below_of_over hW
      obtain ⟨b1, b5, g6, r6⟩ := hR 6 (by omega)
      simp only [List.drop_succ_cons, List.drop_zero, mkA, setAll, List.setIfInBounds_toArray, List.set_cons_succ, List.set_cons_zero, g6]
      have HR3 := Lib.hid (block_below hb8 HR2.out)
      have HB3 := Lib.hid (below_here HB2.out hb8)
      have hne : b5 ≠ w.heap.size := fun h => by
        have h1 := r6
        rw [h, HR3.out] at h1
        injection h1 with h2
        injection h2 with h3 h4
        exact absurd h4 (by decide)
      have hE := heap_setCells_same w.heap.size 36 (worldC (.slice (some ⟨b1, 0, none⟩) 1 1) (.slice (some ⟨b5, 0, none⟩) 1 1)) 0 W worldZ (by rw [← worldZ_is]; exact HR3.out) (by rw [worldC_len, worldZ_len]; omega)
      rw [splice_all (by rw [worldC_len, worldZ_len])] at hE
      have HE := Lib.hid hE
      have HRT := Lib.hid (show (W.setCells w.heap.size 0 (worldC (.slice (some ⟨b1, 0, none⟩) 1 1) (.slice (some ⟨b5, 0, none⟩) 1 1))).heap[b5]? = some (.cells rootC.toArray 114 (0, 0)) from (heap_setCells_other w.heap.size (worldC (.slice (some ⟨b1, 0, none⟩) 1 1) (.slice (some ⟨b5, 0, none⟩) 1 1)) 0 W b5 hne).trans r6)
      have hth := there_of_block HR3.out 0 103 (by rw [worldZ_is]; show 0 + 103 ≤ worldZ.length; rw [worldZ_len]; omega)
      clear hE hne r6 hR hD hW hb8
      generalize v 0 = u0
      generalize v 1 = u1
      generalize v 2 = u2
      generalize v 3 = u3
      generalize v 4 = u4
      generalize v 5 = u5
      go_wp2_with (refine wpList_store_mid rfl 36 _ _ rfl w.heap.size 0 (worldC (.slice (some ⟨b1, 0, none⟩) 1 1) (.slice (some ⟨b5, 0, none⟩) 1 1)).toArray rfl rfl (by rw [worldC_size]; exact hth) (by rw [worldC_size]; exact info_world) (world_one b1 b5) ?_)
      exact ret_cell rfl w.heap.size 0 rfl (worldC (.slice (some ⟨b1, 0, none⟩) 1 1) (.slice (some ⟨b5, 0, none⟩) 1 1)) _ (range_of_block HE.out 0 _ (fun j _ => by rw [Nat.zero_add])) Tryz.underlying36 rfl (by rw [worldC_len]; exact info_world) rfl ⟨⟨b1, b5, rfl, HRT.out⟩, below_setCells HB3.out (Nat.le_refl _) _ _⟩
end Go.Proofs.YtlmacaenbililaaGreatDoor
