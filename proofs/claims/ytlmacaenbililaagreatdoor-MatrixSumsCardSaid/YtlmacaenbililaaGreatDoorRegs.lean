/- A region that draws its order, all of whose operations read, or call what only makes blocks, but for ONE store into a block that no other operation of the region reads: one walk in the order of the text serves every order. No conditions. -/
import Derived.Test.YtlmacaenbililaaGreatDoorBase
namespace Go.Proofs.YtlmacaenbililaaGreatDoor
open Go.RowKit

section
variable {P : Program} {ops : Array Oper} {md : Region.Mode} {D : Array Bool → World → Prop}
def goesUpon (P : Program) (C : World → Prop) (v : Value) : Result Next → Prop
  | .ok (.value u) w' => C w' ∧ u = v
  | .ok .skip w' => C w' ∧ v = undef
  | .ok (.enter f args) w' => Calls P f args w' (fun e w'' => e = .returned v ∧ C w'')
  | _ => False
def goesAt (P : Program) (o : Oper) (a : Act) (C : World → Prop) (w : World) (v : Value) : Prop := goesUpon P C v ((execOp a.eval o).run P w)
/-- Operation i, o, yields v in this frame, whatever has been carried out beside it; and what is said of the worlds goes on. -/
def Goes (P : Program) (md : Region.Mode) (ops : Array Oper) (D : Array Bool → World → Prop) (i : Nat) (o : Oper) (v : Value) (a : Act) : Prop :=
  (Region.wanted o (yielded ops a.tmps) = true ∧ ∀ L w, i ∈ Region.ready md ops L → D L w → goesAt P o a (D (L.setIfInBounds i true)) w v) ∨
  (Region.wanted o (yielded ops a.tmps) = false ∧ v = undef ∧ ∀ L w, i ∈ Region.ready md ops L → D L w → D (L.setIfInBounds i true) w)
def dOp (P : Program) (md : Region.Mode) (ops : Array Oper) (D : Array Bool → World → Prop) (i : Nat) (K : Act → Prop) (a : Act) : Prop := ∃ o v, ops[i]? = some o ∧ Goes P md ops D i o v a ∧ K (a.put o.dst v)
theorem dOp_mono {i : Nat} {a : Act} {K K' : Act → Prop} (h : ∀ a, K a → K' a) (hh : dOp P md ops D i K a) : dOp P md ops D i K' a := by
  obtain ⟨o, v, h1, h2, h3⟩ := hh; exact ⟨o, v, h1, h2, h _ h3⟩
def anyD (P : Program) (md : Region.Mode) (ops : Array Oper) (D : Array Bool → World → Prop) (Q : Array Bool → Act → Prop) : Nat → Array Bool → Act → Prop
  | 0, listed, a => Region.ready md ops listed = [] ∧ Q listed a
  | f + 1, listed, a => Region.ready md ops listed ≠ [] ∧ ∀ i ∈ Region.ready md ops listed, dOp P md ops D i (anyD P md ops D Q f (listed.setIfInBounds i true)) a
theorem wpOp_of_dOp {i : Nat} {L : Array Bool} {a : Act} {K : Act → Prop} {K' : Act → World → Prop} {Q' : Exit → Act → World → Prop} {w : World} (hL : i ∈ Region.ready md ops L) (hD : D L w)
    (h : ∀ a w', D (L.setIfInBounds i true) w' → K a → K' a w') (hh : dOp P md ops D i K a) : wpOp P ops Q' i K' a w := by
  obtain ⟨o, v, h1, h2, h3⟩ := hh
  unfold wpOp
  simp only [h1]
  rcases h2 with ⟨hw, hg⟩ | ⟨hw, rfl, hg⟩
  · rw [if_pos hw]
    refine .inl ?_
    have hg := hg L w hL hD
    unfold goesAt at hg
    unfold Oper.wp
    generalize (execOp a.eval o).run P w = r at *
    cases r with
    | ok n w' =>
      cases n <;> simp only [goesUpon] at hg <;> simp only [Oper.upon]
      case value u => obtain ⟨e1, rfl⟩ := hg; exact h _ _ e1 h3
      case skip => obtain ⟨e1, rfl⟩ := hg; exact h _ _ e1 h3
      case enter f args => exact hg.mono fun e w'' ⟨he, hw''⟩ => by subst he; exact h _ _ hw'' h3
    | halt x w' => simp only [goesUpon] at hg
  · rw [if_neg (by rw [hw]; exact Bool.false_ne_true)]
    exact h _ _ (hg L w hL hD) h3
theorem any_of_D {Q : Array Bool → Act → Prop} {Q' : Exit → Act → World → Prop} (hQ : ∀ L a w, D L w → Region.ready md ops L = [] → Q L a → Q' .normal a w) : ∀ (f : Nat) (L : Array Bool) (a : Act) (w : World), D L w → anyD P md ops D Q f L a → wpAny P md ops Q' f L a w
  | 0, _, _, _, hw, h => ⟨h.1, hQ _ _ _ hw h.1 h.2⟩
  | f + 1, _, _, _, hw, h => ⟨fun h0 => absurd h0 h.1, fun i hi => wpOp_of_dOp hi hw (fun a' w' hw' h' => any_of_D hQ f _ a' w' hw' h') (h.2 i hi)⟩
theorem Goes.of_same {i : Nat} {o : Oper} {v : Value} {a a' : Act} (hy : Goes P md ops D i o v a) (he : execOp a'.eval o = execOp a.eval o) (hw : Region.wanted o (yielded ops a'.tmps) = Region.wanted o (yielded ops a.tmps)) : Goes P md ops D i o v a' := by
  unfold Goes goesAt at *
  rw [he, hw]; exact hy
theorem dOp_put {i j : Nat} {oi oj : Oper} {v : Value} (hj : ops[j]? = some oj) (hap : oi.apart ops oj = true) (hsi : ∀ cs b, oi.op ≠ .select cs b) (hsj : ∀ cs b, oj.op ≠ .select cs b) {K : Act → Prop} {a : Act}
    (hy : Goes P md ops D i oi v a) (h : dOp P md ops D j K (a.put oi.dst v)) : dOp P md ops D j (fun a' => Goes P md ops D i oi v a' ∧ K (a'.put oi.dst v)) a := by
  obtain ⟨h1, h2, h3⟩ := Oper.apart_spec hap
  obtain ⟨o, u, ho, hg, hk⟩ := h
  obtain rfl : oj = o := Option.some.inj (hj.symm.trans ho)
  refine ⟨oj, u, hj, hg.of_same (execOp_put oj hsj a oi.dst v h1).symm (wanted_put oj a oi.dst v h1).symm, hy.of_same (execOp_put oi hsi a oj.dst u h3) (wanted_put oi a oj.dst u h3), ?_⟩
  rw [← Act.put_comm a v u h2]; exact hk
theorem D_first {Q : Array Bool → Act → Prop} {i : Nat} {oi : Oper} {v : Value} (hi : ops[i]? = some oi) (hsel : ∀ (j : Nat) (o : Oper) cs b, ops[j]? = some o → o.op ≠ .select cs b) :
    ∀ (f : Nat) (listed : Array Bool) (a : Act),
      (∀ j oj, ops[j]? = some oj → j ≠ i → listed.getD j true = false → (∀ e ∈ oj.after, Region.binds md e = true → e.on ≠ i) → oi.apart ops oj = true) →
      i ∈ Region.ready md ops listed → Goes P md ops D i oi v a → anyD P md ops D Q f (listed.setIfInBounds i true) (a.put oi.dst v) → anyD P md ops D Q (f + 1) listed a := by
  intro f
  induction f with
  | zero =>
    intro listed a _ hr hy H
    refine ⟨fun h => (by rw [h] at hr; cases hr), fun j hj => ?_⟩
    by_cases hji : j = i
    · subst hji; exact ⟨oi, v, hi, hy, H⟩
    · have := ready_mono hj hji
      rw [H.1] at this
      cases this
  | succ f ih =>
    intro listed a hfree hr hy H
    refine ⟨fun h => (by rw [h] at hr; cases hr), fun j hj => ?_⟩
    by_cases hji : j = i
    · subst hji; exact ⟨oi, v, hi, hy, H⟩
    · have h1 := H.2 j (ready_mono hj hji)
      obtain ⟨hjun, oj, hoj, hall⟩ := mem_ready.1 hj
      have hnot : ∀ e ∈ oj.after, Region.binds md e = true → e.on ≠ i := fun e he hb heq => by
        have h1 := hall e he hb
        rw [heq, getD_both (mem_ready.1 hr).1] at h1
        cases h1
      have h2 := dOp_put hoj (hfree j oj hoj hji hjun hnot) (fun cs b => hsel i oi cs b hi) (fun cs b => hsel j oj cs b hoj) hy h1
      have hfree' : ∀ k ok, ops[k]? = some ok → k ≠ i → (listed.setIfInBounds j true).getD k true = false → (∀ e ∈ ok.after, Region.binds md e = true → e.on ≠ i) → oi.apart ops ok = true := fun k ok hk hki hun hno => by
        refine hfree k ok hk hki ?_ hno
        by_cases hjk : j = k
        · subst hjk; exact hjun
        · rw [getD_set_ne true hjk] at hun; exact hun
      refine dOp_mono (fun a' h3 => ih (listed.setIfInBounds j true) a' hfree' (ready_mono hr (Ne.symm hji)) h3.1 ?_) h2
      rw [Array.setIfInBounds_comm _ _ hji]
      exact h3.2
/-- The walk in the order of the text. -/
def wpD (P : Program) (md : Region.Mode) (ops : Array Oper) (D : Array Bool → World → Prop) (Q : Act → Prop) : Nat → List Oper → Act → Prop
  | _, [], a => Q a
  | k, o :: rest, a => ∃ v, Goes P md ops D k o v a ∧ wpD P md ops D Q (k + 1) rest (a.put o.dst v)
theorem D_lex {Q : Act → Prop} (hs : Region.noSelect ops = true) : ∀ (l : List Oper) (k : Nat) (listed : Array Bool) (a : Act), (∀ j, l[j]? = ops[k + j]?) → listed.size = ops.size → (∀ j, j < k → listed.getD j false = true) →
    Region.lexFrom md ops l.length k listed = true → wpD P md ops D Q k l a → anyD P md ops D (fun L a' => (∀ j, j < ops.size → L.getD j false = true) ∧ Q a') l.length listed a
  | [], k, listed, a, hl, hz, hd, hB, h => ⟨by simpa [Region.lexFrom] using hB, fun j hj => hd j (by
      have h0 := hl (j - k)
      rcases Nat.lt_or_ge j k with h | h
      · exact h
      · rw [show k + (j - k) = j from by omega, Array.getElem?_eq_getElem hj] at h0; cases h0), h⟩
  | o :: l, k, listed, a, hl, hz, hd, hB, h => by
    have h0 : ops[k]? = some o := by simpa using (hl 0).symm
    have hk : k < ops.size := (Array.getElem?_eq_some_iff.1 h0).1
    simp only [List.length_cons, Region.lexFrom, Bool.and_eq_true] at hB
    obtain ⟨⟨hr, hf⟩, hB'⟩ := hB
    obtain ⟨v, hy, hK⟩ := h
    refine D_first h0 (Region.noSelect_spec hs) l.length listed a (Region.free_spec h0 hf) (by simpa using hr) hy
      (D_lex hs l (k + 1) _ _ (fun j => by have := hl (j + 1); simpa [Nat.add_assoc, Nat.add_comm 1 j] using this) (by simpa using hz) (fun j hj => ?_) hB' hK)
    by_cases e : k = j
    · subst e; simp [hz, hk]
    · rw [getD_set_ne false e]; exact hd j (by omega)
end

/-! ### One store -/
/-- The worlds of such a region: ahead of the store w0, behind it w1, each grown. -/
def oneStore (s : Nat) (ws : Bool → World) (L : Array Bool) (W : World) : Prop := ∃ X, W = over (ws (L.getD s false)) X
/-- What is asked of an operation beside the store. -/
def besideAt (P : Program) (ws : Bool → World) (v : Value) (f : Bool) (X : World) : Result Next → Prop
  | .ok (.value u) w' => w' = over (ws f) X ∧ u = v
  | .ok .skip w' => w' = over (ws f) X ∧ v = undef
  | .ok (.enter g args) w' => w' = over (ws f) X ∧ Calls P g args (over (ws f) X) (fun e w'' => e = .returned v ∧ ∃ X', w'' = over (ws f) X')
  | _ => False
/-- The walk: at the store (number s) the store's own word, elsewhere 'besideAt'. -/
def wpS (P : Program) (ops : Array Oper) (ws : Bool → World) (s : Nat) (Q : Act → Prop) : Nat → List Oper → Act → Prop
  | _, [], a => Q a
  | k, o :: rest, a =>
    if k = s then Region.wanted o (yielded ops a.tmps) = true ∧ (∀ X, ∃ X', (execOp a.eval o).run P (over (ws false) X) = .ok .skip (over (ws true) X')) ∧ wpS P ops ws s Q (k + 1) rest (a.put o.dst undef)
    else if Region.wanted o (yielded ops a.tmps) then ∃ v, (∀ f X, besideAt P ws v f X ((execOp a.eval o).run P (over (ws f) X))) ∧ wpS P ops ws s Q (k + 1) rest (a.put o.dst v)
    else wpS P ops ws s Q (k + 1) rest (a.put o.dst undef)
section
variable {P : Program} {ops : Array Oper} {ws : Bool → World} {s : Nat} {Q : Act → Prop}
theorem oneStore_other {L : Array Bool} {k : Nat} (h : k ≠ s) (W : World) : oneStore s ws (L.setIfInBounds k true) W ↔ oneStore s ws L W := by
  unfold oneStore; rw [getD_set_ne false h]
theorem wpD_of_wpS : ∀ (l : List Oper) (k : Nat) (a : Act), wpS P ops ws s Q k l a → wpD P .any ops (oneStore s ws) Q k l a
  | [], _, _, h => h
  | o :: rest, k, a, h => by
    unfold wpS at h
    split at h
    · rename_i hk
      obtain ⟨hw, hg, hn⟩ := h
      refine ⟨undef, .inl ⟨hw, fun L w hL hD => ?_⟩, wpD_of_wpS rest _ _ hn⟩
      obtain ⟨X, rfl⟩ := hD
      have hL := (mem_ready.1 hL).1
      rw [hk] at hL ⊢
      rw [getD_both hL]
      obtain ⟨X', hX⟩ := hg X
      unfold goesAt
      rw [hX]
      refine ⟨⟨X', ?_⟩, rfl⟩
      have : s < L.size := by
        rcases Nat.lt_or_ge s L.size with h | h
        · exact h
        · simp [Array.getElem?_eq_none h] at hL
      simp [this]
    · rename_i hk
      split at h
      · rename_i hw
        obtain ⟨v, hg, hn⟩ := h
        refine ⟨v, .inl ⟨hw, fun L w hL hD => ?_⟩, wpD_of_wpS rest _ _ hn⟩
        obtain ⟨X, rfl⟩ := hD
        have h1 := hg (L.getD s false) X
        unfold goesAt
        generalize (execOp a.eval o).run P (over (ws (L.getD s false)) X) = r at *
        cases r with
        | ok n w' =>
          cases n <;> simp only [besideAt] at h1 <;> simp only [goesUpon]
          case value u => exact ⟨(oneStore_other hk _).2 ⟨X, h1.1⟩, h1.2⟩
          case skip => exact ⟨(oneStore_other hk _).2 ⟨X, h1.1⟩, h1.2⟩
          case enter f args => rw [h1.1]; exact h1.2.mono fun e w'' ⟨he, X', hX'⟩ => ⟨he, (oneStore_other hk _).2 ⟨X', hX'⟩⟩
        | halt x w' => simp only [besideAt] at h1
      · rename_i hw
        exact ⟨undef, .inr ⟨by simpa using hw, rfl, fun L w _ hD => (oneStore_other hk _).2 hD⟩, wpD_of_wpS rest _ _ h⟩
theorem wp_region_store {id : Nat} {Q' : Exit → Act → World → Prop} {a : Act} {l : List Oper} (s : Nat) (ws : Bool → World) (hs : s < l.length) (hm : P.follows .mixedOrders = true) (hB : Region.lexB .any l.toArray = true)
    (h : wpS P l.toArray ws s (fun a' => ∀ W, (∃ X, W = over (ws true) X) → Q' .normal a' W) 0 l a) : (Code.region id l.toArray true).wp P Q' a (ws false) := by
  simp only [Region.lexB, Bool.and_eq_true] at hB
  refine wp_region_any hm ?_
  have := D_lex (P := P) (md := .any) (D := oneStore s ws) hB.1 l 0 (Array.replicate l.toArray.size false) a (by simp) (by simp) (by intro j hj; omega) (by simpa using hB.2) (wpD_of_wpS l 0 a h)
  refine any_of_D (Q' := Q') (fun L a' w hD _ hq => ?_) _ _ _ _ ?_ this
  · obtain ⟨X, rfl⟩ := hD
    rw [hq.1 s (by simpa using hs)]
    exact hq.2 _ ⟨X, rfl⟩
  · rw [show oneStore s ws (Array.replicate l.toArray.size false) = fun W => ∃ X, W = over (ws false) X from by
      funext W; unfold oneStore; rw [getD_replicate_false]]
    exact over_of ((Below.refl (ws false).heap.size (ws false)).drew)
end
/-- Ahead of a store of vs at offset off of block b, and behind it. -/
def wsOf (w : World) (b off : Nat) (vs : List Value) : Bool → World | false => w | true => w.setCells b off vs
theorem size_ws (w : World) (b off : Nat) (vs : List Value) (f : Bool) : (wsOf w b off vs f).heap.size = w.heap.size := by
  cases f
  · rfl
  · exact (setCells_rest b vs off w).2.2.2
theorem block_ws (w : World) (b off : Nat) (vs : List Value) (f : Bool) (g : Nat) (h : g ≠ b) : (wsOf w b off vs f).heap[g]? = w.heap[g]? := by
  cases f
  · rfl
  · exact heap_setCells_other b vs off w g h
theorem cell_ws (w : World) (b off : Nat) (vs : List Value) (f : Bool) (g o : Nat) (h : g ≠ b) : (wsOf w b off vs f).cell? ⟨g, o, none⟩ = w.cell? ⟨g, o, none⟩ := World.cell?_of_block (w := w) (block_ws w b off vs f g h)
theorem frozen_ws (w : World) (b off : Nat) (vs : List Value) (f : Bool) (g o : Nat) (h : g ≠ b) : (wsOf w b off vs f).frozen? ⟨g, o, none⟩ = w.frozen? ⟨g, o, none⟩ := World.frozen?_of_block (w := w) (block_ws w b off vs f g h)
theorem rangeAt_ws {w : World} {b off : Nat} {vs : List Value} {f : Bool} {g o : Nat} {cs : List Value} (h : w.rangeAt g o cs) (hg : g ≠ b) : (wsOf w b off vs f).rangeAt g o cs := fun j v hv => (cell_ws w b off vs f g (o + j) hg).trans (h j v hv)
theorem there_over {w X : World} {b off n : Nat} (h : w.there b off n) : (over w X).there b off n := fun j hj => by
  obtain ⟨h1, h2⟩ := h j hj
  obtain ⟨u, hu⟩ := Option.isSome_iff_exists.1 h1
  have hb := World.block_lt_of_cell? w _ hu
  exact ⟨by rw [cell_over hb]; exact h1, by rw [frozen_over hb]; exact h2⟩
theorem over_set (w X : World) (b off : Nat) (vs : List Value) (hb : b < w.heap.size) : ∃ X', (over w X).setCells b off vs = over (w.setCells b off vs) X' := by
  refine over_of ?_
  have hov := over_below w X
  obtain ⟨h1, h2, h3, h4⟩ := setCells_rest b vs off w
  obtain ⟨k1, k2, k3, k4⟩ := setCells_rest b vs off (over w X)
  refine ⟨by rw [k1, h1, hov.os], by rw [k2, h2, hov.tape], by rw [k3, h3, hov.output], by rw [k4, h4]; exact hov.size, fun g hg => ?_⟩
  rw [h4] at hg
  by_cases e : g = b
  · subst e
    have hbl := hov.block g hg
    clear h1 h2 h3 h4 k1 k2 k3 k4
    generalize over w X = W at *
    clear hov hg hb
    induction vs generalizing off w W with
    | nil => exact hbl
    | cons v vs ih =>
      rw [World.setCells, World.setCells]
      refine ih (w.setCell ⟨g, off, none⟩ v) (off + 1) (W.setCell ⟨g, off, none⟩ v) ?_
      simp only [World.setCell, Array.getElem?_modify, if_true, hbl]
  · rw [heap_setCells_other b vs off _ g e, heap_setCells_other b vs off _ g e]; exact hov.block g hg

section
variable {P : Program} {ops : Array Oper} {ws : Bool → World} {s k : Nat} {Q : Act → Prop} {a : Act} {o : Oper} {rest : List Oper}
/-- An operation beside the store. -/
theorem wpS_step (hk : (k == s) = false) (h : ∀ K : Act → Prop, (∀ a, wpS P ops ws s Q (k + 1) rest a → K a) → if Region.wanted o (yielded ops a.tmps) then ∃ v, (∀ f X, besideAt P ws v f X ((execOp a.eval o).run P (over (ws f) X))) ∧ K (a.put o.dst v) else K (a.put o.dst undef)) :
    wpS P ops ws s Q k (o :: rest) a := by
  have hk' : ¬ k = s := by simpa using hk
  have := h _ (fun _ h => h)
  unfold wpS
  rw [if_neg hk']
  exact this
/-- .. whose run is told by an equation. -/
theorem wpS_value (hk : (k == s) = false) (hw : Region.wanted o (yielded ops a.tmps) = true) (v : Value) (h : ∀ f X, (execOp a.eval o).run P (over (ws f) X) = .ok (.value v) (over (ws f) X)) (hn : wpS P ops ws s Q (k + 1) rest (a.put o.dst v)) : wpS P ops ws s Q k (o :: rest) a :=
  wpS_step hk fun K hK => by rw [if_pos hw]; exact ⟨v, fun f X => by rw [h f X]; exact ⟨rfl, rfl⟩, hK _ hn⟩
/-- .. a load of many cells. -/
theorem wpS_load (hk : (k == s) = false) (hw : Region.wanted o (yielded ops a.tmps) = true) (ty : TypeId) (x : Operand) (ho : o.op = .load ty x) (b off : Nat) (hx : a.eval x = .pointer (some ⟨b, off, none⟩)) (cs : List Value) (d : TypeDesc) (hC : ∀ f, (ws f).rangeAt b off cs)
    (hu : P.underlying ty = some d) (hd : d.isRow = true) (hi : (P.info? ty).map (·.size) = some cs.length) (hn : wpS P ops ws s Q (k + 1) rest (a.put o.dst (.agg cs.toArray))) : wpS P ops ws s Q k (o :: rest) a :=
  wpS_value hk hw _ (fun f X => by
    unfold execOp
    simp only [ho, hx, Instr.loadAt, Instr.sureAddr, Sem.run_bind, Sem.run_pure, Result.andThen_ok, run_loadVar_mid _ b off ty cs d (rangeAt_over (hC f)) hu hd hi]) hn
/-- .. a struct out of its parts. -/
theorem wpS_build (hk : (k == s) = false) (hw : Region.wanted o (yielded ops a.tmps) = true) (t : TypeId) (parts : Array (Nat × Operand)) (ho : o.op = .build t parts) (vals : Array (Nat × Value)) (hv : (parts.map fun (i, x) => (i, a.eval x)) = vals) {v : Value}
    (h : ∀ w, (Instr.build t vals).run P w = .ok v w) (hn : wpS P ops ws s Q (k + 1) rest (a.put o.dst v)) : wpS P ops ws s Q k (o :: rest) a :=
  wpS_value hk hw v (fun f X => by unfold execOp; simp only [ho]; rw [hv, Sem.run_bind, h]; simp only [Result.andThen_ok, Sem.run_pure]) hn
/-- The store of many cells. -/
theorem wpS_store {w : World} {b off : Nat} {cs : List Value} (hk : (k == s) = true) (hw : Region.wanted o (yielded ops a.tmps) = true) (ty : TypeId) (x y : Operand) (ho : o.op = .store ty x y) (hx : a.eval x = .pointer (some ⟨b, off, none⟩)) (hy : a.eval y = .agg cs.toArray)
    (ht : w.there b off cs.length) (hb : b < w.heap.size) (hi : (P.info? ty).map (·.size) = some cs.length) (h1 : ∀ v ∈ cs, v.oneCell' = true) (hn : wpS P ops (wsOf w b off cs) s Q (k + 1) rest (a.put o.dst undef)) : wpS P ops (wsOf w b off cs) s Q k (o :: rest) a := by
  have hk' : k = s := by simpa using hk
  unfold wpS
  rw [if_pos hk']
  refine ⟨hw, fun X => ?_, hn⟩
  obtain ⟨X', hX⟩ := over_set w X b off cs hb
  refine ⟨X', ?_⟩
  unfold execOp
  simp only [ho, hx, hy, Instr.storeAt, Instr.sureAddr, Sem.run_bind, Sem.run_pure, Result.andThen_ok]
  show ((storeVar ty ⟨b, off, none⟩ (.agg cs.toArray)).run P (over w X)).andThen _ = _
  rw [run_storeVar_mid _ b off ty cs.toArray (by rw [List.size_toArray]; exact there_over ht) (by rw [List.size_toArray]; exact hi) (all_oneCell_toArray h1), hX]
  rfl
theorem wp_region_put {id : Nat} {Q' : Exit → Act → World → Prop} {l : List Oper} {w : World} (s : Nat) (b off : Nat) (vs : List Value) (hs : s < l.length) (hm : P.follows .mixedOrders = true) (hB : Region.lexB .any l.toArray = true)
    (h : wpS P l.toArray (wsOf w b off vs) s (fun a' => ∀ W, Below w.heap.size (w.setCells b off vs) W → Q' .normal a' W) 0 l a) : (Code.region id l.toArray true).wp P Q' a w := by
  refine wp_region_store (P := P) (l := l) s (wsOf w b off vs) hs hm hB ?_
  have e : (fun a' => ∀ W, Below w.heap.size (w.setCells b off vs) W → Q' .normal a' W) = fun a' => ∀ W, (∃ X, W = over (wsOf w b off vs true) X) → Q' .normal a' W := by
    funext a'
    have hz : (w.setCells b off vs).heap.size = w.heap.size := (setCells_rest b vs off w).2.2.2
    exact propext ⟨fun h W ⟨X, hX⟩ => h W (by have := over_below (w.setCells b off vs) X; rw [hz] at this; rw [hX]; exact this), fun h W hb => h W (over_of (by rw [show wsOf w b off vs true = w.setCells b off vs from rfl, hz]; exact hb))⟩
  rw [← e]; exact h
theorem wpS_nil (h : Q a) : wpS P ops ws s Q k [] a := h
end
end Go.Proofs.YtlmacaenbililaaGreatDoor
