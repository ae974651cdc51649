/- What came in, opened to its kind: a value whose data can be read at a type has the cells of some element of the type's kind, with bounds. No conditions. -/
import Derived.Test.YtaapejhoegeimaaVWMore
import Derived.ChangeArms
import Derived.Deep.Slices
import Derived.Deep.Strs
namespace Go.Proofs.Ytaapejhoegeimaa
open Go.RowKit Go.Proofs.YtaapejhoegeimaaW.PrintWords
set_option linter.unusedVariables false
/-- At type t the cells are of kind d, and B is true of the element. -/
structure Opens {α : Type} (P : Program) (t : TypeId) (d : Kd α) (B : α → Prop) : Prop where
  out : ∀ {H : Type} (enc : TypeId × Value → H) (w : World) (base : Nat) (spare : Nat → Bool) (held : Bool) (fuel : Nat) (cs : List Value) (x : DataW H × List MemPlace), DataW.trod enc P w base spare held fuel t cs = some x → ∃ a, d.K w a cs ∧ B a
section
variable {P : Program} {α β : Type} {t e : TypeId}
theorem opens_int {k : IntKind} (ht : P.underlying t = some (.int k)) : Opens P t (Kd.int k) (fun n => (Lit.int k n).wf = true) := ⟨fun {H} enc w base spare held fuel cs x h => by
  obtain ⟨n, rfl, _, hw⟩ := DataW.trod_int ht h
  exact ⟨n, rfl, hw⟩⟩
theorem opens_bool (ht : P.underlying t = some .bool) : Opens P t Kd.bool (fun _ => True) := ⟨fun {H} enc w base spare held fuel cs x h => by
  obtain ⟨b, rfl, _⟩ := DataW.trod_bool ht h
  exact ⟨b, rfl, trivial⟩⟩
theorem opens_string (ht : P.underlying t = some .string) : Opens P t Kd.string (fun s => s.size ≤ 9223372036854775807) := ⟨fun {H} enc w base spare held fuel cs x h => by
  obtain ⟨s, rfl, _, hs⟩ := DataW.trod_string ht h
  exact ⟨s, rfl, hs⟩⟩
theorem opens_slice {d : Kd α} {B : α → Prop} (e' : Nat) (ht : P.underlying t = some (.slice e)) (he : Opens P e d B) (hsz : P.cellsOf e = d.sz) : Opens P t (Kd.slice e' d) (fun l => ∀ x ∈ l, B x) := ⟨fun {H} enc w base spare held fuel cs x h => by
  rcases Go.Deep.open_slice ht h with ⟨rfl, _⟩ | ⟨a, len, cap, m, n, D, Pl, rfl, hb, hl, hm, hmm, _, hx⟩
  · exact ⟨[], ⟨none, 0, rfl, Nat.le_refl _, rfl, Nat.zero_le _, fun h => absurd h (Nat.lt_irrefl _)⟩, fun x hx => by cases hx⟩
  · have hlm : len ≤ m := by rw [hmm]; split <;> omega
    have hone : ∀ i, i < len → ∃ y : α, ∃ c : List Value, c.length = d.sz ∧ d.K w y c ∧ B y ∧ ∀ j u, c[j]? = some u → w.cell? (a.add (i * d.sz + j)) = some u := fun i hi => by
      obtain ⟨cs', h1, h2⟩ := hx i (by omega)
      obtain ⟨y, hK, hB⟩ := he.out enc w base spare held n cs' _ h2
      obtain ⟨_, hcl, hcc⟩ := World.cells?_some h1
      refine ⟨y, cs', by rw [hcl, hsz], hK, hB, fun j u hj => ?_⟩
      have hjl := (List.getElem?_eq_some_iff.1 hj).1
      have := hcc j (by omega)
      rw [hsz, Go.Deep.add_add] at this
      exact this.trans hj
    obtain ⟨l, hll, hlx⟩ : ∃ l : List α, l.length = len ∧ ∀ i y, l[i]? = some y → ∃ c : List Value, c.length = d.sz ∧ d.K w y c ∧ B y ∧ ∀ j u, c[j]? = some u → w.cell? (a.add (i * d.sz + j)) = some u := by
      clear hx hlm hmm
      have : ∀ k, k ≤ len → ∃ l : List α, l.length = k ∧ ∀ i y, l[i]? = some y → ∃ c : List Value, c.length = d.sz ∧ d.K w y c ∧ B y ∧ ∀ j u, c[j]? = some u → w.cell? (a.add (i * d.sz + j)) = some u := by
        intro k
        induction k with
        | zero => intro _; exact ⟨[], rfl, fun i y hy => by simp at hy⟩
        | succ k ih =>
          intro hk
          obtain ⟨l, h1, h2⟩ := ih (by omega)
          obtain ⟨y, hy⟩ := hone k (by omega)
          refine ⟨l ++ [y], by simp [h1], fun i z hz => ?_⟩
          by_cases hi : i < l.length
          · rw [List.getElem?_append_left hi] at hz
            exact h2 i z hz
          · have hil := (List.getElem?_eq_some_iff.1 hz).1
            simp only [List.length_append, List.length_singleton] at hil
            have hik : i = k := by omega
            subst hik
            rw [List.getElem?_append_right (by omega), show i - l.length = 0 from by omega] at hz
            obtain rfl : y = z := by simpa using hz
            exact hy
      exact this len (Nat.le_refl _)
    refine ⟨l, ⟨some a, cap, by rw [hll], by omega, rfl, ?_, fun hp => ⟨a, rfl, fun j p hj => ?_⟩⟩, fun y hy => ?_⟩
    · simp only [maxLen] at hm
      omega
    · obtain ⟨c, h1, h2, _, h4⟩ := hlx j p hj
      exact ⟨c, h1, h2, h4⟩
    · obtain ⟨i, hi⟩ := List.getElem?_of_mem hy
      obtain ⟨_, _, _, h3, _⟩ := hlx i y hi
      exact h3⟩
/-- The fields from one on, from cell 'off' on. -/
structure OpensF (P : Program) (off : Nat) (fs : List Field) (d : Kd α) (B : α → Prop) : Prop where
  out : ∀ {H : Type} (enc : TypeId × Value → H) (w : World) (base : Nat) (spare : Nat → Bool) (held : Bool) (fuel : Nat) (cs : List Value), off + d.sz ≤ cs.length → (∀ f ∈ fs, ∃ y, DataW.trod enc P w base spare held fuel f.type ((cs.drop f.offset).take (P.cellsOf f.type)) = some y) → ∃ a, d.K w a ((cs.drop off).take d.sz) ∧ B a
theorem opensF_one {off : Nat} {f : Field} {d : Kd α} {B : α → Prop} (ho : f.offset = off) (hc : P.cellsOf f.type = d.sz) (h : Opens P f.type d B) : OpensF P off [f] d B := ⟨fun {H} enc w base spare held fuel cs hl hf => by
  obtain ⟨y, hy⟩ := hf f (List.mem_singleton.2 rfl)
  rw [ho, hc] at hy
  exact h.out enc w base spare held fuel _ y hy⟩
theorem opensF_cons {off : Nat} {f : Field} {fs : List Field} {d : Kd α} {d' : Kd β} {B : α → Prop} {B' : β → Prop} (ho : f.offset = off) (hc : P.cellsOf f.type = d.sz) (h : Opens P f.type d B) (h' : OpensF P (off + d.sz) fs d' B') : OpensF P off (f :: fs) (Kd.pair d d') (fun x => B x.1 ∧ B' x.2) := ⟨fun {H} enc w base spare held fuel cs hl hf => by
  have hl' : off + (d.sz + d'.sz) ≤ cs.length := hl
  obtain ⟨y, hy⟩ := hf f List.mem_cons_self
  rw [ho, hc] at hy
  obtain ⟨a, hK, hB⟩ := h.out enc w base spare held fuel _ y hy
  obtain ⟨b, hK', hB'⟩ := h'.out enc w base spare held fuel cs (by omega) (fun g hg => hf g (List.mem_cons_of_mem _ hg))
  refine ⟨(a, b), ⟨_, _, ?_, hK, hK'⟩, hB, hB'⟩
  show (cs.drop off).take (d.sz + d'.sz) = _
  rw [List.take_add, List.drop_drop]⟩
theorem opens_struct {fs : Array Field} {d : Kd α} {B : α → Prop} (ht : P.underlying t = some (.struct fs)) (hc : P.cellsOf t = d.sz) (h : OpensF P 0 fs.toList d B) : Opens P t d B := ⟨fun {H} enc w base spare held fuel cs x hx => by
  obtain ⟨xs, n, _, _, hl, hxl, hf⟩ := DataW.trod_struct ht hx
  obtain ⟨a, hK, hB⟩ := h.out enc w base spare held n cs (by omega) (fun f hm => by
    obtain ⟨i, hi⟩ := List.getElem?_of_mem hm
    have hi' : fs[i]? = some f := by rw [← Array.getElem?_toList]; exact hi
    have hil : i < fs.size := (Array.getElem?_eq_some_iff.1 hi').1
    rw [hf i f hi', List.getElem?_eq_getElem (by omega)]
    exact ⟨_, rfl⟩)
  rw [List.drop_zero, List.take_of_length_le (by omega)] at hK
  exact ⟨a, hK, hB⟩⟩
theorem opens_iso {d : Kd α} {B : α → Prop} (f : β → α) (g : α → β) (hfg : ∀ a, f (g a) = a) (h : Opens P t d B) : Opens P t (Kd.iso d f) (fun b => B (f b)) := ⟨fun {H} enc w base spare held fuel cs x hx => by
  obtain ⟨a, hK, hB⟩ := h.out enc w base spare held fuel cs x hx
  exact ⟨g a, by show d.K w (f (g a)) cs; rw [hfg]; exact hK, by show B (f (g a)); rw [hfg]; exact hB⟩⟩
theorem opens_imp {d : Kd α} {B B' : α → Prop} (h : Opens P t d B) (hB : ∀ a, B a → B' a) : Opens P t d B' := ⟨fun {H} enc w base spare held fuel cs x hx => by
  obtain ⟨a, hK, h2⟩ := h.out enc w base spare held fuel cs x hx
  exact ⟨a, hK, hB a h2⟩⟩
end
end Go.Proofs.Ytaapejhoegeimaa
