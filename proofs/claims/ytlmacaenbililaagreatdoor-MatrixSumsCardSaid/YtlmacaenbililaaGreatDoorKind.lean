/- What came in, opened: a value whose data can be read at a type has the cells of some element, with bounds. No conditions. -/
import Derived.Test.YtlmacaenbililaaGreatDoorBase
import Derived.ChangeArms
import Derived.ChangeSame
import Derived.Deep.Slices
import Derived.Deep.Strs
namespace Go.Proofs.YtlmacaenbililaaGreatDoor
open Go.RowKit
set_option linter.unusedVariables false

/-- How an element of α lies in memory: how many cells, and which. -/
structure Kn (α : Type) where
  sz : Nat
  K : World → α → List Value → Prop
def Kn.int (k : IntKind) : Kn Int := ⟨1, fun _ n cs => cs = [.int k n]⟩
def Kn.bool : Kn Bool := ⟨1, fun _ b cs => cs = [.bool b]⟩
def Kn.string : Kn ByteArray := ⟨1, fun _ s cs => cs = [.string s]⟩
def Kn.pair {α β : Type} (d : Kn α) (e : Kn β) : Kn (α × β) := ⟨d.sz + e.sz, fun w x cs => ∃ c c', cs = c ++ c' ∧ d.K w x.1 c ∧ e.K w x.2 c'⟩
def Kn.iso {α β : Type} (d : Kn α) (f : β → α) : Kn β := ⟨d.sz, fun w b cs => d.K w (f b) cs⟩
def Kn.slice {α : Type} (d : Kn α) : Kn (List α) := ⟨1, fun w l cs => ∃ A cap, cs = [.slice A l.length cap] ∧ l.length ≤ cap ∧ cap ≤ 9223372036854775807 ∧
  (0 < l.length → ∃ a, A = some a ∧ ∀ i p, l[i]? = some p → ∃ c : List Value, c.length = d.sz ∧ d.K w p c ∧ ∀ j u, c[j]? = some u → w.cell? (a.add (i * d.sz + j)) = some u)⟩
/-- At type t the cells are of kind d, and B is true of the element. -/
structure Opens {α : Type} (P : Program) (t : TypeId) (d : Kn α) (B : α → Prop) : Prop where
  out : ∀ {H : Type} (enc : TypeId × Value → H) (w : World) (base : Nat) (spare : Nat → Bool) (held : Bool) (fuel : Nat) (cs : List Value) (x : DataW H × List MemPlace), DataW.trod enc P w base spare held fuel t cs = some x → ∃ a, d.K w a cs ∧ B a
section
variable {P : Program} {α β : Type} {t e : TypeId}
theorem opens_int {k : IntKind} (ht : P.underlying t = some (.int k)) : Opens P t (Kn.int k) (fun n => (Lit.int k n).wf = true) := ⟨fun {H} enc w base spare held fuel cs x h => by
  obtain ⟨n, rfl, _, hw⟩ := DataW.trod_int ht h
  exact ⟨n, rfl, hw⟩⟩
theorem opens_bool (ht : P.underlying t = some .bool) : Opens P t Kn.bool (fun _ => True) := ⟨fun {H} enc w base spare held fuel cs x h => by
  obtain ⟨b, rfl, _⟩ := DataW.trod_bool ht h
  exact ⟨b, rfl, trivial⟩⟩
theorem opens_string (ht : P.underlying t = some .string) : Opens P t Kn.string (fun s => s.size ≤ 9223372036854775807) := ⟨fun {H} enc w base spare held fuel cs x h => by
  obtain ⟨s, rfl, _, hs⟩ := DataW.trod_string ht h
  exact ⟨s, rfl, hs⟩⟩
theorem opens_slice {d : Kn α} {B : α → Prop} (ht : P.underlying t = some (.slice e)) (he : Opens P e d B) (hsz : P.cellsOf e = d.sz) : Opens P t (Kn.slice d) (fun l => ∀ x ∈ l, B x) := ⟨fun {H} enc w base spare held fuel cs x h => by
  rcases Go.Deep.open_slice ht h with ⟨rfl, _⟩ | ⟨a, len, cap, m, n, D, Pl, rfl, hb, hl, hm, hmm, _, hx⟩
  · exact ⟨[], ⟨none, 0, rfl, Nat.le_refl _, Nat.zero_le _, fun h => absurd h (Nat.lt_irrefl _)⟩, fun x hx => by cases hx⟩
  · have hlm : len ≤ m := by rw [hmm]; split <;> omega
    have hone : ∀ i, i < len → ∃ y : α, ∃ c : List Value, c.length = d.sz ∧ d.K w y c ∧ B y ∧ ∀ j u, c[j]? = some u → w.cell? (a.add (i * d.sz + j)) = some u := fun i hi => by
      obtain ⟨cs', h1, h2⟩ := hx i (by omega)
      obtain ⟨y, hK, hB⟩ := he.out enc w base spare held n cs' _ h2
      obtain ⟨_, hcl, hcc⟩ := World.cells?_some h1
      refine ⟨y, cs', by rw [hcl, hsz], hK, hB, fun j u hj => ?_⟩
      have hjl := (List.getElem?_eq_some_iff.1 hj).1
      have := hcc j (by omega)
      rw [hsz, Go.Deep.add_add] at this
      exact this.trans hj
    obtain ⟨l, hll, hlx⟩ : ∃ l : List α, l.length = len ∧ ∀ i y, l[i]? = some y → ∃ c : List Value, c.length = d.sz ∧ d.K w y c ∧ B y ∧ ∀ j u, c[j]? = some u → w.cell? (a.add (i * d.sz + j)) = some u := by
      clear hx hlm hmm
      have : ∀ k, k ≤ len → ∃ l : List α, l.length = k ∧ ∀ i y, l[i]? = some y → ∃ c : List Value, c.length = d.sz ∧ d.K w y c ∧ B y ∧ ∀ j u, c[j]? = some u → w.cell? (a.add (i * d.sz + j)) = some u := by
        intro k
        induction k with
        | zero => intro _; exact ⟨[], rfl, fun i y hy => by simp at hy⟩
        | succ k ih =>
          intro hk
          obtain ⟨l, h1, h2⟩ := ih (by omega)
          obtain ⟨y, hy⟩ := hone k (by omega)
          refine ⟨l ++ [y], by simp [h1], fun i z hz => ?_⟩
          by_cases hi : i < l.length
          · rw [List.getElem?_append_left hi] at hz
            exact h2 i z hz
          · have hil := (List.getElem?_eq_some_iff.1 hz).1
            simp only [List.length_append, List.length_singleton] at hil
            have hik : i = k := by omega
            subst hik
            rw [List.getElem?_append_right (by omega), show i - l.length = 0 from by omega] at hz
            obtain rfl : y = z := by simpa using hz
            exact hy
      exact this len (Nat.le_refl _)
    refine ⟨l, ⟨some a, cap, by rw [hll], by omega, ?_, fun hp => ⟨a, rfl, fun j p hj => ?_⟩⟩, fun y hy => ?_⟩
    · simp only [maxLen] at hm
      omega
    · obtain ⟨c, h1, h2, _, h4⟩ := hlx j p hj
      exact ⟨c, h1, h2, h4⟩
    · obtain ⟨i, hi⟩ := List.getElem?_of_mem hy
      obtain ⟨_, _, _, h3, _⟩ := hlx i y hi
      exact h3⟩
/-- The fields from one on, from cell 'off' on. -/
structure OpensF (P : Program) (off : Nat) (fs : List Field) (d : Kn α) (B : α → Prop) : Prop where
  out : ∀ {H : Type} (enc : TypeId × Value → H) (w : World) (base : Nat) (spare : Nat → Bool) (held : Bool) (fuel : Nat) (cs : List Value), off + d.sz ≤ cs.length → (∀ f ∈ fs, ∃ y, DataW.trod enc P w base spare held fuel f.type ((cs.drop f.offset).take (P.cellsOf f.type)) = some y) → ∃ a, d.K w a ((cs.drop off).take d.sz) ∧ B a
theorem opensF_one {off : Nat} {f : Field} {d : Kn α} {B : α → Prop} (ho : f.offset = off) (hc : P.cellsOf f.type = d.sz) (h : Opens P f.type d B) : OpensF P off [f] d B := ⟨fun {H} enc w base spare held fuel cs hl hf => by
  obtain ⟨y, hy⟩ := hf f (List.mem_singleton.2 rfl)
  rw [ho, hc] at hy
  exact h.out enc w base spare held fuel _ y hy⟩
theorem opensF_cons {off : Nat} {f : Field} {fs : List Field} {d : Kn α} {d' : Kn β} {B : α → Prop} {B' : β → Prop} (ho : f.offset = off) (hc : P.cellsOf f.type = d.sz) (h : Opens P f.type d B) (h' : OpensF P (off + d.sz) fs d' B') : OpensF P off (f :: fs) (Kn.pair d d') (fun x => B x.1 ∧ B' x.2) := ⟨fun {H} enc w base spare held fuel cs hl hf => by
  have hl' : off + (d.sz + d'.sz) ≤ cs.length := hl
  obtain ⟨y, hy⟩ := hf f List.mem_cons_self
  rw [ho, hc] at hy
  obtain ⟨a, hK, hB⟩ := h.out enc w base spare held fuel _ y hy
  obtain ⟨b, hK', hB'⟩ := h'.out enc w base spare held fuel cs (by omega) (fun g hg => hf g (List.mem_cons_of_mem _ hg))
  refine ⟨(a, b), ⟨_, _, ?_, hK, hK'⟩, hB, hB'⟩
  show (cs.drop off).take (d.sz + d'.sz) = _
  rw [List.take_add, List.drop_drop]⟩
theorem opens_struct {fs : Array Field} {d : Kn α} {B : α → Prop} (ht : P.underlying t = some (.struct fs)) (hc : P.cellsOf t = d.sz) (h : OpensF P 0 fs.toList d B) : Opens P t d B := ⟨fun {H} enc w base spare held fuel cs x hx => by
  obtain ⟨xs, n, _, _, hl, hxl, hf⟩ := DataW.trod_struct ht hx
  obtain ⟨a, hK, hB⟩ := h.out enc w base spare held n cs (by omega) (fun f hm => by
    obtain ⟨i, hi⟩ := List.getElem?_of_mem hm
    have hi' : fs[i]? = some f := by rw [← Array.getElem?_toList]; exact hi
    have hil : i < fs.size := (Array.getElem?_eq_some_iff.1 hi').1
    rw [hf i f hi', List.getElem?_eq_getElem (by omega)]
    exact ⟨_, rfl⟩)
  rw [List.drop_zero, List.take_of_length_le (by omega)] at hK
  exact ⟨a, hK, hB⟩⟩
theorem opens_imp {d : Kn α} {d' : Kn β} {B : α → Prop} {B' : β → Prop} (f : α → β) (h : Opens P t d B) (hB : ∀ a, B a → B' (f a)) (hK : ∀ w a cs, B a → d.K w a cs → d'.K w (f a) cs) : Opens P t d' B' := ⟨fun {H} enc w base spare held fuel cs x hx => by
  obtain ⟨a, h1, h2⟩ := h.out enc w base spare held fuel cs x hx
  exact ⟨f a, hK w a cs h2 h1, hB a h2⟩⟩
theorem Opens.value {d : Kn α} {B : α → Prop} (h : Opens P t d B) {H : Type} {enc : TypeId × Value → H} {w : World} {base : Nat} {spare : Nat → Bool} {held : Bool} {v : Value} {x : DataW H} {p : List MemPlace} (ht : DataW.Trod enc P w base spare held t v x p) : ∃ a, d.K w a v.cells.toList ∧ B a := by
  obtain ⟨fuel, hf⟩ := ht
  exact h.out enc w base spare held fuel _ _ hf
end
theorem addr_mid (b off i : Nat) : (⟨b, off, none⟩ : Addr).add i = ⟨b, off + i, none⟩ := by
  by_cases h : i = 0
  · subst h; simp [Addr.add]
  · simp [Addr.add, h]
theorem u16_nat {n : Int} (h : (Lit.int .u16 n).wf = true) : ∃ x : Nat, n = (x : Int) ∧ x < 65536 := by
  simp [Lit.wf, IntKind.min, IntKind.max, IntKind.signed, IntKind.bits] at h
  exact ⟨n.toNat, by omega, by omega⟩
end Go.Proofs.YtlmacaenbililaaGreatDoor
