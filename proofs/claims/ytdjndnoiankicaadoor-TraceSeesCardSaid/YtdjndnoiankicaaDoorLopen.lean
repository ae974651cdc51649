/- Labels, rows of labels and strings that came in, opened. No conditions. -/
import Derived.Test.YtdjndnoiankicaaDoorKind
import Derived.Test.YtdjndnoiankicaaDoorLabb
import Derived.WideShapes
namespace Go.Proofs.YtdjndnoiankicaaDoor
open Go.RowKit Go.WideShapes
set_option linter.unusedVariables false
set_option linter.unusedSimpArgs false

def kLab : Kn Lab.L := ⟨2, fun _ a cs => cs = labC a⟩
theorem opens_lab : Opens Tryd.prog 24 kLab Lab.ok :=
  opens_imp (d := Kn.pair (Kn.int .u16) (Kn.int .u16)) (fun x => (x.1.toNat, x.2.toNat))
    (opens_struct Tryd.underlying24 (by kernel_rfl) (opensF_cons rfl (by kernel_rfl) (opens_int Tryd.underlying22) (opensF_one rfl (by kernel_rfl) (opens_int Tryd.underlying22))))
    (fun x ⟨h1, h2⟩ => by
      obtain ⟨a, ha, ha'⟩ := u16_nat h1
      obtain ⟨b, hb, hb'⟩ := u16_nat h2
      show x.1.toNat < 65536 ∧ x.2.toNat < 65536
      omega)
    (fun w x cs ⟨h1, h2⟩ ⟨c, c', hc, h3, h4⟩ => by
      obtain ⟨a, ha, ha'⟩ := u16_nat h1
      obtain ⟨b, hb, hb'⟩ := u16_nat h2
      have h3' : c = [.int .u16 x.1] := h3
      have h4' : c' = [.int .u16 x.2] := h4
      show cs = [.int .u16 ((x.1.toNat : Nat) : Int), .int .u16 ((x.2.toNat : Nat) : Int)]
      rw [hc, h3', h4', ha, hb]
      simp)

set_option maxRecDepth 100000 in
theorem lab_value {H : Type} {enc : TypeId × Value → H} {w : World} {base : Nat} {b0 : Nat} {r : Reach} {spare : Nat → Bool} {held : Bool} {v : Value} {x : DataW H} {p : List MemPlace} (hv : Value.okWide Tryd.prog w r b0 24 v)
    (ht : DataW.Trod enc Tryd.prog w base spare held 24 v x p) : ∃ a : Lab.L, v = labV a ∧ Lab.ok a := by
  obtain ⟨cs, rfl, _⟩ := okWide_struct Tryd.underlying24 hv
  obtain ⟨a, hK, hB⟩ := opens_lab.value ht
  have hK' : cs.toList = labC a := hK
  refine ⟨a, ?_, hB⟩
  have : cs = (labC a).toArray := by rw [← hK']
  rw [this]; rfl

set_option maxRecDepth 100000 in
theorem labs_value {H : Type} {enc : TypeId × Value → H} {w : World} {base : Nat} {spare : Nat → Bool} {held : Bool} {A : Option Addr} {len cap : Nat} {x : DataW H} {p : List MemPlace}
    (ht : DataW.Trod enc Tryd.prog w base spare held 31 (.slice A len cap) x p) : ∃ l : List Lab.L, len = l.length ∧ l.length ≤ 9223372036854775807 ∧ (∀ a ∈ l, Lab.ok a) ∧ LabsAt w A l := by
  obtain ⟨l, ⟨A', cap', hc, h1, h2, h3⟩, hB⟩ := (opens_slice (P := Tryd.prog) Tryd.underlying31 opens_lab (by kernel_rfl)).value ht
  have hc' : A = A' ∧ len = l.length ∧ cap = cap' := by
    have : [Value.slice A len cap] = [.slice A' l.length cap'] := hc
    simpa using this
  obtain ⟨rfl, hl, rfl⟩ := hc'
  refine ⟨l, hl, by omega, hB, ?_⟩
  by_cases h0 : l.length = 0
  · exact .inl (List.length_eq_zero_iff.1 h0)
  · obtain ⟨a, rfl, hx⟩ := h3 (by omega)
    obtain ⟨b, off, spot⟩ := a
    have hcell : ∀ i (h : i < l.length), w.cell? ((⟨b, off, spot⟩ : Addr).add (i * 2 + 0)) = some (.int .u16 (l[i].1 : Int)) ∧ w.cell? ((⟨b, off, spot⟩ : Addr).add (i * 2 + 1)) = some (.int .u16 (l[i].2 : Int)) := fun i hi => by
      obtain ⟨c, _, hk, hj⟩ := hx i l[i] (by simp [hi])
      have hk' : c = labC l[i] := hk
      subst hk'
      exact ⟨hj 0 _ rfl, hj 1 _ rfl⟩
    obtain rfl : spot = none := by
      have := (hcell 0 (by omega)).1
      simpa [Addr.add] using World.cell?_spot this
    refine .inr ⟨b, off, rfl, fun i hi => ?_⟩
    have h := hcell i hi
    rw [addr_mid, addr_mid] at h
    exact h
end Go.Proofs.YtdjndnoiankicaaDoor
