/- Labels, rows of labels and strings that came in, opened. Names that came in, opened. No conditions. -/
import Derived.Test.YtlmacaenbililaaGreatDoorKind
import Derived.Test.YtlmacaenbililaaGreatDoorLabb
import Derived.WideShapes
import Derived.Test.YtlmacaenbililaaGreatDoorIlaw
namespace Go.Proofs.YtlmacaenbililaaGreatDoor
open Go.RowKit Go.WideShapes
set_option linter.unusedVariables false
set_option linter.unusedSimpArgs false

def kLab : Kn Lab.L := ⟨2, fun _ a cs => cs = labC a⟩
theorem opens_lab : Opens Tryz.prog 25 kLab Lab.ok :=
  opens_imp (d := Kn.pair (Kn.int .u16) (Kn.int .u16)) (fun x => (x.1.toNat, x.2.toNat))
    (opens_struct Tryz.underlying25 (by kernel_rfl) (opensF_cons rfl (by kernel_rfl) (opens_int Tryz.underlying23) (opensF_one rfl (by kernel_rfl) (opens_int Tryz.underlying23))))
    (fun x ⟨h1, h2⟩ => by
      obtain ⟨a, ha, ha'⟩ := u16_nat h1
      obtain ⟨b, hb, hb'⟩ := u16_nat h2
      show x.1.toNat < 65536 ∧ x.2.toNat < 65536
      omega)
    (fun w x cs ⟨h1, h2⟩ ⟨c, c', hc, h3, h4⟩ => by
      obtain ⟨a, ha, ha'⟩ := u16_nat h1
      obtain ⟨b, hb, hb'⟩ := u16_nat h2
      have h3' : c = [.int .u16 x.1] := h3
      have h4' : c' = [.int .u16 x.2] := h4
      show cs = [.int .u16 ((x.1.toNat : Nat) : Int), .int .u16 ((x.2.toNat : Nat) : Int)]
      rw [hc, h3', h4', ha, hb]
      simp)

set_option maxRecDepth 100000 in
theorem lab_value {H : Type} {enc : TypeId × Value → H} {w : World} {base : Nat} {b0 : Nat} {r : Reach} {spare : Nat → Bool} {held : Bool} {v : Value} {x : DataW H} {p : List MemPlace} (hv : Value.okWide Tryz.prog w r b0 25 v)
    (ht : DataW.Trod enc Tryz.prog w base spare held 25 v x p) : ∃ a : Lab.L, v = labV a ∧ Lab.ok a := by
  obtain ⟨cs, rfl, _⟩ := okWide_struct Tryz.underlying25 hv
  obtain ⟨a, hK, hB⟩ := opens_lab.value ht
  have hK' : cs.toList = labC a := hK
  refine ⟨a, ?_, hB⟩
  have : cs = (labC a).toArray := by rw [← hK']
  rw [this]; rfl

end Go.Proofs.YtlmacaenbililaaGreatDoor
namespace Go.Proofs.YtlmacaenbililaaGreatDoor
open Go.RowKit Go.WideShapes
set_option linter.unusedVariables false
set_option linter.unusedSimpArgs false

theorem i64_in_wf {n : Int} (h : (Lit.int .i64 n).wf = true) : -9223372036854775808 ≤ n ∧ n ≤ 9223372036854775807 := by
  simp [Lit.wf, IntKind.min, IntKind.max, IntKind.signed, IntKind.bits] at h
  omega
def kIdn : Kn Idn.I := ⟨4, fun _ x cs => cs = idC x⟩
set_option maxRecDepth 100000 in
theorem opens_idn : Opens Tryz.prog 64 kIdn (fun x => Lab.ok x.1 ∧ (-9223372036854775808 ≤ x.2.1 ∧ x.2.1 ≤ 9223372036854775807) ∧ (-9223372036854775808 ≤ x.2.2 ∧ x.2.2 ≤ 9223372036854775807)) :=
  opens_imp (d := Kn.pair kLab (Kn.pair (Kn.int .i64) (Kn.int .i64))) (fun x : Lab.L × Int × Int => (x : Idn.I)) (opens_struct Tryz.underlying64 (by kernel_rfl) (opensF_cons rfl (by kernel_rfl) opens_lab (opensF_cons rfl (by kernel_rfl) (opens_int Tryz.underlying3) (opensF_one rfl (by kernel_rfl) (opens_int Tryz.underlying3))))) (fun x ⟨h1, h2, h3⟩ => ⟨h1, i64_in_wf h2, i64_in_wf h3⟩)
    (fun w x cs _ hK => by
      obtain ⟨c3, r3, rfl, h3, c4, r4, rfl, h4, h5⟩ := hK
      have e3 : c3 = _ := h3
      have e4 : c4 = _ := h4
      have e5 : r4 = _ := h5
      subst e3 e4 e5
      rfl)
set_option maxRecDepth 100000 in
theorem id_value {H : Type} {enc : TypeId × Value → H} {w : World} {base : Nat} {b0 : Nat} {r : Reach} {spare : Nat → Bool} {held : Bool} {v : Value} {x : DataW H} {p : List MemPlace} (hv : Value.okWide Tryz.prog w r b0 64 v)
    (ht : DataW.Trod enc Tryz.prog w base spare held 64 v x p) : ∃ e : Idn.I, v = idV e ∧ Lab.ok e.1 ∧ (-9223372036854775808 ≤ e.2.1 ∧ e.2.1 ≤ 9223372036854775807) ∧ (-9223372036854775808 ≤ e.2.2 ∧ e.2.2 ≤ 9223372036854775807) := by
  obtain ⟨cs, rfl, _⟩ := okWide_struct Tryz.underlying64 hv
  obtain ⟨e, hK, hB⟩ := opens_idn.value ht
  have hK' : cs.toList = idC e := hK
  refine ⟨e, ?_, hB⟩
  rw [show cs = (idC e).toArray from Array.toList_inj.1 (hK'.trans (by rfl))]
end Go.Proofs.YtlmacaenbililaaGreatDoor
