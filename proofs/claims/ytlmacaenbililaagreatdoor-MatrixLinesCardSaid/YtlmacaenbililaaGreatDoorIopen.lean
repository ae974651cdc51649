/- Names that came in, opened. No conditions. -/
import Derived.Test.YtlmacaenbililaaGreatDoorLopen
import Derived.Test.YtlmacaenbililaaGreatDoorIlaw
namespace Go.Proofs.YtlmacaenbililaaGreatDoor
open Go.RowKit Go.WideShapes
set_option linter.unusedVariables false
set_option linter.unusedSimpArgs false

theorem i64_in_wf {n : Int} (h : (Lit.int .i64 n).wf = true) : -9223372036854775808 ≤ n ∧ n ≤ 9223372036854775807 := by
  simp [Lit.wf, IntKind.min, IntKind.max, IntKind.signed, IntKind.bits] at h
  omega
def kIdn : Kn Idn.I := ⟨4, fun _ x cs => cs = idC x⟩
set_option maxRecDepth 100000 in
theorem opens_idn : Opens Tryz.prog 64 kIdn (fun x => Lab.ok x.1 ∧ (-9223372036854775808 ≤ x.2.1 ∧ x.2.1 ≤ 9223372036854775807) ∧ (-9223372036854775808 ≤ x.2.2 ∧ x.2.2 ≤ 9223372036854775807)) :=
  opens_imp (d := Kn.pair kLab (Kn.pair (Kn.int .i64) (Kn.int .i64))) (fun x : Lab.L × Int × Int => (x : Idn.I)) (opens_struct Tryz.underlying64 (by kernel_rfl) (opensF_cons rfl (by kernel_rfl) opens_lab (opensF_cons rfl (by kernel_rfl) (opens_int Tryz.underlying3) (opensF_one rfl (by kernel_rfl) (opens_int Tryz.underlying3))))) (fun x ⟨h1, h2, h3⟩ => ⟨h1, i64_in_wf h2, i64_in_wf h3⟩)
    (fun w x cs _ hK => by
      obtain ⟨c3, r3, rfl, h3, c4, r4, rfl, h4, h5⟩ := hK
      have e3 : c3 = _ := h3
      have e4 : c4 = _ := h4
      have e5 : r4 = _ := h5
      subst e3 e4 e5
      rfl)
set_option maxRecDepth 100000 in
theorem id_value {H : Type} {enc : TypeId × Value → H} {w : World} {base : Nat} {b0 : Nat} {r : Reach} {spare : Nat → Bool} {held : Bool} {v : Value} {x : DataW H} {p : List MemPlace} (hv : Value.okWide Tryz.prog w r b0 64 v)
    (ht : DataW.Trod enc Tryz.prog w base spare held 64 v x p) : ∃ e : Idn.I, v = idV e ∧ Lab.ok e.1 ∧ (-9223372036854775808 ≤ e.2.1 ∧ e.2.1 ≤ 9223372036854775807) ∧ (-9223372036854775808 ≤ e.2.2 ∧ e.2.2 ≤ 9223372036854775807) := by
  obtain ⟨cs, rfl, _⟩ := okWide_struct Tryz.underlying64 hv
  obtain ⟨e, hK, hB⟩ := opens_idn.value ht
  have hK' : cs.toList = idC e := hK
  refine ⟨e, ?_, hB⟩
  rw [show cs = (idC e).toArray from Array.toList_inj.1 (hK'.trans (by rfl))]
end Go.Proofs.YtlmacaenbililaaGreatDoor
