/- PartPlays: the statement. No conditions. -/
import Derived.Test.YtaapejhoegeimaaRows
import Derived.Test.YtaapejhoegeimaaPlaysw
import Derived.Test.YtaapejhoegeimaaOpens
import Derived.WalkKit
import Derived.ProofKit
import Derived.OpenShut
import Derived.ShutString
import Derived.ChangeOld
import Derived.Below
import Derived.Carry
import Derived.Lib.SmallJoins
namespace Go.Proofs.Ytaapejhoegeimaa.partPlaysDone
open Go.ChangeShapes Go.WideShapes Go.ChangeAt Go.RowKit
open Go.ChangeMaps (open_string shut_string)
open Go.Proofs.YtaapejhoegeimaaW.PrintWords Go.Proofs.Ytaapejhoegeimaa.PPartPlays
set_option linter.unusedVariables false

theorem own : ownKnob Try.prog.godebug = none := by kernel_rfl
theorem laidOut : laidOutB Try.prog = true := by kernel_rfl
theorem o24 : Opens Try.prog 24 k24 (fun _ => True) :=
  opens_imp (opens_iso _ (fun a => ⟨a.1, a.2⟩) (fun _ => rfl) (opens_struct Try.underlying24 (by kernel_rfl) (opensF_cons rfl (by kernel_rfl) (opens_int Try.underlying22) (opensF_one rfl (by kernel_rfl) (opens_int Try.underlying22))))) (fun _ _ => trivial)
theorem o34 : Opens Try.prog 34 k34 (fun _ => True) :=
  opens_imp (opens_iso _ (fun a => ⟨a.1, a.2.1, a.2.2⟩) (fun _ => rfl) (opens_struct Try.underlying34 (by kernel_rfl) (opensF_cons rfl (by kernel_rfl) o24 (opensF_cons rfl (by kernel_rfl) (opens_int Try.underlying3) (opensF_one rfl (by kernel_rfl) (opens_int Try.underlying3)))))) (fun _ _ => trivial)
theorem o89 : Opens Try.prog 89 k89 (fun _ => True) :=
  opens_imp (opens_iso _ (fun a => ⟨a.1, a.2.1, a.2.2.1, a.2.2.2.1, a.2.2.2.2.1, a.2.2.2.2.2⟩) (fun _ => rfl) (opens_struct Try.underlying89 (by kernel_rfl) (opensF_cons rfl (by kernel_rfl) (opens_int Try.underlying3) (opensF_cons rfl (by kernel_rfl) (opens_int Try.underlying3) (opensF_cons rfl (by kernel_rfl) o24 (opensF_cons rfl (by kernel_rfl) (opens_int Try.underlying3) (opensF_cons rfl (by kernel_rfl) (opens_int Try.underlying22) (opensF_one rfl (by kernel_rfl) (opens_string Try.underlying9))))))))) (fun _ _ => trivial)
theorem oMsgs : Opens Try.prog 35 (Kd.slice 89 k89) (fun _ => True) := opens_imp (opens_slice _ Try.underlying35 o89 (by kernel_rfl)) (fun _ _ => trivial)
theorem o37 : Opens Try.prog 37 k37 (fun _ => True) :=
  opens_imp (opens_iso _ (fun a => ⟨a.1, a.2.1, a.2.2.1, a.2.2.2⟩) (fun _ => rfl) (opens_struct Try.underlying37 (by kernel_rfl) (opensF_cons rfl (by kernel_rfl) (opens_int Try.underlying3) (opensF_cons rfl (by kernel_rfl) oMsgs (opensF_cons rfl (by kernel_rfl) oMsgs (opensF_one rfl (by kernel_rfl) oMsgs)))))) (fun _ _ => trivial)
theorem o39 : Opens Try.prog 39 k39 (fun _ => True) :=
  opens_imp (opens_iso _ (fun a => ⟨a.1, a.2.1, a.2.2.1, a.2.2.2.1, a.2.2.2.2.1, a.2.2.2.2.2.1, a.2.2.2.2.2.2.1, a.2.2.2.2.2.2.2.1, a.2.2.2.2.2.2.2.2⟩) (fun _ => rfl) (opens_struct Try.underlying39 (by kernel_rfl)
    (opensF_cons rfl (by kernel_rfl) o34 (opensF_cons rfl (by kernel_rfl) o24 (opensF_cons rfl (by kernel_rfl) (opens_int Try.underlying3) (opensF_cons rfl (by kernel_rfl) (opens_bool Try.underlying4) (opensF_cons rfl (by kernel_rfl) o24 (opensF_cons rfl (by kernel_rfl) (opens_int Try.underlying3) (opensF_cons rfl (by kernel_rfl) (opens_string Try.underlying9) (opensF_cons rfl (by kernel_rfl) (opens_bool Try.underlying4) (opensF_one rfl (by kernel_rfl) o37))))))))))) (fun _ _ => trivial)
theorem oAct : Opens Try.prog 41 kAct (fun x => (Lit.int .u8 x.1).wf = true) :=
  opens_imp (opens_struct Try.underlying41 (by kernel_rfl) (opensF_cons rfl (by kernel_rfl) (opens_int Try.underlying5) (opensF_cons rfl (by kernel_rfl) o39 (opensF_one rfl (by kernel_rfl) (opens_int Try.underlying3))))) (fun _ h => h.1)
theorem oActs : Opens Try.prog 25 (Kd.slice 41 kAct) (fun l => ∀ x ∈ l, (Lit.int .u8 x.1).wf = true) := opens_slice _ Try.underlying25 oAct (by kernel_rfl)
set_option maxRecDepth 100000 in
theorem lifted (os : Os) (started : os.Started) (H : Type) (enc : TypeId × Value → H) :
    ReturnsInHanded {} Try.checked os 3 .any (Rows.partPlaysSpec.pre6 enc Try.prog Try.f3 Rows.partPlaysRow.domain false) (Rows.partPlaysSpec.post enc Try.prog Try.f3 false true false false) := by
  refine returnsInHanded_of_change (C := Try.checked) own started (by kernel_rfl) Try.func3
    (ChangeSpec.witness6 (enc := enc) (C := Try.checked) false ⟨#[], #[.agg #[.int .u16 0, .int .u16 0], .slice none 0 0], []⟩ 8 (by kernel_rfl) (by kernel_rfl) (by kernel_rfl) (by kernel_rfl)) ?_
  intro W base args ds gs before hval0 hW hcnd _
  have hval : ∀ (j : Nat) t v, Try.f3.params[j]? = some t → args[j]? = some v → Value.okWide Try.prog W .any base t v := hval0
  have hW' := hW
  obtain ⟨p, q, hA0, hV, rfl, hfz, hnd⟩ := hW
  have hA : DataW.TrodAll enc Try.prog W 0 (fun _ => true) true Try.f3.params.toList args.toList ds p := hA0
  rw [Try.params3] at hA hval
  obtain ⟨v0, vs0, d0, ds0, p0, q0, hargs, rfl, rfl, h0, r0⟩ := trodAll_cons hA
  obtain ⟨v1, vs1, d1, ds1, p1, q1, rfl, rfl, rfl, h1, r1⟩ := trodAll_cons r0
  obtain ⟨rfl, rfl, rfl⟩ := trodAll_nil r1
  obtain rfl : args = #[v0, v1] := by cases args; simp_all
  obtain ⟨rfl, rfl⟩ := trodVars_none hV
  have k0 := h0
  have lt0 : ∀ x ∈ p0, x.block < W.heap.size := by obtain ⟨m, hm⟩ := k0; exact DataW.trod_lt m _ _ _ hm
  have k1 := h1
  have lt1 : ∀ x ∈ p1, x.block < W.heap.size := by obtain ⟨m, hm⟩ := k1; exact DataW.trod_lt m _ _ _ hm
  obtain ⟨c0, c1, y0, y1, n0, rfl, _, _, t0, t1⟩ := Go.Joins.open_agg2 Try.underlying24 (by kernel_rfl) (by kernel_rfl) (hval 0 24 v0 rfl rfl) h0
  obtain ⟨S, e0, _⟩ := DataW.trod_int Try.underlying22 t0
  obtain ⟨I, e1, _⟩ := DataW.trod_int Try.underlying22 t1
  obtain rfl : c0 = .int .u16 S := by simpa using e0
  obtain rfl : c1 = .int .u16 I := by simpa using e1
  obtain ⟨ao, len, cap, rfl⟩ := okWide_slice Try.underlying25 (hval 1 25 v1 rfl rfl)
  obtain ⟨l, c', hlen, hC, hB⟩ : ∃ (l : List (Int × S39 × Int)) (c' : Nat), len = l.length ∧ Kd.C kAct W ao l.length l ∧ ∀ x ∈ l, (Lit.int .u8 x.1).wf = true := by
    obtain ⟨fuel, hf⟩ := h1
    obtain ⟨l, ⟨A, c, he, _, hC⟩, hB⟩ := oActs.out enc W 0 _ true fuel _ _ hf
    obtain ⟨rfl, rfl, rfl⟩ : ao = A ∧ len = l.length ∧ cap = c := by simpa [Value.cells] using he
    exact ⟨l, cap, rfl, hC, hB⟩
  subst hlen
  have hk : ∀ x ∈ l, 0 ≤ x.1 ∧ x.1 ≤ 255 := fun x hx => by
    have hw := hB x hx
    simp [Lit.wf, IntKind.min, IntKind.max, IntKind.signed, IntKind.bits] at hw
    omega
  clear hA0 hval0
  refine (plays_ok S I ao cap l hk W hC).mono fun e W' ⟨he, bel⟩ => ?_
  subst he
  exact ⟨_, rfl, _, _, _, [], _, [], hW', trodAll_mk1 (shut_bool Try.underlying4 _), (trodAll_cons_mk (Below.trod laidOut (by kernel_rfl) (of_decide_eq_true (by kernel_rfl)) k0 bel lt0) (trodAll_cons_mk (Below.trod laidOut (by kernel_rfl) (of_decide_eq_true (by kernel_rfl)) k1 bel lt1) trodAll_mk0)), rfl, bel.frame _, fun h => by cases h⟩

theorem over : Rows.partPlaysRow.holds Try.pinned (OpenSpec.ofChange Rows.partPlaysSpec) :=
  OpenClaim.holds_of_wide 3 Try.f3 rfl rfl rfl rfl rfl rfl rfl ⟨rfl, rfl, rfl, rfl, rfl⟩ rfl rfl rfl rfl rfl (by kernel_rfl) Try.func3 (by kernel_rfl)
    (of_decide_eq_true (by kernel_rfl)) (by unfold Func.isWrapper; first | (rw [if_pos (by decide +kernel)]; kernel_rfl) | (rw [if_neg (by decide +kernel)]; exact ⟨rfl, rfl⟩))
    (fun os started H enc _ => lifted os started H enc)

/-- THE STATEMENT. -/
theorem proved : Rows.PartPlaysSaid := over
#print axioms proved
end Go.Proofs.Ytaapejhoegeimaa.partPlaysDone
