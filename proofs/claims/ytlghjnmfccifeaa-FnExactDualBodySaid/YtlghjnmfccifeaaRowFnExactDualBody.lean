/- FnExactDualBody: for all arguments DualBody of the program and of the reference agree, and memory is kept apart. No condition beyond the statement's own. -/
import Derived.Test.YtlghjnmfccifeaaRows
import Derived.Test.YtlghjnmfccifeaaQFnExactDualBodyx4
import Derived.Test.YtlghjnmfccifeaaPureFnExactDualBody
import Derived.Test.YtlghjnmfccifeaaOpen
import Derived.WalkKit
import Derived.ProofKit
import Derived.OpenShut
import Derived.ShutString
import Derived.ChangeOld
import Derived.Below
import Derived.SizedLaws
namespace Go.Proofs.Ytlghjnmfccifeaa.fnExactDualBody
open Go.ChangeShapes Go.WideShapes Go.ChangeAt Go.RowKit Go.Proofs.YtlghjnmfccifeaaW.PrintWords
open Go.Proofs.Ytlghjnmfccifeaa.Open hiding pick_lt
set_option linter.unusedVariables false
theorem own : ownKnob Try.prog.godebug = none := by kernel_rfl
theorem laidOut : laidOutB Try.prog = true := by kernel_rfl
set_option maxRecDepth 100000 in
theorem lifted (os : Os) (started : os.Started) (H : Type) (enc : TypeId × Value → H) :
    ReturnsInHanded {} Try.checked os 9 .any (Rows.fnExactDualBodySpec.pre6 enc Try.prog Try.f9 Rows.fnExactDualBodyRow.domain false) (Rows.fnExactDualBodySpec.post enc Try.prog Try.f9 false true false false) := by
  refine returnsInHanded_of_change_sized (C := Try.checked) own started (by kernel_rfl) Try.func9
    (ChangeSpec.witness6 (enc := enc) (C := Try.checked) false ⟨#[], #[.agg #[.slice none 0 0, .int .i64 0]], []⟩ 8 (by kernel_rfl) (by kernel_rfl) (by kernel_rfl) (by kernel_rfl)) ?_
  intro W base args ds gs before hval0 hW hcnd hsz0 _
  have hval : ∀ (j : Nat) t v, Try.f9.params[j]? = some t → args[j]? = some v → Value.okWide Try.prog W .any base t v := hval0
  have hW' := hW
  obtain ⟨p, q, hA0, hV, rfl, hfz, hnd⟩ := hW
  have hA : DataW.TrodAll enc Try.prog W 0 (fun _ => true) true Try.f9.params.toList args.toList ds p := hA0
  rw [Try.params9] at hA hval
  obtain ⟨v0, vs0, d0, ds0, p0, q0, hargs, rfl, rfl, h0, r_0⟩ := trodAll_cons hA
  obtain ⟨rfl, rfl, rfl⟩ := trodAll_nil r_0
  obtain rfl : args = #[v0] := by cases args; simp_all
  obtain ⟨rfl, rfl⟩ := trodVars_none hV
  obtain ⟨cs0, rfl, _⟩ := okWide_struct Try.underlying24 (hval 0 24 v0 rfl rfl)
  have k0 := h0
  have lt0 : ∀ x ∈ p0, x.block < W.heap.size := by obtain ⟨m, hm⟩ := k0; exact DataW.trod_lt m _ _ _ hm
  obtain ⟨fuel0, hf0⟩ := h0
  obtain ⟨⟨u0_0, u0_1⟩, K0, ⟨g0_0, g0_1⟩⟩ := (opens_struct2 Try.underlying24 (by kernel_rfl) ⟨rfl, by kernel_rfl⟩ ⟨rfl, by kernel_rfl⟩ (fun m _ => (opens_slice (e' := 3) Try.underlying22 (by kernel_rfl) (fun m _ => (opens_int Try.underlying3)))) (fun m _ => (opens_int Try.underlying3))) _ _ hf0
  obtain ⟨x0_0, y0_0, e0_0, K0_0, R0_0⟩ := K0
  have K0_1 := R0_0
  obtain ⟨A0_0, c0_0, q0_0, hc0_0, hr0_0⟩ := K0_0
  have q0_1 : y0_0 = [.int .i64 u0_1] := K0_1
  obtain rfl : cs0 = #[.slice A0_0 u0_0.length c0_0, .int .i64 u0_1] := by
    have z_ : cs0.toList = [.slice A0_0 u0_0.length c0_0, .int .i64 u0_1] := by
      have z2_ := e0_0
      rw [q0_0, q0_1] at z2_
      exact z2_
    cases cs0
    simpa using z_
  clear hA0 hval0 hsz0
  obtain ⟨k, hk⟩ := Pure.FnExactDualBody u0_0 u0_1 g0_0.1 g0_0.2 g0_1
  refine (PFnExactDualBody.laws_FnExactDualBody.calls k _ _ u0_0 u0_1 true W hr0_0 hc0_0 hk rfl).mono fun e W' ⟨he, bel⟩ => ?_
  subst he
  exact ⟨_, rfl, _, _, _, [], _, [], hW', trodAll_mk1 (shut_bool Try.underlying4 _), (trodAll_cons_mk (Below.trod laidOut (by kernel_rfl) (of_decide_eq_true (by kernel_rfl)) k0 bel lt0) trodAll_mk0), rfl, bel.frame _, fun h => by cases h⟩
theorem over : Rows.fnExactDualBodyRow.holds Try.pinned (OpenSpec.ofChange Rows.fnExactDualBodySpec) :=
  OpenClaim.holds_of_wide 9 Try.f9 rfl rfl rfl rfl rfl rfl rfl ⟨rfl, rfl, rfl, rfl, rfl⟩ rfl rfl rfl rfl rfl (by kernel_rfl) Try.func9 (by kernel_rfl)
    (of_decide_eq_true (by kernel_rfl)) (by unfold Func.isWrapper; first | (rw [if_pos (by decide +kernel)]; kernel_rfl) | (rw [if_neg (by decide +kernel)]; exact ⟨rfl, rfl⟩))
    (fun os started H enc _ => lifted os started H enc)
theorem proved : Rows.FnExactDualBodySaid := over
#print axioms proved
end Go.Proofs.Ytlghjnmfccifeaa.fnExactDualBody
namespace Go.Proofs.Ytlghjnmfccifeaa
/-- The row, under a short name, for the claim. -/
theorem fnExactDualBody_holds : Rows.FnExactDualBodySaid := fnExactDualBody.proved
end Go.Proofs.Ytlghjnmfccifeaa
