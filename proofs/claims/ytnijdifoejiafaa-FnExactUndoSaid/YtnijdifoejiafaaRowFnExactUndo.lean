/- FnExactUndo: for all arguments Undo of the program and of the reference agree, and memory is kept apart. No condition beyond the statement's own. -/
import Derived.Test.YtnijdifoejiafaaRows
import Derived.Test.YtnijdifoejiafaaQFnExactUndox3
import Derived.Test.YtnijdifoejiafaaPureFnExactUndo
import Derived.Test.YtnijdifoejiafaaOpen
import Derived.WalkKit
import Derived.ProofKit
import Derived.OpenShut
import Derived.ShutString
import Derived.ChangeOld
import Derived.Below
import Derived.SizedLaws
namespace Go.Proofs.Ytnijdifoejiafaa.fnExactUndo
open Go.ChangeShapes Go.WideShapes Go.ChangeAt Go.RowKit Go.Proofs.YtnijdifoejiafaaW.PrintWords
open Go.Proofs.Ytnijdifoejiafaa.Open hiding pick_lt
set_option linter.unusedVariables false
theorem own : ownKnob Try.prog.godebug = none := by kernel_rfl
theorem laidOut : laidOutB Try.prog = true := by kernel_rfl
set_option maxRecDepth 100000 in
theorem lifted (os : Os) (started : os.Started) (H : Type) (enc : TypeId × Value → H) :
    ReturnsInHanded {} Try.checked os 7 .any (Rows.fnExactUndoSpec.pre6 enc Try.prog Try.f7 Rows.fnExactUndoRow.domain false) (Rows.fnExactUndoSpec.post enc Try.prog Try.f7 false true false false) := by
  refine returnsInHanded_of_change_sized (C := Try.checked) own started (by kernel_rfl) Try.func7
    (ChangeSpec.witness6 (enc := enc) (C := Try.checked) false ⟨#[], #[.slice none 0 0], []⟩ 8 (by kernel_rfl) (by kernel_rfl) (by kernel_rfl) (by kernel_rfl)) ?_
  intro W base args ds gs before hval0 hW hcnd hsz0 _
  have hval : ∀ (j : Nat) t v, Try.f7.params[j]? = some t → args[j]? = some v → Value.okWide Try.prog W .any base t v := hval0
  have hW' := hW
  obtain ⟨p, q, hA0, hV, rfl, hfz, hnd⟩ := hW
  have hA : DataW.TrodAll enc Try.prog W 0 (fun _ => true) true Try.f7.params.toList args.toList ds p := hA0
  rw [Try.params7] at hA hval
  obtain ⟨v0, vs0, d0, ds0, p0, q0, hargs, rfl, rfl, h0, r_0⟩ := trodAll_cons hA
  obtain ⟨rfl, rfl, rfl⟩ := trodAll_nil r_0
  obtain rfl : args = #[v0] := by cases args; simp_all
  obtain ⟨rfl, rfl⟩ := trodVars_none hV
  obtain ⟨a0, len0, cap0, rfl⟩ := okWide_slice Try.underlying37 (hval 0 37 v0 rfl rfl)
  have k0 := h0
  have lt0 : ∀ x ∈ p0, x.block < W.heap.size := by obtain ⟨m, hm⟩ := k0; exact DataW.trod_lt m _ _ _ hm
  obtain ⟨l0, rfl, r0, c0, m0, g0⟩ := open_slice_arg (d := PFnExactUndo.k86) Try.underlying37 (by kernel_rfl) (fun n => (opens_iso (fun v => (⟨v.1, v.2.1, v.2.2.1, v.2.2.2⟩ : PFnExactUndo.S86)) (fun _ => rfl) (opens_struct4 Try.underlying86 (by kernel_rfl) ⟨rfl, by kernel_rfl⟩ ⟨rfl, by kernel_rfl⟩ ⟨rfl, by kernel_rfl⟩ ⟨rfl, by kernel_rfl⟩ (fun m _ => (opens_int Try.underlying3)) (fun m _ => (opens_int Try.underlying3)) (fun m _ => (opens_int Try.underlying3)) (fun m _ => (opens_int Try.underlying3))))) h0
  clear hA0 hval0 hsz0
  obtain ⟨k, hk⟩ := Pure.FnExactUndo l0 m0 g0
  refine (PFnExactUndo.laws_FnExactUndo.calls k _ _ l0 true W r0 c0 hk).mono fun e W' ⟨he, bel⟩ => ?_
  subst he
  exact ⟨_, rfl, _, _, _, [], _, [], hW', trodAll_mk1 (shut_bool Try.underlying4 _), (trodAll_cons_mk (Below.trod laidOut (by kernel_rfl) (of_decide_eq_true (by kernel_rfl)) k0 bel lt0) trodAll_mk0), rfl, bel.frame _, fun h => by cases h⟩
theorem over : Rows.fnExactUndoRow.holds Try.pinned (OpenSpec.ofChange Rows.fnExactUndoSpec) :=
  OpenClaim.holds_of_wide 7 Try.f7 rfl rfl rfl rfl rfl rfl rfl ⟨rfl, rfl, rfl, rfl, rfl⟩ rfl rfl rfl rfl rfl (by kernel_rfl) Try.func7 (by kernel_rfl)
    (of_decide_eq_true (by kernel_rfl)) (by unfold Func.isWrapper; first | (rw [if_pos (by decide +kernel)]; kernel_rfl) | (rw [if_neg (by decide +kernel)]; exact ⟨rfl, rfl⟩))
    (fun os started H enc _ => lifted os started H enc)
theorem proved : Rows.FnExactUndoSaid := over
#print axioms proved
end Go.Proofs.Ytnijdifoejiafaa.fnExactUndo
namespace Go.Proofs.Ytnijdifoejiafaa
/-- The row, under a short name, for the claim. -/
theorem fnExactUndo_holds : Rows.FnExactUndoSaid := fnExactUndo.proved
end Go.Proofs.Ytnijdifoejiafaa
