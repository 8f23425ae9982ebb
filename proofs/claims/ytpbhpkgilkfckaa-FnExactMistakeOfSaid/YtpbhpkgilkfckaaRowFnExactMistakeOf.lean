/- FnExactMistakeOf: for all arguments MistakeOf of the program and of the reference agree. No condition beyond the statement's own. -/
import Derived.Test.YtpbhpkgilkfckaaRows
import Derived.Test.YtpbhpkgilkfckaaQFnExactMistakeOfx6
import Derived.Test.YtpbhpkgilkfckaaPureFnExactMistakeOf
import Derived.Test.YtpbhpkgilkfckaaOpen
import Derived.WalkKit
import Derived.ProofKit
import Derived.OpenShut
import Derived.ShutString
import Derived.ChangeOld
import Derived.Below
import Derived.SizedLaws
namespace Go.Proofs.Ytpbhpkgilkfckaa.fnExactMistakeOf
open Go.ChangeShapes Go.WideShapes Go.ChangeAt Go.RowKit Go.Proofs.YtpbhpkgilkfckaaW.PrintWords
open Go.Proofs.Ytpbhpkgilkfckaa.Open hiding pick_lt
set_option linter.unusedVariables false
theorem own : ownKnob Try.prog.godebug = none := by kernel_rfl
theorem laidOut : laidOutB Try.prog = true := by kernel_rfl
set_option maxRecDepth 100000 in
theorem lifted (os : Os) (started : os.Started) (H : Type) (enc : TypeId × Value → H) :
    ReturnsInHanded {} Try.checked os 5 .any (Rows.fnExactMistakeOfSpec.pre6 enc Try.prog Try.f5 Rows.fnExactMistakeOfRow.domain false) (Rows.fnExactMistakeOfSpec.post enc Try.prog Try.f5 false true false false) := by
  refine returnsInHanded_of_change_sized (C := Try.checked) own started (by kernel_rfl) Try.func5
    (ChangeSpec.witness6 (enc := enc) (C := Try.checked) false ⟨#[], #[.agg #[.int .i64 0, .int .i64 0, .int .i64 0, .int .i64 0], .agg #[.int .i64 0, .int .i64 0, .int .i64 0, .int .i64 0]], []⟩ 8 (by kernel_rfl) (by kernel_rfl) (by kernel_rfl) (by kernel_rfl)) ?_
  intro W base args ds gs before hval0 hW hcnd hsz0 _
  have hval : ∀ (j : Nat) t v, Try.f5.params[j]? = some t → args[j]? = some v → Value.okWide Try.prog W .any base t v := hval0
  have hW' := hW
  obtain ⟨p, q, hA0, hV, rfl, hfz, hnd⟩ := hW
  have hA : DataW.TrodAll enc Try.prog W 0 (fun _ => true) true Try.f5.params.toList args.toList ds p := hA0
  rw [Try.params5] at hA hval
  obtain ⟨v0, vs0, d0, ds0, p0, q0, hargs, rfl, rfl, h0, r_0⟩ := trodAll_cons hA
  obtain ⟨v1, vs1, d1, ds1, p1, q1, rfl, rfl, rfl, h1, r_1⟩ := trodAll_cons r_0
  obtain ⟨rfl, rfl, rfl⟩ := trodAll_nil r_1
  obtain rfl : args = #[v0, v1] := by cases args; simp_all
  obtain ⟨rfl, rfl⟩ := trodVars_none hV
  obtain ⟨cs0, rfl, _⟩ := okWide_struct Try.underlying39 (hval 0 39 v0 rfl rfl)
  have k0 := h0
  have lt0 : ∀ x ∈ p0, x.block < W.heap.size := by obtain ⟨m, hm⟩ := k0; exact DataW.trod_lt m _ _ _ hm
  obtain ⟨fuel0, hf0⟩ := h0
  obtain ⟨⟨u0_0, u0_1, u0_2, u0_3⟩, K0, ⟨g0_0, g0_1, g0_2, g0_3⟩⟩ := (opens_struct4 Try.underlying39 (by kernel_rfl) ⟨rfl, by kernel_rfl⟩ ⟨rfl, by kernel_rfl⟩ ⟨rfl, by kernel_rfl⟩ ⟨rfl, by kernel_rfl⟩ (fun m _ => (opens_int Try.underlying3)) (fun m _ => (opens_int Try.underlying3)) (fun m _ => (opens_int Try.underlying3)) (fun m _ => (opens_int Try.underlying3))) _ _ hf0
  obtain ⟨x0_0, y0_0, e0_0, K0_0, R0_0⟩ := K0
  obtain ⟨x0_1, y0_1, e0_1, K0_1, R0_1⟩ := R0_0
  obtain ⟨x0_2, y0_2, e0_2, K0_2, R0_2⟩ := R0_1
  have K0_3 := R0_2
  have q0_0 : x0_0 = [.int .i64 u0_0] := K0_0
  have q0_1 : x0_1 = [.int .i64 u0_1] := K0_1
  have q0_2 : x0_2 = [.int .i64 u0_2] := K0_2
  have q0_3 : y0_2 = [.int .i64 u0_3] := K0_3
  obtain rfl : cs0 = #[.int .i64 u0_0, .int .i64 u0_1, .int .i64 u0_2, .int .i64 u0_3] := by
    have z_ : cs0.toList = [.int .i64 u0_0, .int .i64 u0_1, .int .i64 u0_2, .int .i64 u0_3] := by
      have z2_ := e0_0
      rw [q0_0, e0_1, q0_1, e0_2, q0_2, q0_3] at z2_
      exact z2_
    cases cs0
    simpa using z_
  obtain ⟨cs1, rfl, _⟩ := okWide_struct Try.underlying39 (hval 1 39 v1 rfl rfl)
  have k1 := h1
  have lt1 : ∀ x ∈ p1, x.block < W.heap.size := by obtain ⟨m, hm⟩ := k1; exact DataW.trod_lt m _ _ _ hm
  obtain ⟨fuel1, hf1⟩ := h1
  obtain ⟨⟨u1_0, u1_1, u1_2, u1_3⟩, K1, ⟨g1_0, g1_1, g1_2, g1_3⟩⟩ := (opens_struct4 Try.underlying39 (by kernel_rfl) ⟨rfl, by kernel_rfl⟩ ⟨rfl, by kernel_rfl⟩ ⟨rfl, by kernel_rfl⟩ ⟨rfl, by kernel_rfl⟩ (fun m _ => (opens_int Try.underlying3)) (fun m _ => (opens_int Try.underlying3)) (fun m _ => (opens_int Try.underlying3)) (fun m _ => (opens_int Try.underlying3))) _ _ hf1
  obtain ⟨x1_0, y1_0, e1_0, K1_0, R1_0⟩ := K1
  obtain ⟨x1_1, y1_1, e1_1, K1_1, R1_1⟩ := R1_0
  obtain ⟨x1_2, y1_2, e1_2, K1_2, R1_2⟩ := R1_1
  have K1_3 := R1_2
  have q1_0 : x1_0 = [.int .i64 u1_0] := K1_0
  have q1_1 : x1_1 = [.int .i64 u1_1] := K1_1
  have q1_2 : x1_2 = [.int .i64 u1_2] := K1_2
  have q1_3 : y1_2 = [.int .i64 u1_3] := K1_3
  obtain rfl : cs1 = #[.int .i64 u1_0, .int .i64 u1_1, .int .i64 u1_2, .int .i64 u1_3] := by
    have z_ : cs1.toList = [.int .i64 u1_0, .int .i64 u1_1, .int .i64 u1_2, .int .i64 u1_3] := by
      have z2_ := e1_0
      rw [q1_0, e1_1, q1_1, e1_2, q1_2, q1_3] at z2_
      exact z2_
    cases cs1
    simpa using z_
  clear hA0 hval0 hsz0
  obtain ⟨k, hk⟩ := Pure.FnExactMistakeOf u0_0 u0_1 u0_2 u0_3 u1_0 u1_1 u1_2 u1_3 g0_0 g0_1 g0_2 g0_3 g1_0 g1_1 g1_2 g1_3
  refine (PFnExactMistakeOf.laws_FnExactMistakeOf.calls k u0_0 u0_1 u0_2 u0_3 u1_0 u1_1 u1_2 u1_3 true W  hk).mono fun e W' ⟨he, bel⟩ => ?_
  subst he
  exact ⟨_, rfl, _, _, _, [], _, [], hW', trodAll_mk1 (shut_bool Try.underlying4 _), (trodAll_cons_mk (Below.trod laidOut (by kernel_rfl) (of_decide_eq_true (by kernel_rfl)) k0 bel lt0) (trodAll_cons_mk (Below.trod laidOut (by kernel_rfl) (of_decide_eq_true (by kernel_rfl)) k1 bel lt1) trodAll_mk0)), rfl, bel.frame _, fun h => by cases h⟩
theorem over : Rows.fnExactMistakeOfRow.holds Try.pinned (OpenSpec.ofChange Rows.fnExactMistakeOfSpec) :=
  OpenClaim.holds_of_wide 5 Try.f5 rfl rfl rfl rfl rfl rfl rfl ⟨rfl, rfl, rfl, rfl, rfl⟩ rfl rfl rfl rfl rfl (by kernel_rfl) Try.func5 (by kernel_rfl)
    (of_decide_eq_true (by kernel_rfl)) (by unfold Func.isWrapper; first | (rw [if_pos (by decide +kernel)]; kernel_rfl) | (rw [if_neg (by decide +kernel)]; exact ⟨rfl, rfl⟩))
    (fun os started H enc _ => lifted os started H enc)
theorem proved : Rows.FnExactMistakeOfSaid := over
#print axioms proved
end Go.Proofs.Ytpbhpkgilkfckaa.fnExactMistakeOf
namespace Go.Proofs.Ytpbhpkgilkfckaa
/-- The row, under a short name, for the claim. -/
theorem fnExactMistakeOf_holds : Rows.FnExactMistakeOfSaid := fnExactMistakeOf.proved
end Go.Proofs.Ytpbhpkgilkfckaa
