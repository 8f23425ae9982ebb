/- FnExactOwedAfter: for all arguments OwedAfter of the program and of the reference agree, and memory is kept apart. No condition beyond the statement's own. -/
import Derived.Test.YtdcapmgebjifpaaRows
import Derived.Test.YtdcapmgebjifpaaPFnExactOwedAfterx2
import Derived.Test.YtdcapmgebjifpaaPureFnExactOwedAfter
import Derived.Test.YtdcapmgebjifpaaOpen
import Derived.WalkKit
import Derived.ProofKit
import Derived.OpenShut
import Derived.ShutString
import Derived.ChangeOld
import Derived.Below
import Derived.SizedLaws
namespace Go.Proofs.Ytdcapmgebjifpaa.fnExactOwedAfter
open Go.ChangeShapes Go.WideShapes Go.ChangeAt Go.RowKit Go.Proofs.YtdcapmgebjifpaaW.PrintWords
open Go.Proofs.Ytdcapmgebjifpaa.Open hiding pick_lt
set_option linter.unusedVariables false
theorem own : ownKnob Try.prog.godebug = none := by kernel_rfl
theorem laidOut : laidOutB Try.prog = true := by kernel_rfl
set_option maxRecDepth 100000 in
theorem lifted (os : Os) (started : os.Started) (H : Type) (enc : TypeId × Value → H) :
    ReturnsInHanded {} Try.checked os 7 .any (Rows.fnExactOwedAfterSpec.pre6 enc Try.prog Try.f7 Rows.fnExactOwedAfterRow.domain false) (Rows.fnExactOwedAfterSpec.post enc Try.prog Try.f7 false true false false) := by
  refine returnsInHanded_of_change_sized (C := Try.checked) own started (by kernel_rfl) Try.func7
    (ChangeSpec.witness6 (enc := enc) (C := Try.checked) false ⟨#[], #[.int .i64 0, .agg #[.int .i64 0, .int .i64 0], .int .i64 0], []⟩ 8 (by kernel_rfl) (by kernel_rfl) (by kernel_rfl) (by kernel_rfl)) ?_
  intro W base args ds gs before hval0 hW hcnd hsz0 _
  have hval : ∀ (j : Nat) t v, Try.f7.params[j]? = some t → args[j]? = some v → Value.okWide Try.prog W .any base t v := hval0
  have hW' := hW
  obtain ⟨p, q, hA0, hV, rfl, hfz, hnd⟩ := hW
  have hA : DataW.TrodAll enc Try.prog W 0 (fun _ => true) true Try.f7.params.toList args.toList ds p := hA0
  rw [Try.params7] at hA hval
  obtain ⟨v0, vs0, d0, ds0, p0, q0, hargs, rfl, rfl, h0, r_0⟩ := trodAll_cons hA
  obtain ⟨v1, vs1, d1, ds1, p1, q1, rfl, rfl, rfl, h1, r_1⟩ := trodAll_cons r_0
  obtain ⟨v2, vs2, d2, ds2, p2, q2, rfl, rfl, rfl, h2, r_2⟩ := trodAll_cons r_1
  obtain ⟨rfl, rfl, rfl⟩ := trodAll_nil r_2
  obtain rfl : args = #[v0, v1, v2] := by cases args; simp_all
  obtain ⟨rfl, rfl⟩ := trodVars_none hV
  obtain ⟨a0, rfl, rfl, rfl, w0⟩ := open_int Try.underlying3 (hval 0 3 v0 rfl rfl) h0
  obtain ⟨cs1, rfl, _⟩ := okWide_struct Try.underlying47 (hval 1 47 v1 rfl rfl)
  have k1 := h1
  have lt1 : ∀ x ∈ p1, x.block < W.heap.size := by obtain ⟨m, hm⟩ := k1; exact DataW.trod_lt m _ _ _ hm
  obtain ⟨fuel1, hf1⟩ := h1
  obtain ⟨⟨u1_0, u1_1⟩, K1, ⟨g1_0, g1_1⟩⟩ := (opens_struct2 Try.underlying47 (by kernel_rfl) ⟨rfl, by kernel_rfl⟩ ⟨rfl, by kernel_rfl⟩ (fun m _ => (opens_int Try.underlying3)) (fun m _ => (opens_int Try.underlying3))) _ _ hf1
  obtain ⟨x1_0, y1_0, e1_0, K1_0, R1_0⟩ := K1
  have K1_1 := R1_0
  have q1_0 : x1_0 = [.int .i64 u1_0] := K1_0
  have q1_1 : y1_0 = [.int .i64 u1_1] := K1_1
  obtain rfl : cs1 = #[.int .i64 u1_0, .int .i64 u1_1] := by
    have z_ : cs1.toList = [.int .i64 u1_0, .int .i64 u1_1] := by
      have z2_ := e1_0
      rw [q1_0, q1_1] at z2_
      exact z2_
    cases cs1
    simpa using z_
  obtain ⟨a2, rfl, rfl, rfl, w2⟩ := open_int Try.underlying3 (hval 2 3 v2 rfl rfl) h2
  clear hA0 hval0 hsz0
  obtain ⟨k, hk⟩ := Pure.FnExactOwedAfter a0 u1_0 u1_1 a2 w0 g1_0 g1_1 w2
  refine (PFnExactOwedAfter.laws_FnExactOwedAfter.calls k a0 u1_0 u1_1 a2 true W  hk).mono fun e W' ⟨he, bel⟩ => ?_
  subst he
  exact ⟨_, rfl, _, _, _, [], _, [], hW', trodAll_mk1 (shut_bool Try.underlying4 _), (trodAll_cons_mk (shut_int Try.underlying3 w0) (trodAll_cons_mk (Below.trod laidOut (by kernel_rfl) (of_decide_eq_true (by kernel_rfl)) k1 bel lt1) (trodAll_cons_mk (shut_int Try.underlying3 w2) trodAll_mk0))), rfl, bel.frame _, fun h => by cases h⟩
theorem over : Rows.fnExactOwedAfterRow.holds Try.pinned (OpenSpec.ofChange Rows.fnExactOwedAfterSpec) :=
  OpenClaim.holds_of_wide 7 Try.f7 rfl rfl rfl rfl rfl rfl rfl ⟨rfl, rfl, rfl, rfl, rfl⟩ rfl rfl rfl rfl rfl (by kernel_rfl) Try.func7 (by kernel_rfl)
    (of_decide_eq_true (by kernel_rfl)) (by unfold Func.isWrapper; first | (rw [if_pos (by decide +kernel)]; kernel_rfl) | (rw [if_neg (by decide +kernel)]; exact ⟨rfl, rfl⟩))
    (fun os started H enc _ => lifted os started H enc)
theorem proved : Rows.FnExactOwedAfterSaid := over
#print axioms proved
end Go.Proofs.Ytdcapmgebjifpaa.fnExactOwedAfter
namespace Go.Proofs.Ytdcapmgebjifpaa
/-- The row, under a short name, for the claim. -/
theorem fnExactOwedAfter_holds : Rows.FnExactOwedAfterSaid := fnExactOwedAfter.proved
end Go.Proofs.Ytdcapmgebjifpaa
