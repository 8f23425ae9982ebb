/- FnExactPasses: for all arguments Passes of the program and of the reference agree, and the arguments are left as they were. No condition beyond the statement's own. -/
import Derived.Test.YthlgmdlnfkmnhaaRows
import Derived.Test.YthlgmdlnfkmnhaaPFnExactPassesx5
import Derived.Test.YthlgmdlnfkmnhaaPureFnExactPasses
import Derived.Test.YthlgmdlnfkmnhaaOpen
import Derived.WalkKit
import Derived.ProofKit
import Derived.OpenShut
import Derived.ShutString
import Derived.ChangeOld
import Derived.Below
import Derived.SizedLaws
namespace Go.Proofs.Ythlgmdlnfkmnhaa.fnExactPasses
open Go.ChangeShapes Go.WideShapes Go.ChangeAt Go.RowKit Go.Proofs.YthlgmdlnfkmnhaaW.PrintWords
open Go.Proofs.Ythlgmdlnfkmnhaa.Open hiding pick_lt
set_option linter.unusedVariables false
theorem own : ownKnob Try.prog.godebug = none := by kernel_rfl
theorem laidOut : laidOutB Try.prog = true := by kernel_rfl
set_option maxRecDepth 100000 in
theorem lifted (os : Os) (started : os.Started) (H : Type) (enc : TypeId × Value → H) :
    ReturnsInHanded {} Try.checked os 5 .any (Rows.fnExactPassesSpec.pre6 enc Try.prog Try.f5 Rows.fnExactPassesRow.domain false) (Rows.fnExactPassesSpec.post enc Try.prog Try.f5 false true false false) := by
  refine returnsInHanded_of_change_sized (C := Try.checked) own started (by kernel_rfl) Try.func5
    (ChangeSpec.witness6 (enc := enc) (C := Try.checked) false ⟨#[], #[.agg #[.slice none 0 0, .int .i64 0], .slice none 0 0, .int .i64 0, .bool false], []⟩ 8 (by kernel_rfl) (by kernel_rfl) (by kernel_rfl) (by kernel_rfl)) ?_
  intro W base args ds gs before hval0 hW hcnd hsz0 _
  have hval : ∀ (j : Nat) t v, Try.f5.params[j]? = some t → args[j]? = some v → Value.okWide Try.prog W .any base t v := hval0
  have hW' := hW
  obtain ⟨p, q, hA0, hV, rfl, hfz, hnd⟩ := hW
  have hA : DataW.TrodAll enc Try.prog W 0 (fun _ => true) true Try.f5.params.toList args.toList ds p := hA0
  rw [Try.params5] at hA hval
  obtain ⟨v0, vs0, d0, ds0, p0, q0, hargs, rfl, rfl, h0, r_0⟩ := trodAll_cons hA
  obtain ⟨v1, vs1, d1, ds1, p1, q1, rfl, rfl, rfl, h1, r_1⟩ := trodAll_cons r_0
  obtain ⟨v2, vs2, d2, ds2, p2, q2, rfl, rfl, rfl, h2, r_2⟩ := trodAll_cons r_1
  obtain ⟨v3, vs3, d3, ds3, p3, q3, rfl, rfl, rfl, h3, r_3⟩ := trodAll_cons r_2
  obtain ⟨rfl, rfl, rfl⟩ := trodAll_nil r_3
  obtain rfl : args = #[v0, v1, v2, v3] := by cases args; simp_all
  obtain ⟨rfl, rfl⟩ := trodVars_none hV
  obtain ⟨cs0, rfl, _⟩ := okWide_struct Try.underlying38 (hval 0 38 v0 rfl rfl)
  have k0 := h0
  have lt0 : ∀ x ∈ p0, x.block < W.heap.size := by obtain ⟨m, hm⟩ := k0; exact DataW.trod_lt m _ _ _ hm
  obtain ⟨fuel0, hf0⟩ := h0
  obtain ⟨⟨u0_0, u0_1⟩, K0, ⟨g0_0, g0_1⟩⟩ := (opens_struct2 Try.underlying38 (by kernel_rfl) ⟨rfl, by kernel_rfl⟩ ⟨rfl, by kernel_rfl⟩ (fun m _ => (opens_slice (e' := 3) Try.underlying23 (by kernel_rfl) (fun m _ => (opens_int Try.underlying3)))) (fun m _ => (opens_int Try.underlying3))) _ _ hf0
  obtain ⟨x0_0, y0_0, e0_0, K0_0, R0_0⟩ := K0
  have K0_1 := R0_0
  obtain ⟨A0_0, c0_0, q0_0, hc0_0, hr0_0⟩ := K0_0
  have q0_1 : y0_0 = [.int .i64 u0_1] := K0_1
  obtain rfl : cs0 = #[.slice A0_0 u0_0.length c0_0, .int .i64 u0_1] := by
    have z_ : cs0.toList = [.slice A0_0 u0_0.length c0_0, .int .i64 u0_1] := by
      have z2_ := e0_0
      rw [q0_0, q0_1] at z2_
      exact z2_
    cases cs0
    simpa using z_
  obtain ⟨a1, len1, cap1, rfl⟩ := okWide_slice Try.underlying23 (hval 1 23 v1 rfl rfl)
  have k1 := h1
  have lt1 : ∀ x ∈ p1, x.block < W.heap.size := by obtain ⟨m, hm⟩ := k1; exact DataW.trod_lt m _ _ _ hm
  obtain ⟨l1, rfl, r1, c1, m1, g1⟩ := open_slice_arg (d := (Kd.int .i64)) Try.underlying23 (by kernel_rfl) (fun n => (opens_int Try.underlying3)) h1
  obtain ⟨a2, rfl, rfl, rfl, w2⟩ := open_int Try.underlying3 (hval 2 3 v2 rfl rfl) h2
  obtain ⟨a3, rfl, rfl, rfl⟩ := open_bool Try.underlying4 (hval 3 4 v3 rfl rfl) h3
  clear hA0 hval0 hsz0
  obtain ⟨k, hk⟩ := Pure.FnExactPasses u0_0 u0_1 l1 a2 a3 g0_0.1 g0_0.2 g0_1 m1 g1 w2
  refine (PFnExactPasses.laws_FnExactPasses.calls k _ _ u0_0 u0_1 _ _ l1 a2 a3 true W hr0_0 hc0_0 r1 c1 hk).mono fun e W' ⟨he, bel⟩ => ?_
  subst he
  exact ⟨_, rfl, _, _, _, [], _, [], hW', trodAll_mk1 (shut_bool Try.underlying4 _), (trodAll_cons_mk (Below.trod laidOut (by kernel_rfl) (of_decide_eq_true (by kernel_rfl)) k0 bel lt0) (trodAll_cons_mk (Below.trod laidOut (by kernel_rfl) (of_decide_eq_true (by kernel_rfl)) k1 bel lt1) (trodAll_cons_mk (shut_int Try.underlying3 w2) (trodAll_cons_mk (shut_bool Try.underlying4 _) trodAll_mk0)))), rfl, bel.frame _, fun h => by cases h⟩
theorem over : Rows.fnExactPassesRow.holds Try.pinned (OpenSpec.ofChange Rows.fnExactPassesSpec) :=
  OpenClaim.holds_of_wide 5 Try.f5 rfl rfl rfl rfl rfl rfl rfl ⟨rfl, rfl, rfl, rfl, rfl⟩ rfl rfl rfl rfl rfl (by kernel_rfl) Try.func5 (by kernel_rfl)
    (of_decide_eq_true (by kernel_rfl)) (by unfold Func.isWrapper; first | (rw [if_pos (by decide +kernel)]; kernel_rfl) | (rw [if_neg (by decide +kernel)]; exact ⟨rfl, rfl⟩))
    (fun os started H enc _ => lifted os started H enc)
theorem proved : Rows.FnExactPassesSaid := over
#print axioms proved
end Go.Proofs.Ythlgmdlnfkmnhaa.fnExactPasses
namespace Go.Proofs.Ythlgmdlnfkmnhaa
/-- The row, under a short name, for the claim. -/
theorem fnExactPasses_holds : Rows.FnExactPassesSaid := fnExactPasses.proved
end Go.Proofs.Ythlgmdlnfkmnhaa
