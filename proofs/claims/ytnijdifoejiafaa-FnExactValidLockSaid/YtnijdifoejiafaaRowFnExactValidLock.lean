/- FnExactValidLock: for all arguments ValidLock of the program and of the reference agree, and the arguments are left as they were. No condition beyond the statement's own. -/
import Derived.Test.YtnijdifoejiafaaRows
import Derived.Test.YtnijdifoejiafaaQFnExactValidLockx5
import Derived.Test.YtnijdifoejiafaaPureFnExactValidLock
import Derived.Test.YtnijdifoejiafaaOpen
import Derived.WalkKit
import Derived.ProofKit
import Derived.OpenShut
import Derived.ShutString
import Derived.ChangeOld
import Derived.Below
import Derived.SizedLaws
namespace Go.Proofs.Ytnijdifoejiafaa.fnExactValidLock
open Go.ChangeShapes Go.WideShapes Go.ChangeAt Go.RowKit Go.Proofs.YtnijdifoejiafaaW.PrintWords
open Go.Proofs.Ytnijdifoejiafaa.Open hiding pick_lt
set_option linter.unusedVariables false
theorem own : ownKnob Try.prog.godebug = none := by kernel_rfl
theorem laidOut : laidOutB Try.prog = true := by kernel_rfl
theorem opensRec44 {H : Type} {enc : TypeId × Value → H} {W : World} : ∀ n, OpensN enc Try.prog W n 44 PFnExactValidLock.k44 Pure.bigT := by
  intro n
  induction n using Nat.strongRecOn with
  | _ n ih =>
  intro cs x hx
  obtain ⟨v, hk, hg⟩ := (opens_struct3 Try.underlying44 (by kernel_rfl) ⟨rfl, by kernel_rfl⟩ ⟨rfl, by kernel_rfl⟩ ⟨rfl, by kernel_rfl⟩ (fun m _ => (opens_int Try.underlying3)) (fun m _ => (opens_slice (e' := 3) Try.underlying35 (by kernel_rfl) (fun m _ => (opens_int Try.underlying3)))) (fun m hm_ => (opens_slice (e' := 44) Try.underlying42 (by kernel_rfl) (fun m2 hm2_ => ih m2 (by omega))))) cs x hx
  obtain ⟨x0, y0, e0, q0, x1, y1, e1, ⟨A1, c1, q1, l1, g1⟩, ⟨A2, c2, q2, l2, g2⟩⟩ := hk
  have q0_ : x0 = [.int .i64 v.1] := q0
  refine ⟨⟨v.1, v.2.1, v.2.2⟩, ?_, ?_⟩
  · rw [e0, q0_, e1, q1, q2]
    exact PFnExactValidLock.k44_mk W ⟨v.1, v.2.1, v.2.2⟩ l1 g1 l2 g2
  · rw [Pure.bigT]
    exact ⟨hg.2.1.1, hg.2.2.1, Pure.bigTL_iff.2 hg.2.2.2⟩
set_option maxRecDepth 100000 in
theorem lifted (os : Os) (started : os.Started) (H : Type) (enc : TypeId × Value → H) :
    ReturnsInHanded {} Try.checked os 8 .any (Rows.fnExactValidLockSpec.pre6 enc Try.prog Try.f8 Rows.fnExactValidLockRow.domain false) (Rows.fnExactValidLockSpec.post enc Try.prog Try.f8 false true false false) := by
  refine returnsInHanded_of_change_sized (C := Try.checked) own started (by kernel_rfl) Try.func8
    (ChangeSpec.witness6 (enc := enc) (C := Try.checked) false ⟨#[], #[.agg #[.int .i64 0, .slice none 0 0, .slice none 0 0]], []⟩ 8 (by kernel_rfl) (by kernel_rfl) (by kernel_rfl) (by kernel_rfl)) ?_
  intro W base args ds gs before hval0 hW hcnd hsz0 _
  have hval : ∀ (j : Nat) t v, Try.f8.params[j]? = some t → args[j]? = some v → Value.okWide Try.prog W .any base t v := hval0
  have hW' := hW
  obtain ⟨p, q, hA0, hV, rfl, hfz, hnd⟩ := hW
  have hA : DataW.TrodAll enc Try.prog W 0 (fun _ => true) true Try.f8.params.toList args.toList ds p := hA0
  rw [Try.params8] at hA hval
  obtain ⟨v0, vs0, d0, ds0, p0, q0, hargs, rfl, rfl, h0, r_0⟩ := trodAll_cons hA
  obtain ⟨rfl, rfl, rfl⟩ := trodAll_nil r_0
  obtain rfl : args = #[v0] := by cases args; simp_all
  obtain ⟨rfl, rfl⟩ := trodVars_none hV
  obtain ⟨cs0, rfl, _⟩ := okWide_struct Try.underlying44 (hval 0 44 v0 rfl rfl)
  have k0 := h0
  have lt0 : ∀ x ∈ p0, x.block < W.heap.size := by obtain ⟨m, hm⟩ := k0; exact DataW.trod_lt m _ _ _ hm
  obtain ⟨fuel0, hf0⟩ := h0
  obtain ⟨⟨u0_0, u0_1, u0_2⟩, K0, ⟨g0_0, g0_1, g0_2⟩⟩ := (opens_struct3 Try.underlying44 (by kernel_rfl) ⟨rfl, by kernel_rfl⟩ ⟨rfl, by kernel_rfl⟩ ⟨rfl, by kernel_rfl⟩ (fun m _ => (opens_int Try.underlying3)) (fun m _ => (opens_slice (e' := 3) Try.underlying35 (by kernel_rfl) (fun m _ => (opens_int Try.underlying3)))) (fun m _ => (opens_slice (e' := 44) Try.underlying42 (by kernel_rfl) (fun m _ => opensRec44 _)))) _ _ hf0
  obtain ⟨x0_0, y0_0, e0_0, K0_0, R0_0⟩ := K0
  obtain ⟨x0_1, y0_1, e0_1, K0_1, R0_1⟩ := R0_0
  have K0_2 := R0_1
  have q0_0 : x0_0 = [.int .i64 u0_0] := K0_0
  obtain ⟨A0_1, c0_1, q0_1, hc0_1, hr0_1⟩ := K0_1
  obtain ⟨A0_2, c0_2, q0_2, hc0_2, hr0_2⟩ := K0_2
  obtain rfl : cs0 = #[.int .i64 u0_0, .slice A0_1 u0_1.length c0_1, .slice A0_2 u0_2.length c0_2] := by
    have z_ : cs0.toList = [.int .i64 u0_0, .slice A0_1 u0_1.length c0_1, .slice A0_2 u0_2.length c0_2] := by
      have z2_ := e0_0
      rw [q0_0, e0_1, q0_1, q0_2] at z2_
      exact z2_
    cases cs0
    simpa using z_
  clear hA0 hval0 hsz0
  obtain ⟨k, hk⟩ := Pure.FnExactValidLock u0_0 u0_1 u0_2 (by rw [Pure.bigT]; exact ⟨g0_1.1, g0_2.1, Pure.bigTL_iff.2 g0_2.2⟩)
  refine (PFnExactValidLock.laws_FnExactValidLock.calls k u0_0 _ _ u0_1 _ _ u0_2 true W hr0_1 hc0_1 hr0_2 hc0_2 hk).mono fun e W' ⟨he, bel⟩ => ?_
  subst he
  exact ⟨_, rfl, _, _, _, [], _, [], hW', trodAll_mk1 (shut_bool Try.underlying4 _), (trodAll_cons_mk (Below.trod laidOut (by kernel_rfl) (of_decide_eq_true (by kernel_rfl)) k0 bel lt0) trodAll_mk0), rfl, bel.frame _, fun h => by cases h⟩
theorem over : Rows.fnExactValidLockRow.holds Try.pinned (OpenSpec.ofChange Rows.fnExactValidLockSpec) :=
  OpenClaim.holds_of_wide 8 Try.f8 rfl rfl rfl rfl rfl rfl rfl ⟨rfl, rfl, rfl, rfl, rfl⟩ rfl rfl rfl rfl rfl (by kernel_rfl) Try.func8 (by kernel_rfl)
    (of_decide_eq_true (by kernel_rfl)) (by unfold Func.isWrapper; first | (rw [if_pos (by decide +kernel)]; kernel_rfl) | (rw [if_neg (by decide +kernel)]; exact ⟨rfl, rfl⟩))
    (fun os started H enc _ => lifted os started H enc)
theorem proved : Rows.FnExactValidLockSaid := over
#print axioms proved
end Go.Proofs.Ytnijdifoejiafaa.fnExactValidLock
namespace Go.Proofs.Ytnijdifoejiafaa
/-- The row, under a short name, for the claim. -/
theorem fnExactValidLock_holds : Rows.FnExactValidLockSaid := fnExactValidLock.proved
end Go.Proofs.Ytnijdifoejiafaa
