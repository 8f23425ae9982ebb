/- FnExactLeaveWith: for all arguments LeaveWith of the program and of the reference agree. No condition beyond the statement's own. -/
import Derived.Test.YtnijdifoejiafaaPFnExactLeaveWithx1
import Derived.Test.YtnijdifoejiafaaCore
namespace Go.Proofs.Ytnijdifoejiafaa.Pure
open Go.RowKit Go.Proofs.Ytnijdifoejiafaa.PFnExactLeaveWith Go.Proofs.YtnijdifoejiafaaW.PrintWords
set_option linter.unusedSimpArgs false
set_option linter.unusedVariables false

theorem inRange_eq (a b c : Int) : spec_inRange.f a b c = some (decide (b ≤ a ∧ a ≤ c)) := by
  unfold spec_inRange.f
  by_cases h : b ≤ a
  · rw [if_pos h]; simp [h]
  · rw [if_neg h]; simp [h]
def sumL : List Int → Int
  | [] => 0
  | x :: r => x + sumL r
theorem sumL_bound {l : List Int} (h : ∀ x ∈ l, 0 ≤ x ∧ x ≤ 1000000) : 0 ≤ sumL l ∧ sumL l ≤ 1000000 * l.length := by
  induction l with
  | nil => simp [sumL]
  | cons x r ih =>
    have h1 := ih (fun y hy => h y (List.mem_cons_of_mem _ hy))
    have h2 := h x (by simp)
    simp only [sumL, List.length_cons]
    omega
/-- A valid body. -/
def VB (ws : List Int) (need : Int) : Prop := (1 ≤ ws.length ∧ ws.length ≤ 12) ∧ (∀ w ∈ ws, 0 ≤ w ∧ w ≤ 100) ∧ 1 ≤ need ∧ need ≤ sumL ws
instance (ws : List Int) (need : Int) : Decidable (VB ws need) := inferInstanceAs (Decidable ((1 ≤ ws.length ∧ ws.length ≤ 12) ∧ (∀ w ∈ ws, 0 ≤ w ∧ w ≤ 100) ∧ 1 ≤ need ∧ need ≤ sumL ws))
theorem dfalse {p : Prop} {i : Decidable p} (h : ¬ p) : false = @decide p i := by
  symm; rw [decide_eq_false_iff_not]; exact h
theorem dtrue {p : Prop} {i : Decidable p} (h : p) : true = @decide p i := by
  symm; rw [decide_eq_true_iff]; exact h
/-! vested stakes -/
theorem u64w {x : Int} (h0 : 0 ≤ x) (h1 : x < 18446744073709551616) : IntKind.u64.wrap x = x := by
  have e : IntKind.u64.wrap x = x % 18446744073709551616 := by simp [IntKind.wrap, IntKind.bits, IntKind.signed]
  rw [e]; omega
theorem and_low {a : Int} (h0 : 0 ≤ a) (h1 : a < 4294967296) : Go.bits .and .u64 a 4294967295 = a := by
  obtain ⟨m, rfl⟩ := Int.eq_ofNat_of_zero_le h0
  have hm : m < 4294967296 := by omega
  have e : (BitVec.ofInt IntKind.u64.bits (m : Int) &&& BitVec.ofInt IntKind.u64.bits ((4294967295 : Nat) : Int)).toNat = m := by
    rw [BitVec.toNat_and, BitVec.ofInt_natCast, BitVec.ofInt_natCast, BitVec.toNat_ofNat, BitVec.toNat_ofNat]
    show (m % 2 ^ 64) &&& (4294967295 % 2 ^ 64) = m
    rw [Nat.mod_eq_of_lt (show m < 2 ^ 64 by omega), show 4294967295 % 2 ^ 64 = 2 ^ 32 - 1 by decide, Nat.and_two_pow_sub_one_eq_mod]
    omega
  show IntKind.u64.wrap ((BitVec.ofInt IntKind.u64.bits (m : Int) &&& BitVec.ofInt IntKind.u64.bits ((4294967295 : Nat) : Int)).toNat : Int) = m
  rw [e, u64w (by omega) (by omega)]
theorem mul64 {a b : Int} (ha : 0 ≤ a) (ha2 : a ≤ 100000) (hb : 0 ≤ b) (hb2 : b ≤ 999) (hp : 0 ≤ a * b) (hp2 : a * b ≤ 99900000) : bits_Mul64.f a b = some (0, a * b) := by
  unfold bits_Mul64.f
  have e1 : a / 4294967296 = 0 := by omega
  have e2 : b / 4294967296 = 0 := by omega
  have w0 : IntKind.u64.wrap 0 = 0 := u64w (by omega) (by omega)
  have e3 : a * b / 4294967296 = 0 := by omega
  rw [e1, e2, and_low ha (by omega), and_low hb (by omega)]
  simp only [Int.zero_mul, Int.mul_zero, w0, u64w hp (show a * b < 18446744073709551616 by omega), e3, Int.zero_add, and_low (show (0 : Int) ≤ 0 by omega) (by omega), Int.zero_ediv]
def okV (s m t : Int) : Prop := (0 ≤ s ∧ s ≤ 100000) ∧ 0 ≤ m ∧ 1 ≤ t ∧ t ≤ 999
instance (s m t : Int) : Decidable (okV s m t) := inferInstanceAs (Decidable ((0 ≤ s ∧ s ≤ 100000) ∧ 0 ≤ m ∧ 1 ≤ t ∧ t ≤ 999))
/-- What Vested answers. -/
def vst (s m t : Int) : Int := if okV s m t then (if m ≥ t then s else s * m / t) else -1
theorem prod_bound {s m : Int} (hs : 0 ≤ s) (hs2 : s ≤ 100000) (hm : 0 ≤ m) (hm2 : m ≤ 999) : 0 ≤ s * m ∧ s * m ≤ 99900000 :=
  ⟨Int.mul_nonneg hs hm, by have := Int.mul_le_mul hs2 hm2 hm (by omega); omega⟩
theorem implVested_tot (s m t : Int) : Tot (fun k => impl_Vested.f k s m t) (fun r => r = vst s m t) := by
  unfold impl_Vested.f
  have bad : ¬ okV s m t → Tot (fun k => impl_Vested.j0 k s m t true) (fun r => r = vst s m t) := fun h =>
    Tot.step (fun _ => impl_Vested.j0.eq_2 ..) (Tot.pos rfl (Tot.now (by unfold vst; rw [if_neg h])))
  refine Tot.ite (fun h1 => bad fun h => by have := h.1; omega) (fun h1 => Tot.ite (fun h2 => bad fun h => by have := h.1; omega) (fun h2 => Tot.ite (fun h3 => bad fun h => by have := h.2; omega) (fun h3 => Tot.ite (fun h4 => bad fun h => by have := h.2; omega) (fun h4 => ?_))))
  by_cases h5 : t > 999
  · rw [decide_eq_true h5]; exact bad fun h => by have := h.2; omega
  rw [decide_eq_false h5]
  have hok : okV s m t := ⟨by omega, by omega, by omega, by omega⟩
  refine Tot.step (fun _ => impl_Vested.j0.eq_2 ..) (Tot.neg (by decide) ?_)
  unfold vst
  rw [if_pos hok]
  refine Tot.ite (fun h6 => Tot.now (by rw [if_pos h6])) (fun h6 => ?_)
  rw [if_neg h6]
  have hp := prod_bound (s := s) (m := m) (by omega) (by omega) (by omega) (by omega)
  rw [u64w (x := s) (by omega) (by omega), u64w (x := m) (by omega) (by omega), u64w (x := t) (by omega) (by omega), mul64 (by omega) (by omega) (by omega) (by omega) hp.1 hp.2]
  refine Tot.known ?_
  unfold bits_Div64.f
  have hq : 0 ≤ s * m / t := Int.ediv_nonneg hp.1 (by omega)
  have hq2 : s * m / t ≤ s * m := Int.ediv_le_self _ hp.1
  rw [if_neg (show ¬ t = 0 by omega), if_neg (show ¬ t ≤ 0 by omega), if_pos rfl, tdiv_nn hp.1, u64w hq (by omega)]
  refine Tot.known (Tot.now ?_)
  exact w64 (by omega) (by omega)
theorem specVested_eq (s m t : Int) : spec_Vested.f s m t = some (vst s m t) := by
  unfold spec_Vested.f vst
  simp only [inRange_eq, Option.bind_some, decide_eq_true_eq]
  by_cases h1 : 0 ≤ s ∧ s ≤ 100000
  · by_cases h2 : m < 0
    · rw [if_pos h1, if_pos h2, if_neg (fun h : okV s m t => by have := h.2; omega)]
    · by_cases h3 : 1 ≤ t ∧ t ≤ 999
      · have hok : okV s m t := ⟨h1, by omega, h3⟩
        rw [if_pos h1, if_neg h2, if_pos h3, if_neg (by omega), if_pos hok]
        have em : mn m t = if t < m then t else m := rfl
        rw [em]
        by_cases h4 : m ≥ t
        · have e5 : (if t < m then t else m) = t := by split <;> omega
          have hp := prod_bound (s := s) (m := t) (by omega) (by omega) (by omega) (by omega)
          rw [e5, if_pos h4, w64 (x := s * t) (by omega) (by omega), tdiv_nn hp.1, Int.mul_ediv_cancel _ (by omega), w64 (by omega) (by omega)]
        · have hp := prod_bound (s := s) (m := m) (by omega) (by omega) (by omega) (by omega)
          have hq : 0 ≤ s * m / t := Int.ediv_nonneg hp.1 (by omega)
          have hq2 : s * m / t ≤ s * m := Int.ediv_le_self _ hp.1
          rw [if_neg (show ¬ t < m by omega), if_neg h4, w64 (x := s * m) (by omega) (by omega), tdiv_nn hp.1, w64 (by omega) (by omega)]
      · rw [if_pos h1, if_neg h2, if_neg h3, if_neg (fun h : okV s m t => h3 h.2.2)]
  · rw [if_neg h1, if_neg (fun h : okV s m t => h1 h.1)]
theorem vst_range {s m t : Int} (h : okV s m t) : 0 ≤ vst s m t ∧ vst s m t ≤ s := by
  unfold vst
  rw [if_pos h]
  have h1 := h.1
  have h2 := h.2
  split
  · omega
  · have hp := prod_bound (s := s) (m := m) (by omega) (by omega) (by omega) (by omega)
    refine ⟨Int.ediv_nonneg hp.1 (by omega), ?_⟩
    have h3 := Int.mul_le_mul_of_nonneg_left (show m ≤ t by omega) h1.1
    have h4 := Int.ediv_le_ediv (show 0 < t by omega) h3
    rw [Int.mul_ediv_cancel _ (show t ≠ 0 by omega)] at h4
    exact h4
def okW (s m t o : Int) : Prop := okV s m t ∧ 0 ≤ o ∧ o ≤ 100000
instance (s m t o : Int) : Decidable (okW s m t o) := inferInstanceAs (Decidable (okV s m t ∧ 0 ≤ o ∧ o ≤ 100000))
/-- What LeaveWith answers. -/
def lw (s m t o : Int) : Int × Int × Int := if okW s m t o then ((if vst s m t - o < 0 then 0 else vst s m t - o), (if o - vst s m t < 0 then 0 else o - vst s m t), s - vst s m t) else (-1, -1, -1)
theorem vst_neg {s m t : Int} : vst s m t < 0 ↔ ¬ okV s m t := by
  constructor
  · intro h h2
    have := vst_range h2; omega
  · intro h
    unfold vst; rw [if_neg h]; omega
theorem implLeave_tot (s m t o : Int) : Tot (fun k => impl_LeaveWith.f k s m t o) (fun r => r = lw s m t o) := by
  unfold impl_LeaveWith.f
  refine Tot.bind (implVested_tot s m t) ?_
  rintro _ rfl
  have bad : ¬ okW s m t o → Tot (fun _ => some ((-1, -1, -1) : Int × Int × Int)) (fun r => r = lw s m t o) := fun h => Tot.now (by unfold lw; rw [if_neg h])
  refine Tot.ite (fun h1 => bad fun h => vst_neg.1 h1 h.1) (fun h1 => Tot.ite (fun h2 => bad fun h => by have := h.2; omega) (fun h2 => Tot.ite (fun h3 => bad fun h => by have := h.2; omega) (fun h3 => Tot.now ?_)))
  have hv : okV s m t := Classical.byContradiction fun h => h1 (vst_neg.2 h)
  have hr := vst_range hv
  have h0 := hv.1
  unfold lw
  rw [if_pos ⟨hv, by omega, by omega⟩, w64 (x := vst s m t - o) (by omega) (by omega), w64 (x := o - vst s m t) (by omega) (by omega), w64 (x := s - vst s m t) (by omega) (by omega)]
  rfl
theorem specLeave_eq (s m t o : Int) : spec_LeaveWith.f s m t o = some (lw s m t o) := by
  unfold spec_LeaveWith.f
  rw [specVested_eq]
  simp only [inRange_eq, Option.bind_some, decide_eq_true_eq]
  unfold lw
  by_cases h1 : vst s m t < 0
  · rw [if_pos h1, if_neg (fun h : okW s m t o => vst_neg.1 h1 h.1)]
  · have hv : okV s m t := Classical.byContradiction fun h => h1 (vst_neg.2 h)
    have hr := vst_range hv
    have h0 := hv.1
    rw [if_neg h1]
    by_cases h2 : 0 ≤ o ∧ o ≤ 100000
    · have em : ∀ x : Int, mx 0 x = if x < 0 then 0 else x := fun x => by unfold mx; split <;> split <;> omega
      rw [if_pos h2, if_pos ⟨hv, h2⟩, w64 (x := vst s m t - o) (by omega) (by omega), w64 (x := o - vst s m t) (by omega) (by omega), w64 (x := s - vst s m t) (by omega) (by omega), em, em]
    · rw [if_neg h2, if_neg (fun h : okW s m t o => h2 h.2)]
theorem FnExactLeaveWith : laws_FnExactLeaveWith.Pure := by
  intro s m t o _ _ _ _
  refine Tot.ends (g := fun k => laws_FnExactLeaveWith.f k s m t o) ?_
  unfold laws_FnExactLeaveWith.f
  rw [specLeave_eq]
  refine Tot.known (Tot.bind (implLeave_tot s m t o) ?_)
  rintro _ rfl
  exact Tot.pos rfl (Tot.pos rfl (Tot.pos rfl (Tot.now rfl)))
end Go.Proofs.Ytnijdifoejiafaa.Pure
