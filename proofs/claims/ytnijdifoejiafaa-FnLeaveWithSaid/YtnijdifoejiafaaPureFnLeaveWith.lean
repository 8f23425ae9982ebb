/- FnLeaveWith: for every code, what is taken and forfeited, less what is still owed, is the stake less what is owed. No condition beyond the statement's own. -/
import Derived.Test.YtnijdifoejiafaaPFnLeaveWithx2
import Derived.Test.YtnijdifoejiafaaCore
namespace Go.Proofs.Ytnijdifoejiafaa.Pure
open Go.RowKit Go.Proofs.Ytnijdifoejiafaa.PFnLeaveWith Go.Proofs.YtnijdifoejiafaaW.PrintWords
set_option linter.unusedSimpArgs false
set_option linter.unusedVariables false

theorem inRange_eq (a b c : Int) : spec_inRange.f a b c = some (decide (b ≤ a ∧ a ≤ c)) := by
  unfold spec_inRange.f
  by_cases h : b ≤ a
  · rw [if_pos h]; simp [h]
  · rw [if_neg h]; simp [h]
def sumL : List Int → Int
  | [] => 0
  | x :: r => x + sumL r
theorem sumL_bound {l : List Int} (h : ∀ x ∈ l, 0 ≤ x ∧ x ≤ 1000000) : 0 ≤ sumL l ∧ sumL l ≤ 1000000 * l.length := by
  induction l with
  | nil => simp [sumL]
  | cons x r ih =>
    have h1 := ih (fun y hy => h y (List.mem_cons_of_mem _ hy))
    have h2 := h x (by simp)
    simp only [sumL, List.length_cons]
    omega
/-- A valid body. -/
def VB (ws : List Int) (need : Int) : Prop := (1 ≤ ws.length ∧ ws.length ≤ 12) ∧ (∀ w ∈ ws, 0 ≤ w ∧ w ≤ 100) ∧ 1 ≤ need ∧ need ≤ sumL ws
instance (ws : List Int) (need : Int) : Decidable (VB ws need) := inferInstanceAs (Decidable ((1 ≤ ws.length ∧ ws.length ≤ 12) ∧ (∀ w ∈ ws, 0 ≤ w ∧ w ≤ 100) ∧ 1 ≤ need ∧ need ≤ sumL ws))
theorem dfalse {p : Prop} {i : Decidable p} (h : ¬ p) : false = @decide p i := by
  symm; rw [decide_eq_false_iff_not]; exact h
theorem dtrue {p : Prop} {i : Decidable p} (h : p) : true = @decide p i := by
  symm; rw [decide_eq_true_iff]; exact h
/-! vested stakes -/
theorem u64w {x : Int} (h0 : 0 ≤ x) (h1 : x < 18446744073709551616) : IntKind.u64.wrap x = x := by
  have e : IntKind.u64.wrap x = x % 18446744073709551616 := by simp [IntKind.wrap, IntKind.bits, IntKind.signed]
  rw [e]; omega
theorem and_low {a : Int} (h0 : 0 ≤ a) (h1 : a < 4294967296) : Go.bits .and .u64 a 4294967295 = a := by
  obtain ⟨m, rfl⟩ := Int.eq_ofNat_of_zero_le h0
  have hm : m < 4294967296 := by omega
  have e : (BitVec.ofInt IntKind.u64.bits (m : Int) &&& BitVec.ofInt IntKind.u64.bits ((4294967295 : Nat) : Int)).toNat = m := by
    rw [BitVec.toNat_and, BitVec.ofInt_natCast, BitVec.ofInt_natCast, BitVec.toNat_ofNat, BitVec.toNat_ofNat]
    show (m % 2 ^ 64) &&& (4294967295 % 2 ^ 64) = m
    rw [Nat.mod_eq_of_lt (show m < 2 ^ 64 by omega), show 4294967295 % 2 ^ 64 = 2 ^ 32 - 1 by decide, Nat.and_two_pow_sub_one_eq_mod]
    omega
  show IntKind.u64.wrap ((BitVec.ofInt IntKind.u64.bits (m : Int) &&& BitVec.ofInt IntKind.u64.bits ((4294967295 : Nat) : Int)).toNat : Int) = m
  rw [e, u64w (by omega) (by omega)]
theorem mul64 {a b : Int} (ha : 0 ≤ a) (ha2 : a ≤ 100000) (hb : 0 ≤ b) (hb2 : b ≤ 999) (hp : 0 ≤ a * b) (hp2 : a * b ≤ 99900000) : bits_Mul64.f a b = some (0, a * b) := by
  unfold bits_Mul64.f
  have e1 : a / 4294967296 = 0 := by omega
  have e2 : b / 4294967296 = 0 := by omega
  have w0 : IntKind.u64.wrap 0 = 0 := u64w (by omega) (by omega)
  have e3 : a * b / 4294967296 = 0 := by omega
  rw [e1, e2, and_low ha (by omega), and_low hb (by omega)]
  simp only [Int.zero_mul, Int.mul_zero, w0, u64w hp (show a * b < 18446744073709551616 by omega), e3, Int.zero_add, and_low (show (0 : Int) ≤ 0 by omega) (by omega), Int.zero_ediv]
def okV (s m t : Int) : Prop := (0 ≤ s ∧ s ≤ 100000) ∧ 0 ≤ m ∧ 1 ≤ t ∧ t ≤ 999
instance (s m t : Int) : Decidable (okV s m t) := inferInstanceAs (Decidable ((0 ≤ s ∧ s ≤ 100000) ∧ 0 ≤ m ∧ 1 ≤ t ∧ t ≤ 999))
/-- What Vested answers. -/
def vst (s m t : Int) : Int := if okV s m t then (if m ≥ t then s else s * m / t) else -1
theorem prod_bound {s m : Int} (hs : 0 ≤ s) (hs2 : s ≤ 100000) (hm : 0 ≤ m) (hm2 : m ≤ 999) : 0 ≤ s * m ∧ s * m ≤ 99900000 :=
  ⟨Int.mul_nonneg hs hm, by have := Int.mul_le_mul hs2 hm2 hm (by omega); omega⟩
theorem implVested_tot (s m t : Int) : Tot (fun k => impl_Vested.f k s m t) (fun r => r = vst s m t) := by
  unfold impl_Vested.f
  have bad : ¬ okV s m t → Tot (fun k => impl_Vested.j0 k s m t true) (fun r => r = vst s m t) := fun h =>
    Tot.step (fun _ => impl_Vested.j0.eq_2 ..) (Tot.pos rfl (Tot.now (by unfold vst; rw [if_neg h])))
  refine Tot.ite (fun h1 => bad fun h => by have := h.1; omega) (fun h1 => Tot.ite (fun h2 => bad fun h => by have := h.1; omega) (fun h2 => Tot.ite (fun h3 => bad fun h => by have := h.2; omega) (fun h3 => Tot.ite (fun h4 => bad fun h => by have := h.2; omega) (fun h4 => ?_))))
  by_cases h5 : t > 999
  · rw [decide_eq_true h5]; exact bad fun h => by have := h.2; omega
  rw [decide_eq_false h5]
  have hok : okV s m t := ⟨by omega, by omega, by omega, by omega⟩
  refine Tot.step (fun _ => impl_Vested.j0.eq_2 ..) (Tot.neg (by decide) ?_)
  unfold vst
  rw [if_pos hok]
  refine Tot.ite (fun h6 => Tot.now (by rw [if_pos h6])) (fun h6 => ?_)
  rw [if_neg h6]
  have hp := prod_bound (s := s) (m := m) (by omega) (by omega) (by omega) (by omega)
  rw [u64w (x := s) (by omega) (by omega), u64w (x := m) (by omega) (by omega), u64w (x := t) (by omega) (by omega), mul64 (by omega) (by omega) (by omega) (by omega) hp.1 hp.2]
  refine Tot.known ?_
  unfold bits_Div64.f
  have hq : 0 ≤ s * m / t := Int.ediv_nonneg hp.1 (by omega)
  have hq2 : s * m / t ≤ s * m := Int.ediv_le_self _ hp.1
  rw [if_neg (show ¬ t = 0 by omega), if_neg (show ¬ t ≤ 0 by omega), if_pos rfl, tdiv_nn hp.1, u64w hq (by omega)]
  refine Tot.known (Tot.now ?_)
  exact w64 (by omega) (by omega)
theorem specVested_eq (s m t : Int) : spec_Vested.f s m t = some (vst s m t) := by
  unfold spec_Vested.f vst
  simp only [inRange_eq, Option.bind_some, decide_eq_true_eq]
  by_cases h1 : 0 ≤ s ∧ s ≤ 100000
  · by_cases h2 : m < 0
    · rw [if_pos h1, if_pos h2, if_neg (fun h : okV s m t => by have := h.2; omega)]
    · by_cases h3 : 1 ≤ t ∧ t ≤ 999
      · have hok : okV s m t := ⟨h1, by omega, h3⟩
        rw [if_pos h1, if_neg h2, if_pos h3, if_neg (by omega), if_pos hok]
        have em : mn m t = if t < m then t else m := rfl
        rw [em]
        by_cases h4 : m ≥ t
        · have e5 : (if t < m then t else m) = t := by split <;> omega
          have hp := prod_bound (s := s) (m := t) (by omega) (by omega) (by omega) (by omega)
          rw [e5, if_pos h4, w64 (x := s * t) (by omega) (by omega), tdiv_nn hp.1, Int.mul_ediv_cancel _ (by omega), w64 (by omega) (by omega)]
        · have hp := prod_bound (s := s) (m := m) (by omega) (by omega) (by omega) (by omega)
          have hq : 0 ≤ s * m / t := Int.ediv_nonneg hp.1 (by omega)
          have hq2 : s * m / t ≤ s * m := Int.ediv_le_self _ hp.1
          rw [if_neg (show ¬ t < m by omega), if_neg h4, w64 (x := s * m) (by omega) (by omega), tdiv_nn hp.1, w64 (by omega) (by omega)]
      · rw [if_pos h1, if_neg h2, if_neg h3, if_neg (fun h : okV s m t => h3 h.2.2)]
  · rw [if_neg h1, if_neg (fun h : okV s m t => h1 h.1)]
theorem vst_range {s m t : Int} (h : okV s m t) : 0 ≤ vst s m t ∧ vst s m t ≤ s := by
  unfold vst
  rw [if_pos h]
  have h1 := h.1
  have h2 := h.2
  split
  · omega
  · have hp := prod_bound (s := s) (m := m) (by omega) (by omega) (by omega) (by omega)
    refine ⟨Int.ediv_nonneg hp.1 (by omega), ?_⟩
    have h3 := Int.mul_le_mul_of_nonneg_left (show m ≤ t by omega) h1.1
    have h4 := Int.ediv_le_ediv (show 0 < t by omega) h3
    rw [Int.mul_ediv_cancel _ (show t ≠ 0 by omega)] at h4
    exact h4
def okW (s m t o : Int) : Prop := okV s m t ∧ 0 ≤ o ∧ o ≤ 100000
instance (s m t o : Int) : Decidable (okW s m t o) := inferInstanceAs (Decidable (okV s m t ∧ 0 ≤ o ∧ o ≤ 100000))
/-- What LeaveWith answers. -/
def lw (s m t o : Int) : Int × Int × Int := if okW s m t o then ((if vst s m t - o < 0 then 0 else vst s m t - o), (if o - vst s m t < 0 then 0 else o - vst s m t), s - vst s m t) else (-1, -1, -1)
theorem vst_neg {s m t : Int} : vst s m t < 0 ↔ ¬ okV s m t := by
  constructor
  · intro h h2
    have := vst_range h2; omega
  · intro h
    unfold vst; rw [if_neg h]; omega
theorem implLeave_tot (s m t o : Int) : Tot (fun k => impl_LeaveWith.f k s m t o) (fun r => r = lw s m t o) := by
  unfold impl_LeaveWith.f
  refine Tot.bind (implVested_tot s m t) ?_
  rintro _ rfl
  have bad : ¬ okW s m t o → Tot (fun _ => some ((-1, -1, -1) : Int × Int × Int)) (fun r => r = lw s m t o) := fun h => Tot.now (by unfold lw; rw [if_neg h])
  refine Tot.ite (fun h1 => bad fun h => vst_neg.1 h1 h.1) (fun h1 => Tot.ite (fun h2 => bad fun h => by have := h.2; omega) (fun h2 => Tot.ite (fun h3 => bad fun h => by have := h.2; omega) (fun h3 => Tot.now ?_)))
  have hv : okV s m t := Classical.byContradiction fun h => h1 (vst_neg.2 h)
  have hr := vst_range hv
  have h0 := hv.1
  unfold lw
  rw [if_pos ⟨hv, by omega, by omega⟩, w64 (x := vst s m t - o) (by omega) (by omega), w64 (x := o - vst s m t) (by omega) (by omega), w64 (x := s - vst s m t) (by omega) (by omega)]
  rfl
theorem specLeave_eq (s m t o : Int) : spec_LeaveWith.f s m t o = some (lw s m t o) := by
  unfold spec_LeaveWith.f
  rw [specVested_eq]
  simp only [inRange_eq, Option.bind_some, decide_eq_true_eq]
  unfold lw
  by_cases h1 : vst s m t < 0
  · rw [if_pos h1, if_neg (fun h : okW s m t o => vst_neg.1 h1 h.1)]
  · have hv : okV s m t := Classical.byContradiction fun h => h1 (vst_neg.2 h)
    have hr := vst_range hv
    have h0 := hv.1
    rw [if_neg h1]
    by_cases h2 : 0 ≤ o ∧ o ≤ 100000
    · have em : ∀ x : Int, mx 0 x = if x < 0 then 0 else x := fun x => by unfold mx; split <;> split <;> omega
      rw [if_pos h2, if_pos ⟨hv, h2⟩, w64 (x := vst s m t - o) (by omega) (by omega), w64 (x := o - vst s m t) (by omega) (by omega), w64 (x := s - vst s m t) (by omega) (by omega), em, em]
    · rw [if_neg h2, if_neg (fun h : okW s m t o => h2 h.2)]
/-! the reader -/
theorem pick_tot {b : List Int} (hb : ∀ x ∈ b, 0 ≤ x ∧ x < 256) {p n : Int} (hp : 0 ≤ p) (hp2 : p ≤ 1000000000) (hn : n ≤ 1000000000000) :
    Tot (fun k => spec_reader_pick.f k b p n) (fun r => r.2 = p + 1 ∧ 0 ≤ r.1 ∧ (r.1 < n ∨ r.1 = 0)) := by
  have e1 : wrap64 (p + 1) = p + 1 := w64 (by omega) (by omega)
  have e2 : wrap64 (p + 1 - 1) = p := by rw [w64 (by omega) (by omega)]; omega
  have main : ∀ t : Bool, (t = false → 1 ≤ n ∧ b.length ≠ 0) → Tot (fun k => spec_reader_pick.j0 k n t b (p + 1)) (fun r => r.2 = p + 1 ∧ 0 ≤ r.1 ∧ (r.1 < n ∨ r.1 = 0)) := by
    intro t ht
    refine Tot.step (fun _ => spec_reader_pick.j0.eq_2 ..) ?_
    simp only [e2]
    cases t with
    | true => exact Tot.pos rfl (Tot.now ⟨rfl, Int.le_refl _, .inr rfl⟩)
    | false =>
      obtain ⟨hn1, hne⟩ := ht rfl
      refine Tot.neg (by simp) ?_
      by_cases hlt : p < (b.length : Int)
      · refine Tot.pos hlt (Tot.pos hp (Tot.neg (by omega) ?_))
        have hr := hb _ (rd_mem hp hlt)
        rw [w64 (x := rd b p) (by omega) (by omega), tmod_nn hr.1]
        exact Tot.now ⟨rfl, Int.emod_nonneg _ (by omega), .inl (Int.emod_lt_of_pos _ (by omega))⟩
      · refine Tot.neg hlt (Tot.neg (by omega) ?_)
        have hlen : 0 < (b.length : Int) := by omega
        have i1 : 0 ≤ Int.tmod p b.length ∧ Int.tmod p b.length < b.length := by
          rw [tmod_nn hp]; exact ⟨Int.emod_nonneg _ (by omega), Int.emod_lt_of_pos _ hlen⟩
        have e3 : wrap64 (wrap64 (p * 7) + 3) = p * 7 + 3 := by
          rw [w64 (x := p * 7) (by omega) (by omega)]; exact w64 (by omega) (by omega)
        rw [e3]
        have i2 : 0 ≤ Int.tmod (p * 7 + 3) b.length ∧ Int.tmod (p * 7 + 3) b.length < b.length := by
          rw [tmod_nn (by omega)]; exact ⟨Int.emod_nonneg _ (by omega), Int.emod_lt_of_pos _ hlen⟩
        refine Tot.pos i1.1 (Tot.pos i1.2 (Tot.pos i2.1 (Tot.pos i2.2 (Tot.neg (by omega) ?_))))
        have hu := hb _ (rd_mem i1.1 i1.2)
        have hv := hb _ (rd_mem i2.1 i2.2)
        have hq : 0 ≤ Int.tdiv p b.length ∧ Int.tdiv p b.length ≤ p := by
          rw [tdiv_nn hp]
          exact ⟨Int.ediv_nonneg hp (by omega), Int.ediv_le_self _ hp⟩
        generalize rd b (Int.tmod p b.length) = u at hu ⊢
        generalize rd b (Int.tmod (p * 7 + 3) b.length) = v at hv ⊢
        generalize Int.tdiv p b.length = q at hq ⊢
        rw [w64 (x := u) (by omega) (by omega), w64 (x := v) (by omega) (by omega), w64 (x := q) (by omega) (by omega), w64 (x := u * 131) (by omega) (by omega), w64 (x := v * 1117) (by omega) (by omega), w64 (x := p * 29) (by omega) (by omega), w64 (x := q * 53) (by omega) (by omega),
          w64 (x := u * 131 + v * 1117) (by omega) (by omega), w64 (x := u * 131 + v * 1117 + p * 29) (by omega) (by omega), w64 (x := u * 131 + v * 1117 + p * 29 + q * 53) (by omega) (by omega)]
        have hx : 0 ≤ u * 131 + v * 1117 + p * 29 + q * 53 ∧ u * 131 + v * 1117 + p * 29 + q * 53 < 4611686018427387904 := by omega
        generalize u * 131 + v * 1117 + p * 29 + q * 53 = x at hx ⊢
        rw [tdiv_nn hx.1, w64 (x := x / 64) (by omega) (by omega)]
        have hz := xor_nn hx.1 hx.2 (b := x / 64) (by omega) (by omega)
        rw [tmod_nn hz]
        exact Tot.now ⟨rfl, Int.emod_nonneg _ (by omega), .inl (Int.emod_lt_of_pos _ (by omega))⟩
  unfold spec_reader_pick.f
  rw [e1]
  refine Tot.ite (fun _ => main true (fun h => by cases h)) (fun h => main _ (fun h2 => ⟨by omega, fun h3 => ?_⟩))
  rw [h3] at h2
  simp at h2
theorem one_tot {b : List Int} (hb : ∀ x ∈ b, 0 ≤ x ∧ x < 256) {p : Int} (hp : 0 ≤ p) (hp2 : p ≤ 1000000000) {l : List Int} (hl : 0 < l.length) (hl2 : l.length ≤ 1000) :
    Tot (fun k => spec_reader_one.f k b p l) (fun r => r.2 = p + 1 ∧ r.1 ∈ l) := by
  unfold spec_reader_one.f
  refine Tot.bind (pick_tot hb hp hp2 (by omega)) ?_
  rintro ⟨v, q⟩ ⟨h1, h2, h3⟩
  simp only at h1 h2 h3 ⊢
  have h4 : v < (l.length : Int) := by omega
  exact Tot.pos h2 (Tot.pos h4 (Tot.now ⟨h1, rd_mem h2 h4⟩))
theorem newReader_tot {l : List Int} (h : ∀ x ∈ l, (Lit.int .u8 x).wf = true) : ∃ b, spec_newReader.f l = some (b, 0) ∧ b.length ≤ 2000 ∧ ∀ x ∈ b, 0 ≤ x ∧ x < 256 := by
  unfold spec_newReader.f
  by_cases h1 : (l.length : Int) > 2000
  · rw [if_pos h1, if_pos (by omega)]
    exact ⟨_, rfl, by simp; omega, fun x hx => wf_u8 (h x (List.mem_of_mem_take hx))⟩
  · rw [if_neg h1]
    exact ⟨_, rfl, by omega, fun x hx => wf_u8 (h x hx)⟩
theorem Tot.bindv {α β : Type} {g : Nat → Option α} {F : Nat → α → Option β} {v : α} {Q : β → Prop} (h : Tot g (fun t => t = v)) (h2 : Tot (fun k => F k v) Q) : Tot (fun k => (g k).bind (F k)) Q :=
  Tot.bind h (fun a ha => by rw [ha]; exact h2)
theorem drawLeave_tot {l : List Int} (hw : ∀ x ∈ l, (Lit.int .u8 x).wf = true) : Tot (fun k => spec_DrawLeaveWith.f k l) (fun _ => True) := by
  unfold spec_DrawLeaveWith.f
  obtain ⟨b, hb, hb2, hb3⟩ := newReader_tot hw
  rw [hb]
  refine Tot.known (Tot.bind (pick_tot hb3 (Int.le_refl _) (by omega) (by omega)) ?_)
  rintro ⟨v, q⟩ ⟨h1, h2, h3⟩
  dsimp only at h1 h2 h3 ⊢
  refine Tot.bind (one_tot hb3 (by omega) (by omega) (by simp) (by simp)) ?_
  rintro ⟨s, q2⟩ ⟨h4, _⟩
  dsimp only at h4 ⊢
  refine Tot.bind (pick_tot hb3 (by omega) (by omega) (by omega)) ?_
  rintro ⟨v2, q3⟩ ⟨g1, g2, g3⟩
  dsimp only at g1 g2 g3 ⊢
  refine Tot.bind (one_tot hb3 (by omega) (by omega) (by simp) (by simp)) ?_
  rintro ⟨m, q4⟩ ⟨g4, _⟩
  dsimp only at g4 ⊢
  refine Tot.bind (one_tot hb3 (by omega) (by omega) (by simp) (by simp)) ?_
  rintro ⟨t, q5⟩ ⟨f1, _⟩
  dsimp only at f1 ⊢
  refine Tot.bind (pick_tot hb3 (by omega) (by omega) (by omega)) ?_
  rintro ⟨v3, q6⟩ ⟨f2, f3, f4⟩
  dsimp only at f2 f3 f4 ⊢
  refine Tot.bind (one_tot hb3 (by omega) (by omega) (by simp) (by simp)) ?_
  rintro ⟨o, q7⟩ _
  exact Tot.now trivial
theorem FnLeaveWith : laws_FnLeaveWith.Pure := by
  intro l hl hl2 hw
  refine Tot.ends (g := fun k => laws_FnLeaveWith.f k l) ?_
  unfold laws_FnLeaveWith.f
  refine Tot.ite (fun _ => Tot.now rfl) (fun _ => ?_)
  refine Tot.bind (drawLeave_tot hw) ?_
  rintro ⟨s, m, t, o⟩ _
  dsimp only
  refine Tot.bindv (implLeave_tot s m t o) ?_
  rw [specLeave_eq]
  refine Tot.known (Tot.pos rfl (Tot.pos rfl (Tot.pos rfl ?_)))
  by_cases h : okW s m t o
  · have hv := vst_range h.1
    have h0 := h.1.1
    have ho := h.2
    have e : lw s m t o = ((if vst s m t - o < 0 then 0 else vst s m t - o), (if o - vst s m t < 0 then 0 else o - vst s m t), s - vst s m t) := by unfold lw; rw [if_pos h]
    rw [e]
    dsimp only
    obtain ⟨a, b, ha, hb, hab⟩ : ∃ a b : Int, (if vst s m t - o < 0 then 0 else vst s m t - o) = a ∧ (if o - vst s m t < 0 then 0 else o - vst s m t) = b ∧ 0 ≤ a ∧ 0 ≤ b ∧ a - b = vst s m t - o ∧ (a = 0 ∨ b = 0) ∧ a ≤ 100000 ∧ b ≤ 100000 := by
      refine ⟨_, _, rfl, rfl, ?_⟩
      split <;> split <;> omega
    rw [ha, hb]
    have el : vst s m t = s - (s - vst s m t) := by omega
    refine Tot.neg (by omega) ?_
    rw [w64 (x := a - b) (by omega) (by omega), w64 (x := a - b + (s - vst s m t)) (by omega) (by omega), w64 (x := s - o) (by omega) (by omega)]
    refine Tot.pos (by omega) ?_
    have last : Tot (fun k => (impl_Vested.f k s m t).bind fun t158 => some (s - vst s m t == wrap64 (s - t158))) (fun r => r = true) := by
      refine Tot.bindv (implVested_tot s m t) ?_
      rw [w64 (x := s - vst s m t) (by omega) (by omega)]
      exact Tot.now (by simp)
    refine Tot.ite (fun _ => last) (fun h2 => Tot.pos (by omega) last)
  · have e : lw s m t o = (-1, -1, -1) := by unfold lw; rw [if_neg h]
    rw [e]
    exact Tot.pos (by decide) (Tot.now rfl)
end Go.Proofs.Ytnijdifoejiafaa.Pure
