/- FnCastOut: for every code, CastOut the true sum is true, and false for sums that are wrong by 1 up to 8. No condition beyond the statement's own. -/
import Derived.Test.YtpbhpkgilkfckaaPFnCastOutx3
import Derived.Test.YtpbhpkgilkfckaaCore
namespace Go.Proofs.Ytpbhpkgilkfckaa.Pure
open Go.RowKit Go.Proofs.Ytpbhpkgilkfckaa.PFnCastOut Go.Proofs.YtpbhpkgilkfckaaW.PrintWords
set_option linter.unusedSimpArgs false
set_option linter.unusedVariables false

/-! the reader -/
theorem pick_tot {b : List Int} (hb : ∀ x ∈ b, 0 ≤ x ∧ x < 256) {p n : Int} (hp : 0 ≤ p) (hp2 : p ≤ 1000000000) (hn : n ≤ 1000000000000) :
    Tot (fun k => spec_reader_pick.f k b p n) (fun r => r.2 = p + 1 ∧ 0 ≤ r.1 ∧ (r.1 < n ∨ r.1 = 0)) := by
  have e1 : wrap64 (p + 1) = p + 1 := w64 (by omega) (by omega)
  have e2 : wrap64 (p + 1 - 1) = p := by rw [w64 (by omega) (by omega)]; omega
  have main : ∀ t : Bool, (t = false → 1 ≤ n ∧ b.length ≠ 0) → Tot (fun k => spec_reader_pick.j0 k n t b (p + 1)) (fun r => r.2 = p + 1 ∧ 0 ≤ r.1 ∧ (r.1 < n ∨ r.1 = 0)) := by
    intro t ht
    refine Tot.step (fun _ => spec_reader_pick.j0.eq_2 ..) ?_
    simp only [e2]
    cases t with
    | true => exact Tot.pos rfl (Tot.now ⟨rfl, Int.le_refl _, .inr rfl⟩)
    | false =>
      obtain ⟨hn1, hne⟩ := ht rfl
      refine Tot.neg (by simp) ?_
      by_cases hlt : p < (b.length : Int)
      · refine Tot.pos hlt (Tot.pos hp (Tot.neg (by omega) ?_))
        have hr := hb _ (rd_mem hp hlt)
        rw [w64 (x := rd b p) (by omega) (by omega), tmod_nn hr.1]
        exact Tot.now ⟨rfl, Int.emod_nonneg _ (by omega), .inl (Int.emod_lt_of_pos _ (by omega))⟩
      · refine Tot.neg hlt (Tot.neg (by omega) ?_)
        have hlen : 0 < (b.length : Int) := by omega
        have i1 : 0 ≤ Int.tmod p b.length ∧ Int.tmod p b.length < b.length := by
          rw [tmod_nn hp]; exact ⟨Int.emod_nonneg _ (by omega), Int.emod_lt_of_pos _ hlen⟩
        have e3 : wrap64 (wrap64 (p * 7) + 3) = p * 7 + 3 := by
          rw [w64 (x := p * 7) (by omega) (by omega)]; exact w64 (by omega) (by omega)
        rw [e3]
        have i2 : 0 ≤ Int.tmod (p * 7 + 3) b.length ∧ Int.tmod (p * 7 + 3) b.length < b.length := by
          rw [tmod_nn (by omega)]; exact ⟨Int.emod_nonneg _ (by omega), Int.emod_lt_of_pos _ hlen⟩
        refine Tot.pos i1.1 (Tot.pos i1.2 (Tot.pos i2.1 (Tot.pos i2.2 (Tot.neg (by omega) ?_))))
        have hu := hb _ (rd_mem i1.1 i1.2)
        have hv := hb _ (rd_mem i2.1 i2.2)
        have hq : 0 ≤ Int.tdiv p b.length ∧ Int.tdiv p b.length ≤ p := by
          rw [tdiv_nn hp]
          exact ⟨Int.ediv_nonneg hp (by omega), Int.ediv_le_self _ hp⟩
        generalize rd b (Int.tmod p b.length) = u at hu ⊢
        generalize rd b (Int.tmod (p * 7 + 3) b.length) = v at hv ⊢
        generalize Int.tdiv p b.length = q at hq ⊢
        rw [w64 (x := u) (by omega) (by omega), w64 (x := v) (by omega) (by omega), w64 (x := q) (by omega) (by omega), w64 (x := u * 131) (by omega) (by omega), w64 (x := v * 1117) (by omega) (by omega), w64 (x := p * 29) (by omega) (by omega), w64 (x := q * 53) (by omega) (by omega),
          w64 (x := u * 131 + v * 1117) (by omega) (by omega), w64 (x := u * 131 + v * 1117 + p * 29) (by omega) (by omega), w64 (x := u * 131 + v * 1117 + p * 29 + q * 53) (by omega) (by omega)]
        have hx : 0 ≤ u * 131 + v * 1117 + p * 29 + q * 53 ∧ u * 131 + v * 1117 + p * 29 + q * 53 < 4611686018427387904 := by omega
        generalize u * 131 + v * 1117 + p * 29 + q * 53 = x at hx ⊢
        rw [tdiv_nn hx.1, w64 (x := x / 64) (by omega) (by omega)]
        have hz := xor_nn hx.1 hx.2 (b := x / 64) (by omega) (by omega)
        rw [tmod_nn hz]
        exact Tot.now ⟨rfl, Int.emod_nonneg _ (by omega), .inl (Int.emod_lt_of_pos _ (by omega))⟩
  unfold spec_reader_pick.f
  rw [e1]
  refine Tot.ite (fun _ => main true (fun h => by cases h)) (fun h => main _ (fun h2 => ⟨by omega, fun h3 => ?_⟩))
  rw [h3] at h2
  simp at h2
theorem one_tot {b : List Int} (hb : ∀ x ∈ b, 0 ≤ x ∧ x < 256) {p : Int} (hp : 0 ≤ p) (hp2 : p ≤ 1000000000) {l : List Int} (hl : 0 < l.length) (hl2 : l.length ≤ 1000) :
    Tot (fun k => spec_reader_one.f k b p l) (fun r => r.2 = p + 1 ∧ r.1 ∈ l) := by
  unfold spec_reader_one.f
  refine Tot.bind (pick_tot hb hp hp2 (by omega)) ?_
  rintro ⟨v, q⟩ ⟨h1, h2, h3⟩
  simp only at h1 h2 h3 ⊢
  have h4 : v < (l.length : Int) := by omega
  exact Tot.pos h2 (Tot.pos h4 (Tot.now ⟨h1, rd_mem h2 h4⟩))
theorem newReader_tot {l : List Int} (h : ∀ x ∈ l, (Lit.int .u8 x).wf = true) : ∃ b, spec_newReader.f l = some (b, 0) ∧ b.length ≤ 2000 ∧ ∀ x ∈ b, 0 ≤ x ∧ x < 256 := by
  unfold spec_newReader.f
  by_cases h1 : (l.length : Int) > 2000
  · rw [if_pos h1, if_pos (by omega)]
    exact ⟨_, rfl, by simp; omega, fun x hx => wf_u8 (h x (List.mem_of_mem_take hx))⟩
  · rw [if_neg h1]
    exact ⟨_, rfl, by omega, fun x hx => wf_u8 (h x hx)⟩
def sumL : List Int → Int
  | [] => 0
  | x :: r => x + sumL r
theorem sumL_bound {l : List Int} (h : ∀ x ∈ l, 0 ≤ x ∧ x ≤ 1000000) : 0 ≤ sumL l ∧ sumL l ≤ 1000000 * l.length := by
  induction l with
  | nil => simp [sumL]
  | cons x r ih =>
    have h1 := ih (fun y hy => h y (List.mem_cons_of_mem _ hy))
    have h2 := h x (by simp)
    simp only [sumL, List.length_cons]
    omega
/-- A valid body. -/
def VB (ws : List Int) (need : Int) : Prop := (1 ≤ ws.length ∧ ws.length ≤ 12) ∧ (∀ w ∈ ws, 0 ≤ w ∧ w ≤ 100) ∧ 1 ≤ need ∧ need ≤ sumL ws
instance (ws : List Int) (need : Int) : Decidable (VB ws need) := inferInstanceAs (Decidable ((1 ≤ ws.length ∧ ws.length ≤ 12) ∧ (∀ w ∈ ws, 0 ≤ w ∧ w ≤ 100) ∧ 1 ≤ need ∧ need ≤ sumL ws))
theorem dfalse {p : Prop} {i : Decidable p} (h : ¬ p) : false = @decide p i := by
  symm; rw [decide_eq_false_iff_not]; exact h
theorem dtrue {p : Prop} {i : Decidable p} (h : p) : true = @decide p i := by
  symm; rw [decide_eq_true_iff]; exact h
/-! entries -/
abbrev En := S38
def okE (e : En) : Prop := (0 ≤ e.f0 ∧ e.f0 ≤ 999) ∧ (0 ≤ e.f1 ∧ e.f1 ≤ 7) ∧ (0 ≤ e.f2 ∧ e.f2 ≤ 7) ∧ e.f1 ≠ e.f2 ∧ 1 ≤ e.f3 ∧ e.f3 ≤ 1000000
instance (e : En) : Decidable (okE e) := inferInstanceAs (Decidable ((0 ≤ e.f0 ∧ e.f0 ≤ 999) ∧ (0 ≤ e.f1 ∧ e.f1 ≤ 7) ∧ (0 ≤ e.f2 ∧ e.f2 ≤ 7) ∧ e.f1 ≠ e.f2 ∧ 1 ≤ e.f3 ∧ e.f3 ≤ 1000000))
def EV (l : List En) : Prop := l.length ≤ 40 ∧ ∀ e ∈ l, okE e
instance (l : List En) : Decidable (EV l) := inferInstanceAs (Decidable (l.length ≤ 40 ∧ ∀ e ∈ l, okE e))
def chg (a : Int) (e : En) : Int := if a = e.f2 then e.f3 else if a = e.f1 then -e.f3 else 0
theorem rdEn_at {l : List En} {i : Nat} {r : En} (h : l[i]? = some r) : rd_T38 l (i : Int) = r := by
  simp [rd_T38, List.getD_eq_getElem?_getD, h]
def came (a : Int) : List En → Int
  | [] => 0
  | e :: r => (if e.f2 = a then e.f3 else 0) + came a r
def went (a : Int) : List En → Int
  | [] => 0
  | e :: r => (if e.f1 = a then e.f3 else 0) + went a r
def sald (a day : Int) : List En → Int
  | [] => 0
  | e :: r => (if e.f0 ≤ day then chg a e else 0) + sald a day r
theorem someEntries_l0 {b : List Int} (hb : ∀ x ∈ b, 0 ≤ x ∧ x < 256) : ∀ (d : Nat) (out : List En) (p : Int), 0 ≤ p → p + 8 * d ≤ 1000000 → out.length + 2 * d ≤ 1000 →
    Tot (fun k => spec_someEntries.l0 k out d b p) (fun r => r.1.length ≤ out.length + 2 * d ∧ p ≤ r.2 ∧ r.2 ≤ p + 8 * d) := by
  intro d
  induction d with
  | zero =>
    intro out p hp hp2 ho
    exact Tot.step (fun _ => spec_someEntries.l0.eq_2 ..) (Tot.neg (by omega) (Tot.now ⟨by simp, by simp, by simp⟩))
  | succ d ih =>
    intro out p hp hp2 ho
    refine Tot.step (fun _ => spec_someEntries.l0.eq_2 ..) (Tot.pos (by omega) ?_)
    have e : wrap64 (((d + 1 : Nat) : Int) - 1) = (d : Int) := by rw [w64 (by omega) (by omega)]; omega
    rw [e]
    refine Tot.bind (pick_tot hb hp (by omega) (by omega)) ?_
    rintro ⟨v1, q1⟩ ⟨h1, h2, h3⟩
    simp only at h1 h2 h3 ⊢
    refine Tot.bind (pick_tot hb (by omega) (by omega) (by omega)) ?_
    rintro ⟨v2, q2⟩ ⟨g1, g2, g3⟩
    simp only at g1 g2 g3 ⊢
    refine Tot.bind (pick_tot hb (by omega) (by omega) (by omega)) ?_
    rintro ⟨v3, q3⟩ ⟨f1, f2, f3⟩
    simp only at f1 f2 f3 ⊢
    refine Tot.bind (pick_tot hb (by omega) (by omega) (by omega)) ?_
    rintro ⟨v4, q4⟩ ⟨e1, e2, e3⟩
    simp only at e1 e2 e3 ⊢
    refine Tot.bind (pick_tot hb (by omega) (by omega) (by omega)) ?_
    rintro ⟨v5, q5⟩ ⟨d1, d2, d3⟩
    simp only at d1 d2 d3 ⊢
    refine Tot.bind (one_tot hb (by omega) (by omega) (by simp) (by simp)) ?_
    rintro ⟨v6, q6⟩ ⟨c1, c2⟩
    simp only at c1 ⊢
    clear c2
    refine Tot.pos (by omega) (Tot.known ?_)
    generalize hy : out ++ [(⟨v2, v1, Int.tmod (wrap64 ((wrap64 (v1 + 1)) + v3)) 5, v6⟩ : En)] = y
    have hyl : y.length = out.length + 1 := by rw [← hy]; simp
    refine Tot.bind (pick_tot hb (by omega) (by omega) (by omega)) ?_
    rintro ⟨v7, q7⟩ ⟨b1, b2, b3⟩
    simp only at b1 b2 b3 ⊢
    refine Tot.ite (fun h4 => ?_) (fun h4 => ?_)
    · refine Tot.bind (pick_tot hb (by omega) (by omega) (by omega)) ?_
      rintro ⟨v8, q8⟩ ⟨a1, a2, a3⟩
      simp only at a1 a2 a3 ⊢
      refine Tot.pos (by omega) (Tot.pos (by omega) (Tot.pos (by omega) ((ih _ q8 (by omega) (by omega) (by simp; omega)).mono ?_)))
      rintro r ⟨z1, z2, z3⟩
      refine ⟨?_, by omega, by omega⟩
      rw [List.length_append] at z1
      simp only [List.length_cons, List.length_nil] at z1
      omega
    · refine (ih _ q7 (by omega) (by omega) (by omega)).mono ?_
      rintro r ⟨z1, z2, z3⟩
      exact ⟨by omega, by omega, by omega⟩
theorem anyEntries_tot {b : List Int} (hb : ∀ x ∈ b, 0 ≤ x ∧ x < 256) {p : Int} (hp : 0 ≤ p) (hp2 : p ≤ 1000) :
    Tot (fun k => spec_anyEntries.f k b p) (fun r => r.1.length ≤ 20 ∧ p ≤ r.2 ∧ r.2 ≤ p + 100) := by
  unfold spec_anyEntries.f
  refine Tot.bind (P := fun r => r.1.length ≤ 20 ∧ p ≤ r.2 ∧ r.2 ≤ p + 90) ?_ ?_
  · unfold spec_someEntries.f
    refine Tot.bind (one_tot hb hp (by omega) (by simp) (by simp)) ?_
    rintro ⟨n, q⟩ ⟨h1, h2⟩
    simp only [List.mem_cons, List.not_mem_nil, or_false] at h1 h2 ⊢
    obtain ⟨m, rfl⟩ := Int.eq_ofNat_of_zero_le (a := n) (by omega)
    refine (someEntries_l0 hb m [] q (by omega) (by omega) (by simp; omega)).mono ?_
    rintro r ⟨b1, b2, b3⟩
    simp only [List.length_nil] at b1
    exact ⟨by omega, by omega, by omega⟩
  rintro ⟨l, q⟩ ⟨h1, h2, h3⟩
  simp only at h1 h2 h3 ⊢
  refine Tot.ite (fun h0 => ?_) (fun h0 => Tot.now ⟨h1, h2, by simp only; omega⟩)
  refine Tot.bind (pick_tot hb (by omega) (by omega) (by omega)) ?_
  rintro ⟨i, q1⟩ ⟨g1, g2, g3⟩
  simp only at g1 g2 g3 ⊢
  refine Tot.bind (pick_tot hb (by omega) (by omega) (by omega)) ?_
  rintro ⟨c, q2⟩ ⟨f1, f2, f3⟩
  simp only at f1 f2 f3 ⊢
  refine Tot.ite (fun _ => ?_) (fun _ => Tot.ite (fun _ => ?_) (fun _ => Tot.ite (fun _ => ?_) (fun _ => Tot.now ⟨h1, by simp only; omega, by simp only; omega⟩)))
  · refine Tot.bind (one_tot hb (by omega) (by omega) (by simp) (by simp)) ?_
    rintro ⟨v, q3⟩ ⟨e1, e2⟩
    simp only at e1 ⊢
    exact Tot.pos (by omega) (Tot.pos (by omega) (Tot.now ⟨by simp only [List.length_set]; exact h1, by simp only; omega, by simp only; omega⟩))
  · refine Tot.pos (by omega) (Tot.pos (by omega) ?_)
    refine Tot.bind (one_tot hb (by omega) (by omega) (by simp) (by simp)) ?_
    rintro ⟨v, q3⟩ ⟨e1, e2⟩
    simp only at e1 ⊢
    exact Tot.now ⟨by simp only [List.length_set]; exact h1, by simp only; omega, by simp only; omega⟩
  · refine Tot.bind (one_tot hb (by omega) (by omega) (by simp) (by simp)) ?_
    rintro ⟨v, q3⟩ ⟨e1, e2⟩
    simp only at e1 ⊢
    exact Tot.pos (by omega) (Tot.pos (by omega) (Tot.now ⟨by simp only [List.length_set]; exact h1, by simp only; omega, by simp only; omega⟩))
theorem implValidAccount_eq (a : Int) : impl_validAccount.f a = some (decide (0 ≤ a ∧ a ≤ 7)) := by
  unfold impl_validAccount.f
  by_cases h : 0 ≤ a
  · rw [if_pos h]
    congr 1
    rw [decide_eq_decide]; omega
  · rw [if_neg h]
    congr 1
    exact dfalse fun h2 => h h2.1
theorem implValidEntry_tot (e : En) : Tot (fun k => impl_validEntry.f k e.f0 e.f1 e.f2 e.f3) (fun t => t = decide (okE e)) := by
  unfold impl_validEntry.f
  have bad : ¬ okE e → Tot (fun k => impl_validEntry.j0 k true e.f0 e.f1 e.f2 e.f3) (fun t => t = decide (okE e)) := fun h =>
    Tot.step (fun _ => impl_validEntry.j0.eq_2 ..) (Tot.pos rfl (Tot.now (dfalse h)))
  refine Tot.ite (fun h => bad fun h2 => by have := h2.1; omega) (fun h => Tot.ite (fun h1 => bad fun h2 => by have := h2.1; omega) (fun h1 => Tot.ite (fun h3 => bad fun h2 => by have := h2.2.2.2.2; omega) (fun h3 => ?_)))
  refine Tot.step (fun _ => impl_validEntry.j0.eq_2 ..) ?_
  simp only [decide_eq_true_eq, implValidAccount_eq, Option.bind_some]
  refine Tot.ite (fun h4 => Tot.now (dfalse fun h2 => by have := h2.2.2.2.2; omega)) (fun h4 => Tot.ite (fun h5 => Tot.ite (fun h6 => Tot.now ?_) (fun h6 => Tot.now (dfalse fun h2 => h6 h2.2.2.1))) (fun h5 => Tot.now (dfalse fun h2 => h5 h2.2.1)))
  by_cases h7 : e.f1 = e.f2
  · have hf : decide (okE e) = false := (dfalse (p := okE e) (fun h2 => h2.2.2.2.1 h7)).symm
    rw [hf]; simp [h7]
  · rw [← dtrue (p := okE e) ⟨by omega, h5, h6, h7, by omega, by omega⟩]; simp [h7]
theorem implValidEntries_l0 {l : List En} (hl : l.length ≤ 1000000000) : ∀ (r : List En) (i : Nat), l.drop i = r →
    Tot (fun k => impl_ValidEntries.l0 k l l.length i) (fun t => t = decide (∀ x ∈ r, okE x)) := by
  intro r
  induction r with
  | nil =>
    intro i h
    have := drop_nil h
    exact Tot.step (fun _ => impl_ValidEntries.l0.eq_2 ..) (Tot.neg (by omega) (Tot.now (by simp)))
  | cons x r ih =>
    intro i h
    obtain ⟨h1, h2, h3⟩ := drop_cons h
    refine Tot.step (fun _ => impl_ValidEntries.l0.eq_2 ..) ?_
    rw [rdEn_at h3, w64s (by omega)]
    refine Tot.pos (by omega) (Tot.pos (by omega) (Tot.pos (by omega) ?_))
    refine Tot.bind (implValidEntry_tot x) ?_
    rintro _ rfl
    simp only [decide_eq_true_eq]
    refine Tot.ite (fun h4 => (ih (i + 1) h2).mono ?_) (fun h4 => Tot.now (dfalse fun h5 => h4 (h5 x (by simp))))
    rintro t rfl
    rw [decide_eq_decide]
    simp only [List.mem_cons, forall_eq_or_imp]
    exact ⟨fun h => ⟨h4, h⟩, fun h => h.2⟩
theorem implValidEntries_tot {l : List En} (hl : l.length ≤ 1000000000) : Tot (fun k => impl_ValidEntries.f k l) (fun t => t = decide (EV l)) := by
  unfold impl_ValidEntries.f
  refine Tot.ite (fun h => Tot.now (dfalse fun h2 => by have := h2.1; omega)) (fun h => (implValidEntries_l0 hl l 0 rfl).mono ?_)
  rintro t rfl
  rw [decide_eq_decide]
  exact ⟨fun h2 => ⟨by omega, h2⟩, fun h2 => h2.2⟩
theorem inRange_eq (a b c : Int) : spec_inRange.f a b c = some (decide (b ≤ a ∧ a ≤ c)) := by
  unfold spec_inRange.f
  by_cases h : b ≤ a
  · rw [if_pos h]; simp [h]
  · rw [if_neg h]; simp [h]
theorem specValidEntry_eq (e : En) : spec_validEntry.f e.f0 e.f1 e.f2 e.f3 = some (decide (okE e)) := by
  unfold spec_validEntry.f
  simp only [inRange_eq, Option.bind_some, decide_eq_true_eq]
  by_cases h1 : 0 ≤ e.f0 ∧ e.f0 ≤ 999
  · by_cases h2 : 0 ≤ e.f1 ∧ e.f1 ≤ 7
    · by_cases h3 : 0 ≤ e.f2 ∧ e.f2 ≤ 7
      · by_cases h4 : e.f1 = e.f2
        · rw [if_pos h1, if_pos h2, if_pos h3, if_pos h4]
          congr 1; exact dfalse fun h => h.2.2.2.1 h4
        · rw [if_pos h1, if_pos h2, if_pos h3, if_neg h4]
          congr 1; rw [decide_eq_decide]
          exact ⟨fun h => ⟨h1, h2, h3, h4, h⟩, fun h => h.2.2.2.2⟩
      · rw [if_pos h1, if_pos h2, if_neg h3]
        congr 1; exact dfalse fun h => h3 h.2.2.1
    · rw [if_pos h1, if_neg h2]
      congr 1; exact dfalse fun h => h2 h.2.1
  · rw [if_neg h1]
    congr 1; exact dfalse fun h => h1 h.1
theorem specValidEntries_l0 {l : List En} (hl : l.length ≤ 1000000000) : ∀ (r : List En) (i : Nat), l.drop i = r →
    Tot (fun k => spec_validEntries.l0 k l i) (fun t => t = decide (l.length ≤ 40 ∧ ∀ x ∈ r, okE x)) := by
  intro r
  induction r with
  | nil =>
    intro i h
    have := drop_nil h
    refine Tot.step (fun _ => spec_validEntries.l0.eq_2 ..) (Tot.neg (by omega) (Tot.now ?_))
    rw [decide_eq_decide]
    simp
    omega
  | cons x r ih =>
    intro i h
    obtain ⟨h1, h2, h3⟩ := drop_cons h
    refine Tot.step (fun _ => spec_validEntries.l0.eq_2 ..) ?_
    rw [rdEn_at h3, w64s (by omega), specValidEntry_eq]
    simp only [Option.bind_some, decide_eq_true_eq]
    refine Tot.pos (by omega) (Tot.pos (by omega) (Tot.ite (fun h4 => (ih (i + 1) h2).mono ?_) (fun h4 => Tot.now (dfalse fun h5 => h4 (h5.2 x (by simp))))))
    rintro t rfl
    rw [decide_eq_decide]
    simp only [List.mem_cons, forall_eq_or_imp]
    exact ⟨fun h => ⟨h.1, h4, h.2⟩, fun h => ⟨h.1, h.2.2⟩⟩
theorem specValidEntries_tot {l : List En} (hl : l.length ≤ 1000000000) : Tot (fun k => spec_validEntries.f k l) (fun t => t = decide (EV l)) := by
  unfold spec_validEntries.f
  exact specValidEntries_l0 hl l 0 rfl
theorem tmod9_zero (x : Int) : Int.tmod x 9 = 0 ↔ x % 9 = 0 := by
  constructor
  · intro h
    have := Int.dvd_of_tmod_eq_zero h
    omega
  · intro h
    exact Int.tmod_eq_zero_of_dvd (by omega)
theorem wrap_range (x : Int) : -9223372036854775808 ≤ wrap64 x ∧ wrap64 x < 9223372036854775808 := by
  unfold wrap64; omega
def asum : List En → Int
  | [] => 0
  | e :: r => e.f3 + asum r
theorem asum_bound : ∀ {l : List En}, (∀ e ∈ l, okE e) → 0 ≤ asum l ∧ asum l ≤ 1000000 * l.length := by
  intro l
  induction l with
  | nil => intro _; simp [asum]
  | cons e r ih =>
    intro h
    have h1 := ih (fun x hx => h x (List.mem_cons_of_mem _ hx))
    have h2 := (h e (by simp)).2.2.2.2
    simp only [asum, List.length_cons]
    omega
theorem nineOf_eq {n : Int} (hn : 0 ≤ n) : impl_NineOf.f n = some (n % 9) := by
  unfold impl_NineOf.f
  rw [if_neg (by omega), tmod_nn hn]
theorem implCast_l0 {l : List En} {n : Int} (h : EV l) (hn : 0 ≤ n) : ∀ (r : List En) (i : Nat) (acc : Int), l.drop i = r → 0 ≤ acc → acc ≤ 9 * i →
    Tot (fun k => impl_CastOut.l0 k n acc l l.length i) (fun t => t = decide (n % 9 = (acc + asum r) % 9)) := by
  have hl := h.1
  intro r
  induction r with
  | nil =>
    intro i acc hd ha ha2
    have := drop_nil hd
    refine Tot.step (fun _ => impl_CastOut.l0.eq_2 ..) (Tot.neg (by omega) ?_)
    rw [nineOf_eq hn, tmod_nn ha, asum]
    refine Tot.now ?_
    rw [Bool.eq_iff_iff]; simp
  | cons e r ih =>
    intro i acc hd ha ha2
    obtain ⟨h1, h2, h3⟩ := drop_cons hd
    have he := (h.2 e (List.mem_of_getElem? h3)).2.2.2.2
    refine Tot.step (fun _ => impl_CastOut.l0.eq_2 ..) ?_
    rw [rdEn_at h3, w64s (by omega), nineOf_eq (by omega), asum]
    simp only [Option.bind_some]
    rw [w64 (x := acc + e.f3 % 9) (by omega) (by omega)]
    refine Tot.pos (by omega) (Tot.pos (by omega) (Tot.pos (by omega) ((ih (i + 1) _ h2 (by omega) (by omega)).mono ?_)))
    rintro t rfl
    rw [decide_eq_decide]
    omega
theorem specCast_l0 {l : List En} {n : Int} (h : EV l) (hn : 0 ≤ n) : ∀ (r : List En) (i : Nat) (acc : Int), l.drop i = r → 0 ≤ acc → acc ≤ 9 * i →
    Tot (fun k => spec_CastOut.l0 k l n acc i) (fun t => t = decide (n % 9 = (acc + asum r) % 9)) := by
  have hl := h.1
  intro r
  induction r with
  | nil =>
    intro i acc hd ha ha2
    have := drop_nil hd
    refine Tot.step (fun _ => spec_CastOut.l0.eq_2 ..) (Tot.neg (by omega) ?_)
    rw [tmod_nn ha, tmod_nn hn, asum]
    refine Tot.now ?_
    rw [Bool.eq_iff_iff]; simp; omega
  | cons e r ih =>
    intro i acc hd ha ha2
    obtain ⟨h1, h2, h3⟩ := drop_cons hd
    have he := (h.2 e (List.mem_of_getElem? h3)).2.2.2.2
    refine Tot.step (fun _ => spec_CastOut.l0.eq_2 ..) ?_
    rw [rdEn_at h3, w64s (by omega), tmod_nn (by omega : 0 ≤ e.f3), w64 (x := acc + e.f3 % 9) (by omega) (by omega), asum]
    refine Tot.pos (by omega) (Tot.pos (by omega) ((ih (i + 1) _ h2 (by omega) (by omega)).mono ?_))
    rintro t rfl
    rw [decide_eq_decide]
    omega
def CO (l : List En) (n : Int) : Prop := EV l ∧ 0 ≤ n ∧ n % 9 = asum l % 9
instance (l : List En) (n : Int) : Decidable (CO l n) := inferInstanceAs (Decidable (EV l ∧ 0 ≤ n ∧ n % 9 = asum l % 9))
theorem implCastOut_tot {l : List En} {n : Int} (hl : l.length ≤ 1000000000) : Tot (fun k => impl_CastOut.f k l n) (fun t => t = decide (CO l n)) := by
  unfold impl_CastOut.f
  refine Tot.bind (implValidEntries_tot hl) ?_
  rintro _ rfl
  simp only [decide_eq_true_eq]
  refine Tot.ite (fun h => Tot.step (fun _ => impl_CastOut.j0.eq_2 ..) ?_) (fun h => Tot.step (fun _ => impl_CastOut.j0.eq_2 ..) (Tot.pos rfl (Tot.now (dfalse fun h2 => h h2.1))))
  simp only [decide_eq_true_eq]
  refine Tot.ite (fun h2 => Tot.now (dfalse fun h3 => by have := h3.2.1; omega)) (fun h2 => (implCast_l0 h (by omega) l 0 0 rfl (by omega) (by omega)).mono ?_)
  rintro t rfl
  rw [decide_eq_decide]
  exact ⟨fun h3 => ⟨h, by omega, by omega⟩, fun h3 => by have := h3.2.2; omega⟩
theorem specCastOut_tot {l : List En} {n : Int} (hl : l.length ≤ 1000000000) : Tot (fun k => spec_CastOut.f k l n) (fun t => t = decide (CO l n)) := by
  unfold spec_CastOut.f
  refine Tot.bind (specValidEntries_tot hl) ?_
  rintro _ rfl
  simp only [decide_eq_true_eq]
  refine Tot.ite (fun h => Tot.step (fun _ => spec_CastOut.j0.eq_2 ..) ?_) (fun h => Tot.step (fun _ => spec_CastOut.j0.eq_2 ..) (Tot.pos rfl (Tot.now (dfalse fun h2 => h h2.1))))
  simp only [decide_eq_true_eq]
  refine Tot.ite (fun h2 => Tot.now (dfalse fun h3 => by have := h3.2.1; omega)) (fun h2 => (specCast_l0 h (by omega) l 0 0 rfl (by omega) (by omega)).mono ?_)
  rintro t rfl
  rw [decide_eq_decide]
  exact ⟨fun h3 => ⟨h, by omega, by omega⟩, fun h3 => by have := h3.2.2; omega⟩
theorem drawCast_l0 {b : List Int} (hb : ∀ x ∈ b, 0 ≤ x ∧ x < 256) {p : Int} (hp : 0 ≤ p) (hp2 : p ≤ 1000) {l : List En} (hl : l.length ≤ 20) : ∀ (d i : Nat) (s : Int), i + d = l.length → (-9223372036854775808 ≤ s ∧ s < 9223372036854775808) →
    Tot (fun k => spec_DrawCastOut.l0 k l s i b p) (fun r => r.1 = l ∧ -9223372036854775808 ≤ r.2 ∧ r.2 < 9223372036854775808) := by
  intro d
  induction d with
  | zero =>
    intro i s hi hs
    refine Tot.step (fun _ => spec_DrawCastOut.l0.eq_2 ..) (Tot.neg (by omega) ?_)
    refine Tot.bind (one_tot hb hp (by omega) (by simp) (by simp)) ?_
    rintro ⟨n, q⟩ ⟨h1, h2⟩
    simp only [List.mem_cons, List.not_mem_nil, or_false] at h1 h2 ⊢
    have r1 := wrap_range (s + 9)
    have r2 := wrap_range (s + 1)
    have r3 := wrap_range (s + 90)
    refine Tot.now ⟨rfl, ?_⟩
    show -9223372036854775808 ≤ n ∧ n < 9223372036854775808
    omega
  | succ d ih =>
    intro i s hi hs
    refine Tot.step (fun _ => spec_DrawCastOut.l0.eq_2 ..) ?_
    rw [w64s (by omega)]
    exact Tot.pos (by omega) (Tot.pos (by omega) (ih (i + 1) _ (by omega) (wrap_range _)))
theorem law_l1 {l : List En} {n : Int} {o : Bool} (h : EV l) (hn : 0 ≤ n) (hn2 : n < 9223372036854775808) (ho : o = decide (CO l n)) : ∀ (d i : Nat), i + d = 9 → 1 ≤ i → Tot (fun k => laws_FnCastOut.l1 k l n o (asum l) i) (fun t => t = true) := by
  have hl := h.1
  have hb := asum_bound h.2
  intro d
  induction d with
  | zero =>
    intro i hi _
    refine Tot.step (fun _ => laws_FnCastOut.l1.eq_2 ..) (Tot.neg (by omega) ?_)
    refine Tot.bind (implCastOut_tot (by omega)) ?_
    rintro _ rfl
    refine Tot.pos (by rw [decide_eq_true_iff]; exact ⟨h, hb.1, rfl⟩) (Tot.now ?_)
    rw [w64 (x := asum l - n) (by omega) (by omega), ho, beq_iff_eq, Bool.eq_iff_iff, decide_eq_true_iff, beq_iff_eq]
    unfold CO
    have e : Int.tmod (asum l - n) 9 = 0 ↔ n % 9 = asum l % 9 := by rw [tmod9_zero]; omega
    rw [e]
    exact ⟨fun h2 => h2.2.2, fun h2 => ⟨h, hn, h2⟩⟩
  | succ d ih =>
    intro i hi hi2
    refine Tot.step (fun _ => laws_FnCastOut.l1.eq_2 ..) (Tot.pos (by omega) ?_)
    rw [w64s (by omega), w64 (x := asum l + (i : Int)) (by omega) (by omega)]
    refine Tot.bind (implCastOut_tot (by omega)) ?_
    rintro _ rfl
    refine Tot.neg (by rw [decide_eq_true_iff]; intro h2; have := h2.2.2; omega) (ih (i + 1) (by omega) (by omega))
theorem law_l0 {l : List En} {n : Int} {o : Bool} (h : EV l) (hn : 0 ≤ n) (hn2 : n < 9223372036854775808) (ho : o = decide (CO l n)) : ∀ (r : List En) (i : Nat) (acc : Int), l.drop i = r → 0 ≤ acc → acc ≤ 1000000 * i → acc + asum r = asum l → Tot (fun k => laws_FnCastOut.l0 k l n o acc i) (fun t => t = true) := by
  have hl := h.1
  intro r
  induction r with
  | nil =>
    intro i acc hd ha ha2 hs
    have := drop_nil hd
    refine Tot.step (fun _ => laws_FnCastOut.l0.eq_2 ..) (Tot.neg (by omega) ?_)
    rw [asum] at hs
    have e : acc = asum l := by omega
    rw [e]
    exact law_l1 h hn hn2 ho 8 1 rfl (Nat.le_refl _)
  | cons e r ih =>
    intro i acc hd ha ha2 hs
    obtain ⟨h1, h2, h3⟩ := drop_cons hd
    have he := (h.2 e (List.mem_of_getElem? h3)).2.2.2.2
    rw [asum] at hs
    refine Tot.step (fun _ => laws_FnCastOut.l0.eq_2 ..) ?_
    rw [rdEn_at h3, w64s (by omega), w64 (x := acc + e.f3) (by omega) (by omega)]
    exact Tot.pos (by omega) (Tot.pos (by omega) (ih (i + 1) _ h2 (by omega) (by omega) (by omega)))
theorem FnCastOut : laws_FnCastOut.Pure := by
  intro l hl hl2 hw
  refine Tot.ends (g := fun k => laws_FnCastOut.f k l) ?_
  unfold laws_FnCastOut.f spec_DrawCastOut.f
  refine Tot.ite (fun _ => Tot.now rfl) (fun _ => ?_)
  obtain ⟨b, hb, hb2, hb3⟩ := newReader_tot hw
  rw [hb]
  simp only [Option.bind_some]
  refine Tot.bind (P := fun r => r.1.length ≤ 20 ∧ -9223372036854775808 ≤ r.2 ∧ r.2 < 9223372036854775808) (Tot.bind (anyEntries_tot hb3 (Int.le_refl _) (by omega)) ?_) ?_
  · rintro ⟨es, p⟩ ⟨h1, h2, h3⟩
    simp only at h1 h2 h3 ⊢
    refine (drawCast_l0 hb3 (by omega) (by omega) h1 es.length 0 0 (by omega) (by omega)).mono ?_
    rintro r ⟨g1, g2⟩
    rw [g1]; exact ⟨h1, g2⟩
  rintro ⟨es, n⟩ ⟨h1, h2, h3⟩
  simp only at h1 h2 h3 ⊢
  refine Tot.bind (implCastOut_tot (by omega)) ?_
  rintro _ rfl
  refine Tot.bind (specCastOut_tot (by omega)) ?_
  rintro _ rfl
  refine Tot.neg (by simp) ?_
  refine Tot.bind (implValidEntries_tot (by omega)) ?_
  rintro _ rfl
  simp only [decide_eq_true_eq]
  have again : ∀ o, o = decide (CO es n) → Tot (fun k => (spec_CastOut.f k es n).bind fun t211 => some (o == t211)) (fun t => t = true) := by
    intro o ho
    refine Tot.bind (specCastOut_tot (by omega)) ?_
    rintro _ rfl
    exact Tot.now (by rw [ho]; simp)
  refine Tot.ite (fun h => Tot.step (fun _ => laws_FnCastOut.j0.eq_2 ..) ?_) (fun h => Tot.step (fun _ => laws_FnCastOut.j0.eq_2 ..) (Tot.pos rfl (again _ rfl)))
  simp only [decide_eq_true_eq]
  exact Tot.ite (fun _ => again _ rfl) (fun h4 => law_l0 h (by omega) h3 rfl es 0 0 rfl (by omega) (by omega) (by omega))
end Go.Proofs.Ytpbhpkgilkfckaa.Pure
