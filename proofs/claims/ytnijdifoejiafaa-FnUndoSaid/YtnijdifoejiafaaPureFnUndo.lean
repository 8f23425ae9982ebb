/- FnUndo: for every code, the list that undoes a list is the reference's, undoes all saldi, and is itself undone by the list. No condition beyond the statement's own. -/
import Derived.Test.YtnijdifoejiafaaQFnUndox5
import Derived.Test.YtnijdifoejiafaaCore
namespace Go.Proofs.Ytnijdifoejiafaa.Pure
open Go.RowKit Go.Proofs.Ytnijdifoejiafaa.PFnUndo Go.Proofs.YtnijdifoejiafaaW.PrintWords
set_option linter.unusedSimpArgs false
set_option linter.unusedVariables false

/-! the reader -/
theorem pick_tot {b : List Int} (hb : ∀ x ∈ b, 0 ≤ x ∧ x < 256) {p n : Int} (hp : 0 ≤ p) (hp2 : p ≤ 1000000000) (hn : n ≤ 1000000000000) :
    Tot (fun k => spec_reader_pick.f k b p n) (fun r => r.2 = p + 1 ∧ 0 ≤ r.1 ∧ (r.1 < n ∨ r.1 = 0)) := by
  have e1 : wrap64 (p + 1) = p + 1 := w64 (by omega) (by omega)
  have e2 : wrap64 (p + 1 - 1) = p := by rw [w64 (by omega) (by omega)]; omega
  have main : ∀ t : Bool, (t = false → 1 ≤ n ∧ b.length ≠ 0) → Tot (fun k => spec_reader_pick.j0 k n t b (p + 1)) (fun r => r.2 = p + 1 ∧ 0 ≤ r.1 ∧ (r.1 < n ∨ r.1 = 0)) := by
    intro t ht
    refine Tot.step (fun _ => spec_reader_pick.j0.eq_2 ..) ?_
    simp only [e2]
    cases t with
    | true => exact Tot.pos rfl (Tot.now ⟨rfl, Int.le_refl _, .inr rfl⟩)
    | false =>
      obtain ⟨hn1, hne⟩ := ht rfl
      refine Tot.neg (by simp) ?_
      by_cases hlt : p < (b.length : Int)
      · refine Tot.pos hlt (Tot.pos hp (Tot.neg (by omega) ?_))
        have hr := hb _ (rd_mem hp hlt)
        rw [w64 (x := rd b p) (by omega) (by omega), tmod_nn hr.1]
        exact Tot.now ⟨rfl, Int.emod_nonneg _ (by omega), .inl (Int.emod_lt_of_pos _ (by omega))⟩
      · refine Tot.neg hlt (Tot.neg (by omega) ?_)
        have hlen : 0 < (b.length : Int) := by omega
        have i1 : 0 ≤ Int.tmod p b.length ∧ Int.tmod p b.length < b.length := by
          rw [tmod_nn hp]; exact ⟨Int.emod_nonneg _ (by omega), Int.emod_lt_of_pos _ hlen⟩
        have e3 : wrap64 (wrap64 (p * 7) + 3) = p * 7 + 3 := by
          rw [w64 (x := p * 7) (by omega) (by omega)]; exact w64 (by omega) (by omega)
        rw [e3]
        have i2 : 0 ≤ Int.tmod (p * 7 + 3) b.length ∧ Int.tmod (p * 7 + 3) b.length < b.length := by
          rw [tmod_nn (by omega)]; exact ⟨Int.emod_nonneg _ (by omega), Int.emod_lt_of_pos _ hlen⟩
        refine Tot.pos i1.1 (Tot.pos i1.2 (Tot.pos i2.1 (Tot.pos i2.2 (Tot.neg (by omega) ?_))))
        have hu := hb _ (rd_mem i1.1 i1.2)
        have hv := hb _ (rd_mem i2.1 i2.2)
        have hq : 0 ≤ Int.tdiv p b.length ∧ Int.tdiv p b.length ≤ p := by
          rw [tdiv_nn hp]
          exact ⟨Int.ediv_nonneg hp (by omega), Int.ediv_le_self _ hp⟩
        generalize rd b (Int.tmod p b.length) = u at hu ⊢
        generalize rd b (Int.tmod (p * 7 + 3) b.length) = v at hv ⊢
        generalize Int.tdiv p b.length = q at hq ⊢
        rw [w64 (x := u) (by omega) (by omega), w64 (x := v) (by omega) (by omega), w64 (x := q) (by omega) (by omega), w64 (x := u * 131) (by omega) (by omega), w64 (x := v * 1117) (by omega) (by omega), w64 (x := p * 29) (by omega) (by omega), w64 (x := q * 53) (by omega) (by omega),
          w64 (x := u * 131 + v * 1117) (by omega) (by omega), w64 (x := u * 131 + v * 1117 + p * 29) (by omega) (by omega), w64 (x := u * 131 + v * 1117 + p * 29 + q * 53) (by omega) (by omega)]
        have hx : 0 ≤ u * 131 + v * 1117 + p * 29 + q * 53 ∧ u * 131 + v * 1117 + p * 29 + q * 53 < 4611686018427387904 := by omega
        generalize u * 131 + v * 1117 + p * 29 + q * 53 = x at hx ⊢
        rw [tdiv_nn hx.1, w64 (x := x / 64) (by omega) (by omega)]
        have hz := xor_nn hx.1 hx.2 (b := x / 64) (by omega) (by omega)
        rw [tmod_nn hz]
        exact Tot.now ⟨rfl, Int.emod_nonneg _ (by omega), .inl (Int.emod_lt_of_pos _ (by omega))⟩
  unfold spec_reader_pick.f
  rw [e1]
  refine Tot.ite (fun _ => main true (fun h => by cases h)) (fun h => main _ (fun h2 => ⟨by omega, fun h3 => ?_⟩))
  rw [h3] at h2
  simp at h2
theorem one_tot {b : List Int} (hb : ∀ x ∈ b, 0 ≤ x ∧ x < 256) {p : Int} (hp : 0 ≤ p) (hp2 : p ≤ 1000000000) {l : List Int} (hl : 0 < l.length) (hl2 : l.length ≤ 1000) :
    Tot (fun k => spec_reader_one.f k b p l) (fun r => r.2 = p + 1 ∧ r.1 ∈ l) := by
  unfold spec_reader_one.f
  refine Tot.bind (pick_tot hb hp hp2 (by omega)) ?_
  rintro ⟨v, q⟩ ⟨h1, h2, h3⟩
  simp only at h1 h2 h3 ⊢
  have h4 : v < (l.length : Int) := by omega
  exact Tot.pos h2 (Tot.pos h4 (Tot.now ⟨h1, rd_mem h2 h4⟩))
theorem newReader_tot {l : List Int} (h : ∀ x ∈ l, (Lit.int .u8 x).wf = true) : ∃ b, spec_newReader.f l = some (b, 0) ∧ b.length ≤ 2000 ∧ ∀ x ∈ b, 0 ≤ x ∧ x < 256 := by
  unfold spec_newReader.f
  by_cases h1 : (l.length : Int) > 2000
  · rw [if_pos h1, if_pos (by omega)]
    exact ⟨_, rfl, by simp; omega, fun x hx => wf_u8 (h x (List.mem_of_mem_take hx))⟩
  · rw [if_neg h1]
    exact ⟨_, rfl, by omega, fun x hx => wf_u8 (h x hx)⟩
def sumL : List Int → Int
  | [] => 0
  | x :: r => x + sumL r
theorem sumL_bound {l : List Int} (h : ∀ x ∈ l, 0 ≤ x ∧ x ≤ 1000000) : 0 ≤ sumL l ∧ sumL l ≤ 1000000 * l.length := by
  induction l with
  | nil => simp [sumL]
  | cons x r ih =>
    have h1 := ih (fun y hy => h y (List.mem_cons_of_mem _ hy))
    have h2 := h x (by simp)
    simp only [sumL, List.length_cons]
    omega
/-- A valid body. -/
def VB (ws : List Int) (need : Int) : Prop := (1 ≤ ws.length ∧ ws.length ≤ 12) ∧ (∀ w ∈ ws, 0 ≤ w ∧ w ≤ 100) ∧ 1 ≤ need ∧ need ≤ sumL ws
instance (ws : List Int) (need : Int) : Decidable (VB ws need) := inferInstanceAs (Decidable ((1 ≤ ws.length ∧ ws.length ≤ 12) ∧ (∀ w ∈ ws, 0 ≤ w ∧ w ≤ 100) ∧ 1 ≤ need ∧ need ≤ sumL ws))
theorem dfalse {p : Prop} {i : Decidable p} (h : ¬ p) : false = @decide p i := by
  symm; rw [decide_eq_false_iff_not]; exact h
theorem dtrue {p : Prop} {i : Decidable p} (h : p) : true = @decide p i := by
  symm; rw [decide_eq_true_iff]; exact h
/-! entries -/
abbrev En := S84
def okE (e : En) : Prop := (0 ≤ e.f0 ∧ e.f0 ≤ 999) ∧ (0 ≤ e.f1 ∧ e.f1 ≤ 7) ∧ (0 ≤ e.f2 ∧ e.f2 ≤ 7) ∧ e.f1 ≠ e.f2 ∧ 1 ≤ e.f3 ∧ e.f3 ≤ 1000000
instance (e : En) : Decidable (okE e) := inferInstanceAs (Decidable ((0 ≤ e.f0 ∧ e.f0 ≤ 999) ∧ (0 ≤ e.f1 ∧ e.f1 ≤ 7) ∧ (0 ≤ e.f2 ∧ e.f2 ≤ 7) ∧ e.f1 ≠ e.f2 ∧ 1 ≤ e.f3 ∧ e.f3 ≤ 1000000))
def EV (l : List En) : Prop := l.length ≤ 40 ∧ ∀ e ∈ l, okE e
instance (l : List En) : Decidable (EV l) := inferInstanceAs (Decidable (l.length ≤ 40 ∧ ∀ e ∈ l, okE e))
def chg (a : Int) (e : En) : Int := if a = e.f2 then e.f3 else if a = e.f1 then -e.f3 else 0
theorem rdEn_at {l : List En} {i : Nat} {r : En} (h : l[i]? = some r) : rd_T84 l (i : Int) = r := by
  simp [rd_T84, List.getD_eq_getElem?_getD, h]
def came (a : Int) : List En → Int
  | [] => 0
  | e :: r => (if e.f2 = a then e.f3 else 0) + came a r
def went (a : Int) : List En → Int
  | [] => 0
  | e :: r => (if e.f1 = a then e.f3 else 0) + went a r
def sald (a day : Int) : List En → Int
  | [] => 0
  | e :: r => (if e.f0 ≤ day then chg a e else 0) + sald a day r
theorem someEntries_l0 {b : List Int} (hb : ∀ x ∈ b, 0 ≤ x ∧ x < 256) : ∀ (d : Nat) (out : List En) (p : Int), 0 ≤ p → p + 8 * d ≤ 1000000 → out.length + 2 * d ≤ 1000 →
    Tot (fun k => spec_someEntries.l0 k out d b p) (fun r => r.1.length ≤ out.length + 2 * d ∧ p ≤ r.2 ∧ r.2 ≤ p + 8 * d) := by
  intro d
  induction d with
  | zero =>
    intro out p hp hp2 ho
    exact Tot.step (fun _ => spec_someEntries.l0.eq_2 ..) (Tot.neg (by omega) (Tot.now ⟨by simp, by simp, by simp⟩))
  | succ d ih =>
    intro out p hp hp2 ho
    refine Tot.step (fun _ => spec_someEntries.l0.eq_2 ..) (Tot.pos (by omega) ?_)
    have e : wrap64 (((d + 1 : Nat) : Int) - 1) = (d : Int) := by rw [w64 (by omega) (by omega)]; omega
    rw [e]
    refine Tot.bind (pick_tot hb hp (by omega) (by omega)) ?_
    rintro ⟨v1, q1⟩ ⟨h1, h2, h3⟩
    simp only at h1 h2 h3 ⊢
    refine Tot.bind (pick_tot hb (by omega) (by omega) (by omega)) ?_
    rintro ⟨v2, q2⟩ ⟨g1, g2, g3⟩
    simp only at g1 g2 g3 ⊢
    refine Tot.bind (pick_tot hb (by omega) (by omega) (by omega)) ?_
    rintro ⟨v3, q3⟩ ⟨f1, f2, f3⟩
    simp only at f1 f2 f3 ⊢
    refine Tot.bind (pick_tot hb (by omega) (by omega) (by omega)) ?_
    rintro ⟨v4, q4⟩ ⟨e1, e2, e3⟩
    simp only at e1 e2 e3 ⊢
    refine Tot.bind (pick_tot hb (by omega) (by omega) (by omega)) ?_
    rintro ⟨v5, q5⟩ ⟨d1, d2, d3⟩
    simp only at d1 d2 d3 ⊢
    refine Tot.bind (one_tot hb (by omega) (by omega) (by simp) (by simp)) ?_
    rintro ⟨v6, q6⟩ ⟨c1, c2⟩
    simp only at c1 ⊢
    clear c2
    refine Tot.pos (by omega) (Tot.known ?_)
    generalize hy : out ++ [(⟨v2, v1, Int.tmod (wrap64 ((wrap64 (v1 + 1)) + v3)) 5, v6⟩ : En)] = y
    have hyl : y.length = out.length + 1 := by rw [← hy]; simp
    refine Tot.bind (pick_tot hb (by omega) (by omega) (by omega)) ?_
    rintro ⟨v7, q7⟩ ⟨b1, b2, b3⟩
    simp only at b1 b2 b3 ⊢
    refine Tot.ite (fun h4 => ?_) (fun h4 => ?_)
    · refine Tot.bind (pick_tot hb (by omega) (by omega) (by omega)) ?_
      rintro ⟨v8, q8⟩ ⟨a1, a2, a3⟩
      simp only at a1 a2 a3 ⊢
      refine Tot.pos (by omega) (Tot.pos (by omega) (Tot.pos (by omega) ((ih _ q8 (by omega) (by omega) (by simp; omega)).mono ?_)))
      rintro r ⟨z1, z2, z3⟩
      refine ⟨?_, by omega, by omega⟩
      rw [List.length_append] at z1
      simp only [List.length_cons, List.length_nil] at z1
      omega
    · refine (ih _ q7 (by omega) (by omega) (by omega)).mono ?_
      rintro r ⟨z1, z2, z3⟩
      exact ⟨by omega, by omega, by omega⟩
theorem anyEntries_tot {b : List Int} (hb : ∀ x ∈ b, 0 ≤ x ∧ x < 256) {p : Int} (hp : 0 ≤ p) (hp2 : p ≤ 1000) :
    Tot (fun k => spec_anyEntries.f k b p) (fun r => r.1.length ≤ 20 ∧ p ≤ r.2 ∧ r.2 ≤ p + 100) := by
  unfold spec_anyEntries.f
  refine Tot.bind (P := fun r => r.1.length ≤ 20 ∧ p ≤ r.2 ∧ r.2 ≤ p + 90) ?_ ?_
  · unfold spec_someEntries.f
    refine Tot.bind (one_tot hb hp (by omega) (by simp) (by simp)) ?_
    rintro ⟨n, q⟩ ⟨h1, h2⟩
    simp only [List.mem_cons, List.not_mem_nil, or_false] at h1 h2 ⊢
    obtain ⟨m, rfl⟩ := Int.eq_ofNat_of_zero_le (a := n) (by omega)
    refine (someEntries_l0 hb m [] q (by omega) (by omega) (by simp; omega)).mono ?_
    rintro r ⟨b1, b2, b3⟩
    simp only [List.length_nil] at b1
    exact ⟨by omega, by omega, by omega⟩
  rintro ⟨l, q⟩ ⟨h1, h2, h3⟩
  simp only at h1 h2 h3 ⊢
  refine Tot.ite (fun h0 => ?_) (fun h0 => Tot.now ⟨h1, h2, by simp only; omega⟩)
  refine Tot.bind (pick_tot hb (by omega) (by omega) (by omega)) ?_
  rintro ⟨i, q1⟩ ⟨g1, g2, g3⟩
  simp only at g1 g2 g3 ⊢
  refine Tot.bind (pick_tot hb (by omega) (by omega) (by omega)) ?_
  rintro ⟨c, q2⟩ ⟨f1, f2, f3⟩
  simp only at f1 f2 f3 ⊢
  refine Tot.ite (fun _ => ?_) (fun _ => Tot.ite (fun _ => ?_) (fun _ => Tot.ite (fun _ => ?_) (fun _ => Tot.now ⟨h1, by simp only; omega, by simp only; omega⟩)))
  · refine Tot.bind (one_tot hb (by omega) (by omega) (by simp) (by simp)) ?_
    rintro ⟨v, q3⟩ ⟨e1, e2⟩
    simp only at e1 ⊢
    exact Tot.pos (by omega) (Tot.pos (by omega) (Tot.now ⟨by simp only [List.length_set]; exact h1, by simp only; omega, by simp only; omega⟩))
  · refine Tot.pos (by omega) (Tot.pos (by omega) ?_)
    refine Tot.bind (one_tot hb (by omega) (by omega) (by simp) (by simp)) ?_
    rintro ⟨v, q3⟩ ⟨e1, e2⟩
    simp only at e1 ⊢
    exact Tot.now ⟨by simp only [List.length_set]; exact h1, by simp only; omega, by simp only; omega⟩
  · refine Tot.bind (one_tot hb (by omega) (by omega) (by simp) (by simp)) ?_
    rintro ⟨v, q3⟩ ⟨e1, e2⟩
    simp only at e1 ⊢
    exact Tot.pos (by omega) (Tot.pos (by omega) (Tot.now ⟨by simp only [List.length_set]; exact h1, by simp only; omega, by simp only; omega⟩))
theorem implValidAccount_eq (a : Int) : impl_validAccount.f a = some (decide (0 ≤ a ∧ a ≤ 7)) := by
  unfold impl_validAccount.f
  by_cases h : 0 ≤ a
  · rw [if_pos h]
    congr 1
    rw [decide_eq_decide]; omega
  · rw [if_neg h]
    congr 1
    exact dfalse fun h2 => h h2.1
theorem implValidEntry_tot (e : En) : Tot (fun k => impl_validEntry.f k e.f0 e.f1 e.f2 e.f3) (fun t => t = decide (okE e)) := by
  unfold impl_validEntry.f
  have bad : ¬ okE e → Tot (fun k => impl_validEntry.j0 k true e.f0 e.f1 e.f2 e.f3) (fun t => t = decide (okE e)) := fun h =>
    Tot.step (fun _ => impl_validEntry.j0.eq_2 ..) (Tot.pos rfl (Tot.now (dfalse h)))
  refine Tot.ite (fun h => bad fun h2 => by have := h2.1; omega) (fun h => Tot.ite (fun h1 => bad fun h2 => by have := h2.1; omega) (fun h1 => Tot.ite (fun h3 => bad fun h2 => by have := h2.2.2.2.2; omega) (fun h3 => ?_)))
  refine Tot.step (fun _ => impl_validEntry.j0.eq_2 ..) ?_
  simp only [decide_eq_true_eq, implValidAccount_eq, Option.bind_some]
  refine Tot.ite (fun h4 => Tot.now (dfalse fun h2 => by have := h2.2.2.2.2; omega)) (fun h4 => Tot.ite (fun h5 => Tot.ite (fun h6 => Tot.now ?_) (fun h6 => Tot.now (dfalse fun h2 => h6 h2.2.2.1))) (fun h5 => Tot.now (dfalse fun h2 => h5 h2.2.1)))
  by_cases h7 : e.f1 = e.f2
  · have hf : decide (okE e) = false := (dfalse (p := okE e) (fun h2 => h2.2.2.2.1 h7)).symm
    rw [hf]; simp [h7]
  · rw [← dtrue (p := okE e) ⟨by omega, h5, h6, h7, by omega, by omega⟩]; simp [h7]
theorem implValidEntries_l0 {l : List En} (hl : l.length ≤ 1000000000) : ∀ (r : List En) (i : Nat), l.drop i = r →
    Tot (fun k => impl_ValidEntries.l0 k l l.length i) (fun t => t = decide (∀ x ∈ r, okE x)) := by
  intro r
  induction r with
  | nil =>
    intro i h
    have := drop_nil h
    exact Tot.step (fun _ => impl_ValidEntries.l0.eq_2 ..) (Tot.neg (by omega) (Tot.now (by simp)))
  | cons x r ih =>
    intro i h
    obtain ⟨h1, h2, h3⟩ := drop_cons h
    refine Tot.step (fun _ => impl_ValidEntries.l0.eq_2 ..) ?_
    rw [rdEn_at h3, w64s (by omega)]
    refine Tot.pos (by omega) (Tot.pos (by omega) (Tot.pos (by omega) ?_))
    refine Tot.bind (implValidEntry_tot x) ?_
    rintro _ rfl
    simp only [decide_eq_true_eq]
    refine Tot.ite (fun h4 => (ih (i + 1) h2).mono ?_) (fun h4 => Tot.now (dfalse fun h5 => h4 (h5 x (by simp))))
    rintro t rfl
    rw [decide_eq_decide]
    simp only [List.mem_cons, forall_eq_or_imp]
    exact ⟨fun h => ⟨h4, h⟩, fun h => h.2⟩
theorem implValidEntries_tot {l : List En} (hl : l.length ≤ 1000000000) : Tot (fun k => impl_ValidEntries.f k l) (fun t => t = decide (EV l)) := by
  unfold impl_ValidEntries.f
  refine Tot.ite (fun h => Tot.now (dfalse fun h2 => by have := h2.1; omega)) (fun h => (implValidEntries_l0 hl l 0 rfl).mono ?_)
  rintro t rfl
  rw [decide_eq_decide]
  exact ⟨fun h2 => ⟨by omega, h2⟩, fun h2 => h2.2⟩
theorem inRange_eq (a b c : Int) : spec_inRange.f a b c = some (decide (b ≤ a ∧ a ≤ c)) := by
  unfold spec_inRange.f
  by_cases h : b ≤ a
  · rw [if_pos h]; simp [h]
  · rw [if_neg h]; simp [h]
theorem specValidEntry_eq (e : En) : spec_validEntry.f e.f0 e.f1 e.f2 e.f3 = some (decide (okE e)) := by
  unfold spec_validEntry.f
  simp only [inRange_eq, Option.bind_some, decide_eq_true_eq]
  by_cases h1 : 0 ≤ e.f0 ∧ e.f0 ≤ 999
  · by_cases h2 : 0 ≤ e.f1 ∧ e.f1 ≤ 7
    · by_cases h3 : 0 ≤ e.f2 ∧ e.f2 ≤ 7
      · by_cases h4 : e.f1 = e.f2
        · rw [if_pos h1, if_pos h2, if_pos h3, if_pos h4]
          congr 1; exact dfalse fun h => h.2.2.2.1 h4
        · rw [if_pos h1, if_pos h2, if_pos h3, if_neg h4]
          congr 1; rw [decide_eq_decide]
          exact ⟨fun h => ⟨h1, h2, h3, h4, h⟩, fun h => h.2.2.2.2⟩
      · rw [if_pos h1, if_pos h2, if_neg h3]
        congr 1; exact dfalse fun h => h3 h.2.2.1
    · rw [if_pos h1, if_neg h2]
      congr 1; exact dfalse fun h => h2 h.2.1
  · rw [if_neg h1]
    congr 1; exact dfalse fun h => h1 h.1
theorem specValidEntries_l0 {l : List En} (hl : l.length ≤ 1000000000) : ∀ (r : List En) (i : Nat), l.drop i = r →
    Tot (fun k => spec_validEntries.l0 k l i) (fun t => t = decide (l.length ≤ 40 ∧ ∀ x ∈ r, okE x)) := by
  intro r
  induction r with
  | nil =>
    intro i h
    have := drop_nil h
    refine Tot.step (fun _ => spec_validEntries.l0.eq_2 ..) (Tot.neg (by omega) (Tot.now ?_))
    rw [decide_eq_decide]
    simp
    omega
  | cons x r ih =>
    intro i h
    obtain ⟨h1, h2, h3⟩ := drop_cons h
    refine Tot.step (fun _ => spec_validEntries.l0.eq_2 ..) ?_
    rw [rdEn_at h3, w64s (by omega), specValidEntry_eq]
    simp only [Option.bind_some, decide_eq_true_eq]
    refine Tot.pos (by omega) (Tot.pos (by omega) (Tot.ite (fun h4 => (ih (i + 1) h2).mono ?_) (fun h4 => Tot.now (dfalse fun h5 => h4 (h5.2 x (by simp))))))
    rintro t rfl
    rw [decide_eq_decide]
    simp only [List.mem_cons, forall_eq_or_imp]
    exact ⟨fun h => ⟨h.1, h4, h.2⟩, fun h => ⟨h.1, h.2.2⟩⟩
theorem specValidEntries_tot {l : List En} (hl : l.length ≤ 1000000000) : Tot (fun k => spec_validEntries.f k l) (fun t => t = decide (EV l)) := by
  unfold spec_validEntries.f
  exact specValidEntries_l0 hl l 0 rfl
/-! the list that undoes a list -/
def Und (l : List En) : List En := (l.map impl_Undo.swp).reverse
theorem und_len (l : List En) : (Und l).length = l.length := by simp [Und]
theorem und_cons (x : En) (r : List En) : Und (x :: r) = Und r ++ [impl_Undo.swp x] := by simp [Und]
theorem swp_ok {e : En} (h : okE e) : okE (impl_Undo.swp e) := ⟨h.1, h.2.2.1, h.2.1, fun h2 => h.2.2.2.1 h2.symm, h.2.2.2.2⟩
theorem und_EV {l : List En} (h : EV l) : EV (Und l) := by
  refine ⟨by rw [und_len]; exact h.1, fun e he => ?_⟩
  unfold Und at he
  rw [List.mem_reverse, List.mem_map] at he
  obtain ⟨x, hx, rfl⟩ := he
  exact swp_ok (h.2 x hx)
theorem und_und (l : List En) : Und (Und l) = l := by
  unfold Und
  rw [List.map_reverse, List.reverse_reverse, List.map_map]
  have : (impl_Undo.swp ∘ impl_Undo.swp : En → En) = id := rfl
  rw [this, List.map_id]
theorem implUndo_tot {l : List En} (hl : l.length ≤ 1000000000) : Tot (fun k => impl_Undo.f k l) (fun t => t = if EV l then Und l else []) := by
  unfold impl_Undo.f
  refine Tot.bind (implValidEntries_tot hl) ?_
  rintro _ rfl
  by_cases h : EV l
  · rw [if_pos h]
    have := h.1
    exact Tot.pos (decide_eq_true h) (Tot.pos (by omega) (Tot.now rfl))
  · rw [if_neg h]
    exact Tot.neg (by simpa using h) (Tot.now rfl)
theorem specUndo_l0 {l : List En} (hl : l.length ≤ 1000000000) : ∀ (m : Nat), m ≤ l.length → Tot (fun k => spec_Undo.l0 k l (Und (l.drop m)) ((m : Int) - 1)) (fun t => t = Und l) := by
  intro m
  induction m with
  | zero =>
    intro _
    exact Tot.step (fun _ => spec_Undo.l0.eq_2 ..) (Tot.neg (by omega) (Tot.now rfl))
  | succ m ih =>
    intro hm
    have hg : l[m]? = some l[m] := List.getElem?_eq_getElem (by omega)
    refine Tot.step (fun _ => spec_Undo.l0.eq_2 ..) ?_
    have e : ((m + 1 : Nat) : Int) - 1 = (m : Int) := by omega
    rw [e, rdEn_at hg, w64 (x := (m : Int) - 1) (by omega) (by omega)]
    refine Tot.pos (by omega) (Tot.pos (by omega) (Tot.pos (by omega) (Tot.pos (by rw [und_len, List.length_drop]; omega) ?_)))
    have h := ih (by omega)
    rw [List.drop_eq_getElem_cons (show m < l.length by omega), und_cons] at h
    exact h
theorem specUndo_tot {l : List En} (hl : l.length ≤ 1000000000) : Tot (fun k => spec_Undo.f k l) (fun t => t = if EV l then Und l else []) := by
  unfold spec_Undo.f
  refine Tot.bind (specValidEntries_tot hl) ?_
  rintro _ rfl
  by_cases h : EV l
  · rw [if_pos h]
    refine Tot.pos (decide_eq_true h) ?_
    have h2 := specUndo_l0 hl l.length (Nat.le_refl _)
    rw [List.drop_length] at h2
    rw [w64 (x := (l.length : Int) - 1) (by omega) (by omega)]
    exact h2
  · rw [if_neg h]
    exact Tot.neg (by simpa using h) (Tot.now rfl)
theorem undOr_len (l : List En) : (if EV l then Und l else []).length ≤ l.length := by
  split
  · rw [und_len]; exact Nat.le_refl _
  · simp
/-! what each account has -/
def net1 (a : Int) : List En → Int
  | [] => 0
  | e :: r => chg a e + net1 a r
theorem net1_snoc (a : Int) (p : List En) (e : En) : net1 a (p ++ [e]) = net1 a p + chg a e := by
  induction p with
  | nil => simp [net1]
  | cons x p ih => rw [List.cons_append, net1, net1, ih]; omega
theorem net1_bound {a : Int} {p : List En} (h : ∀ e ∈ p, okE e) : -(1000000 * p.length) ≤ net1 a p ∧ net1 a p ≤ 1000000 * p.length := by
  induction p with
  | nil => simp [net1]
  | cons x p ih =>
    have h1 := ih (fun e he => h e (List.mem_cons_of_mem _ he))
    have h2 := h x (by simp)
    have h3 := h2.2.2.2.2
    have h4 : -1000000 ≤ chg a x ∧ chg a x ≤ 1000000 := by
      unfold chg; split
      · omega
      · split <;> omega
    rw [net1, List.length_cons]
    omega
def salA (p : List En) : List Int := (List.range 8).map (fun v : Nat => net1 v p)
theorem salA_len (p : List En) : (salA p).length = 8 := by simp [salA]
theorem rd_salA {p : List En} {w : Int} (h0 : 0 ≤ w) (h1 : w ≤ 7) : rd (salA p) w = net1 w p := by
  have hlt : w.toNat < (salA p).length := by rw [salA_len]; omega
  have e : (w.toNat : Int) = w := by omega
  have h2 := rd_get hlt
  rw [e] at h2
  rw [h2]
  simp only [salA, List.getElem_map, List.getElem_range, e]
theorem rd_set_ne {xs : List Int} {i : Nat} {y w : Int} (h : w.toNat ≠ i) : rd (xs.set i y) w = rd xs w := by
  simp [rd, List.getD_eq_getElem?_getD, List.getElem?_set_ne (Ne.symm h)]
theorem salA_set2 {p : List En} {e : En} {u v : Int} (hu : 0 ≤ u ∧ u ≤ 7) (hv : 0 ≤ v ∧ v ≤ 7) (h : ∀ w : Int, w ≠ u → w ≠ v → chg w e = 0) :
    ((salA p).set u.toNat (net1 u p + chg u e)).set v.toNat (net1 v p + chg v e) = salA (p ++ [e]) := by
  refine List.ext_getElem (by simp [salA]) (fun i h1 h2 => ?_)
  have hi : i < 8 := by simpa [salA] using h2
  rw [List.getElem_set, List.getElem_set]
  simp only [salA, List.getElem_map, List.getElem_range]
  rw [net1_snoc]
  by_cases g : v.toNat = i
  · rw [if_pos g, show (i : Int) = v from by omega]
  · rw [if_neg g]
    by_cases g2 : u.toNat = i
    · rw [if_pos g2, show (i : Int) = u from by omega]
    · rw [if_neg g2, h (i : Int) (by omega) (by omega), Int.add_zero]
theorem chg_1 {e : En} (he : okE e) : chg e.f1 e = -e.f3 := by
  unfold chg; rw [if_neg he.2.2.2.1, if_pos rfl]
theorem chg_2 {e : En} : chg e.f2 e = e.f3 := by
  unfold chg; rw [if_pos rfl]
theorem chg_0 {e : En} {w : Int} (h1 : w ≠ e.f1) (h2 : w ≠ e.f2) : chg w e = 0 := by
  unfold chg; rw [if_neg h2, if_neg h1]
theorem salA_nil : salA [] = List.replicate 8 0 := by decide
theorem implSaldi_l0 {l : List En} (h : EV l) : ∀ (r : List En) (i : Nat), l.drop i = r →
    Tot (fun k => impl_SaldiOf.l0 k (salA (l.take i)) l l.length i) (fun t => t = salA l) := by
  have hl := h.1
  intro r
  induction r with
  | nil =>
    intro i hd
    have := drop_nil hd
    refine Tot.step (fun _ => impl_SaldiOf.l0.eq_2 ..) (Tot.neg (by omega) (Tot.now ?_))
    rw [List.take_of_length_le this]
  | cons e r ih =>
    intro i hd
    obtain ⟨h1, h2, h3⟩ := drop_cons hd
    have he := h.2 e (List.mem_of_getElem? h3)
    have hp : ∀ x ∈ l.take i, okE x := fun x hx => h.2 x (List.mem_of_mem_take hx)
    have hlen : (l.take i).length ≤ 40 := by rw [List.length_take]; omega
    have b1 := net1_bound (a := e.f1) hp
    have b2 := net1_bound (a := e.f2) hp
    obtain ⟨_, g1, g2, g3, g4, g5⟩ := he
    have he := h.2 e (List.mem_of_getElem? h3)
    refine Tot.step (fun _ => impl_SaldiOf.l0.eq_2 ..) ?_
    rw [rdEn_at h3, w64s (by omega), salA_len, rd_salA g2.1 g2.2, w64 (x := net1 e.f2 (l.take i) + e.f3) (by omega) (by omega)]
    refine Tot.pos (by omega) (Tot.pos (by omega) (Tot.pos (by omega) (Tot.pos (by omega) (Tot.pos (by omega) (Tot.known (Tot.pos (by omega) (Tot.pos (by omega) ?_)))))))
    rw [rd_set_ne (by omega), rd_salA g1.1 g1.2, w64 (x := net1 e.f1 (l.take i) - e.f3) (by omega) (by omega)]
    have e3 := salA_set2 (p := l.take i) (e := e) g2 g1 (fun w a b => chg_0 b a)
    rw [chg_1 he, chg_2, ← Int.sub_eq_add_neg] at e3
    rw [e3]
    have e4 : l.take i ++ [e] = l.take (i + 1) := by
      rw [List.take_add_one, h3]; rfl
    rw [e4]
    exact ih (i + 1) h2
theorem implSaldi_tot {l : List En} (hl : l.length ≤ 1000000000) : Tot (fun k => impl_SaldiOf.f k l) (fun t => t = if EV l then salA l else []) := by
  unfold impl_SaldiOf.f
  refine Tot.bind (implValidEntries_tot hl) ?_
  rintro _ rfl
  by_cases h : EV l
  · rw [if_pos h]
    refine Tot.pos (decide_eq_true h) (Tot.pos (by omega) ?_)
    have := implSaldi_l0 h l 0 rfl
    rw [List.take_zero, salA_nil] at this
    exact this
  · rw [if_neg h]
    exact Tot.neg (by simpa using h) (Tot.now rfl)
theorem equalEntries_l0 {l : List En} (hl : l.length ≤ 1000000000) : ∀ (d i : Nat), i + d = l.length → Tot (fun k => laws_equalEntries.l0 k l l i) (fun t => t = true) := by
  intro d
  induction d with
  | zero =>
    intro i hi
    exact Tot.step (fun _ => laws_equalEntries.l0.eq_2 ..) (Tot.neg (by omega) (Tot.now rfl))
  | succ d ih =>
    intro i hi
    refine Tot.step (fun _ => laws_equalEntries.l0.eq_2 ..) ?_
    rw [w64s (by omega)]
    refine Tot.pos (by omega) (Tot.pos (by omega) (Tot.pos (by omega) (Tot.neg (by simp) (ih (i + 1) (by omega)))))
theorem equalEntries_tot {l : List En} (hl : l.length ≤ 1000000000) : Tot (fun k => laws_equalEntries.f k l l) (fun t => t = true) := by
  unfold laws_equalEntries.f
  exact Tot.pos rfl (equalEntries_l0 hl l.length 0 (by omega))
theorem net1_append (a : Int) (p q : List En) : net1 a (p ++ q) = net1 a p + net1 a q := by
  induction p with
  | nil => simp [net1]
  | cons x p ih => rw [List.cons_append, net1, net1, ih]; omega
theorem chg_swp (a : Int) {e : En} (h : okE e) : chg a (impl_Undo.swp e) = - chg a e := by
  have h2 := h.2.2.2.1
  unfold chg impl_Undo.swp
  dsimp only
  by_cases h3 : a = e.f1
  · rw [if_pos h3, if_neg (by omega), if_pos h3]; omega
  · by_cases h4 : a = e.f2
    · rw [if_neg h3, if_pos h4, if_pos h4]
    · rw [if_neg h3, if_neg h4, if_neg h4, if_neg h3]; rfl
theorem net1_und (a : Int) : ∀ {l : List En}, (∀ e ∈ l, okE e) → net1 a (Und l) = - net1 a l := by
  intro l
  induction l with
  | nil => intro _; rfl
  | cons x r ih =>
    intro h
    rw [und_cons, net1_snoc, ih (fun e he => h e (List.mem_cons_of_mem _ he)), chg_swp a (h x (by simp)), net1]
    omega
theorem undoLoop {l : List En} (h : EV l) (h2 : EV (l ++ Und l)) : ∀ (d i : Nat), i + d = 8 → Tot (fun k => laws_FnUndo.l0 k l (Und l) (salA (l ++ Und l)) i) (fun t => t = true) := by
  have hl := h.1
  intro d
  induction d with
  | zero =>
    intro i hi
    refine Tot.step (fun _ => laws_FnUndo.l0.eq_2 ..) ?_
    rw [salA_len]
    refine Tot.neg (by omega) (Tot.bind (implUndo_tot (by rw [und_len]; omega)) ?_)
    rintro _ rfl
    rw [if_pos (und_EV h), und_und]
    refine Tot.bind (equalEntries_tot (by omega)) ?_
    rintro _ rfl
    exact Tot.now rfl
  | succ d ih =>
    intro i hi
    refine Tot.step (fun _ => laws_FnUndo.l0.eq_2 ..) ?_
    rw [salA_len, w64s (by omega), rd_salA (by omega) (by omega), net1_append, net1_und _ h.2]
    exact Tot.pos (by omega) (Tot.pos (by omega) (Tot.pos (by omega) (ih (i + 1) (by omega))))
theorem FnUndo : laws_FnUndo.Pure := by
  intro l hl hl2 hw
  refine Tot.ends (g := fun k => laws_FnUndo.f k l) ?_
  unfold laws_FnUndo.f spec_DrawUndo.f
  refine Tot.ite (fun _ => Tot.now rfl) (fun _ => ?_)
  obtain ⟨b, hb, hb2, hb3⟩ := newReader_tot hw
  rw [hb]
  refine Tot.bind (P := fun t : List En => t.length ≤ 20) (Tot.known (Tot.bind (anyEntries_tot hb3 (Int.le_refl _) (by omega)) ?_)) ?_
  · rintro ⟨t, p⟩ ht
    exact Tot.now ht.1
  intro t ht
  have hs := undOr_len t
  refine Tot.bind (implUndo_tot (by omega)) ?_
  rintro _ rfl
  refine Tot.bind (specUndo_tot (by omega)) ?_
  rintro _ rfl
  refine Tot.bind (equalEntries_tot (by omega)) ?_
  rintro _ rfl
  refine Tot.pos rfl (Tot.step (fun _ => laws_FnUndo.j0.eq_2 ..) ?_)
  refine Tot.ite (fun h1 => ?_) (fun h1 => ?_)
  · refine Tot.bind (specUndo_tot (by omega)) ?_
    rintro _ rfl
    refine Tot.bind (equalEntries_tot (by omega)) ?_
    rintro _ rfl
    exact Tot.now rfl
  · have h : EV t := by
      rcases Classical.em (EV t) with h2 | h2
      · exact h2
      · exact absurd (by rw [if_neg h2]; rfl) h1
    have hul := und_len t
    rw [if_pos h]
    have h40 : EV (t ++ Und t) := ⟨by rw [List.length_append, hul]; omega, fun e he => by
      rcases List.mem_append.1 he with h3 | h3
      · exact h.2 e h3
      · exact (und_EV h).2 e h3⟩
    refine Tot.known (Tot.pos (by simp only [List.length_nil]; omega) (Tot.known (Tot.pos (by simp only [List.nil_append]; omega) (Tot.known ?_))))
    rw [List.nil_append]
    refine Tot.pos (by rw [List.length_append, hul]; omega) ?_
    refine Tot.bind (implSaldi_tot (by rw [List.length_append, hul]; omega)) ?_
    rintro _ rfl
    rw [if_pos h40]
    exact undoLoop h h40 8 0 rfl
end Go.Proofs.Ytnijdifoejiafaa.Pure
