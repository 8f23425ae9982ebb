/- FnTurnover: for every code, turnovers of both parts of the entries add up, and what came to all accounts went from all. No condition beyond the statement's own. -/
import Derived.Test.YtdcapmgebjifpaaQFnTurnoverx3
import Derived.Test.YtdcapmgebjifpaaCore
namespace Go.Proofs.Ytdcapmgebjifpaa.Pure
open Go.RowKit Go.Proofs.Ytdcapmgebjifpaa.PFnTurnover Go.Proofs.YtdcapmgebjifpaaW.PrintWords
set_option linter.unusedSimpArgs false
set_option linter.unusedVariables false

/-! the reader -/
theorem pick_tot {b : List Int} (hb : ∀ x ∈ b, 0 ≤ x ∧ x < 256) {p n : Int} (hp : 0 ≤ p) (hp2 : p ≤ 1000000000) (hn : n ≤ 1000000000000) :
    Tot (fun k => spec_reader_pick.f k b p n) (fun r => r.2 = p + 1 ∧ 0 ≤ r.1 ∧ (r.1 < n ∨ r.1 = 0)) := by
  have e1 : wrap64 (p + 1) = p + 1 := w64 (by omega) (by omega)
  have e2 : wrap64 (p + 1 - 1) = p := by rw [w64 (by omega) (by omega)]; omega
  have main : ∀ t : Bool, (t = false → 1 ≤ n ∧ b.length ≠ 0) → Tot (fun k => spec_reader_pick.j0 k n t b (p + 1)) (fun r => r.2 = p + 1 ∧ 0 ≤ r.1 ∧ (r.1 < n ∨ r.1 = 0)) := by
    intro t ht
    refine Tot.step (fun _ => spec_reader_pick.j0.eq_2 ..) ?_
    simp only [e2]
    cases t with
    | true => exact Tot.pos rfl (Tot.now ⟨rfl, Int.le_refl _, .inr rfl⟩)
    | false =>
      obtain ⟨hn1, hne⟩ := ht rfl
      refine Tot.neg (by simp) ?_
      by_cases hlt : p < (b.length : Int)
      · refine Tot.pos hlt (Tot.pos hp (Tot.neg (by omega) ?_))
        have hr := hb _ (rd_mem hp hlt)
        rw [w64 (x := rd b p) (by omega) (by omega), tmod_nn hr.1]
        exact Tot.now ⟨rfl, Int.emod_nonneg _ (by omega), .inl (Int.emod_lt_of_pos _ (by omega))⟩
      · refine Tot.neg hlt (Tot.neg (by omega) ?_)
        have hlen : 0 < (b.length : Int) := by omega
        have i1 : 0 ≤ Int.tmod p b.length ∧ Int.tmod p b.length < b.length := by
          rw [tmod_nn hp]; exact ⟨Int.emod_nonneg _ (by omega), Int.emod_lt_of_pos _ hlen⟩
        have e3 : wrap64 (wrap64 (p * 7) + 3) = p * 7 + 3 := by
          rw [w64 (x := p * 7) (by omega) (by omega)]; exact w64 (by omega) (by omega)
        rw [e3]
        have i2 : 0 ≤ Int.tmod (p * 7 + 3) b.length ∧ Int.tmod (p * 7 + 3) b.length < b.length := by
          rw [tmod_nn (by omega)]; exact ⟨Int.emod_nonneg _ (by omega), Int.emod_lt_of_pos _ hlen⟩
        refine Tot.pos i1.1 (Tot.pos i1.2 (Tot.pos i2.1 (Tot.pos i2.2 (Tot.neg (by omega) ?_))))
        have hu := hb _ (rd_mem i1.1 i1.2)
        have hv := hb _ (rd_mem i2.1 i2.2)
        have hq : 0 ≤ Int.tdiv p b.length ∧ Int.tdiv p b.length ≤ p := by
          rw [tdiv_nn hp]
          exact ⟨Int.ediv_nonneg hp (by omega), Int.ediv_le_self _ hp⟩
        generalize rd b (Int.tmod p b.length) = u at hu ⊢
        generalize rd b (Int.tmod (p * 7 + 3) b.length) = v at hv ⊢
        generalize Int.tdiv p b.length = q at hq ⊢
        rw [w64 (x := u) (by omega) (by omega), w64 (x := v) (by omega) (by omega), w64 (x := q) (by omega) (by omega), w64 (x := u * 131) (by omega) (by omega), w64 (x := v * 1117) (by omega) (by omega), w64 (x := p * 29) (by omega) (by omega), w64 (x := q * 53) (by omega) (by omega),
          w64 (x := u * 131 + v * 1117) (by omega) (by omega), w64 (x := u * 131 + v * 1117 + p * 29) (by omega) (by omega), w64 (x := u * 131 + v * 1117 + p * 29 + q * 53) (by omega) (by omega)]
        have hx : 0 ≤ u * 131 + v * 1117 + p * 29 + q * 53 ∧ u * 131 + v * 1117 + p * 29 + q * 53 < 4611686018427387904 := by omega
        generalize u * 131 + v * 1117 + p * 29 + q * 53 = x at hx ⊢
        rw [tdiv_nn hx.1, w64 (x := x / 64) (by omega) (by omega)]
        have hz := xor_nn hx.1 hx.2 (b := x / 64) (by omega) (by omega)
        rw [tmod_nn hz]
        exact Tot.now ⟨rfl, Int.emod_nonneg _ (by omega), .inl (Int.emod_lt_of_pos _ (by omega))⟩
  unfold spec_reader_pick.f
  rw [e1]
  refine Tot.ite (fun _ => main true (fun h => by cases h)) (fun h => main _ (fun h2 => ⟨by omega, fun h3 => ?_⟩))
  rw [h3] at h2
  simp at h2
theorem one_tot {b : List Int} (hb : ∀ x ∈ b, 0 ≤ x ∧ x < 256) {p : Int} (hp : 0 ≤ p) (hp2 : p ≤ 1000000000) {l : List Int} (hl : 0 < l.length) (hl2 : l.length ≤ 1000) :
    Tot (fun k => spec_reader_one.f k b p l) (fun r => r.2 = p + 1 ∧ r.1 ∈ l) := by
  unfold spec_reader_one.f
  refine Tot.bind (pick_tot hb hp hp2 (by omega)) ?_
  rintro ⟨v, q⟩ ⟨h1, h2, h3⟩
  simp only at h1 h2 h3 ⊢
  have h4 : v < (l.length : Int) := by omega
  exact Tot.pos h2 (Tot.pos h4 (Tot.now ⟨h1, rd_mem h2 h4⟩))
theorem newReader_tot {l : List Int} (h : ∀ x ∈ l, (Lit.int .u8 x).wf = true) : ∃ b, spec_newReader.f l = some (b, 0) ∧ b.length ≤ 2000 ∧ ∀ x ∈ b, 0 ≤ x ∧ x < 256 := by
  unfold spec_newReader.f
  by_cases h1 : (l.length : Int) > 2000
  · rw [if_pos h1, if_pos (by omega)]
    exact ⟨_, rfl, by simp; omega, fun x hx => wf_u8 (h x (List.mem_of_mem_take hx))⟩
  · rw [if_neg h1]
    exact ⟨_, rfl, by omega, fun x hx => wf_u8 (h x hx)⟩
def sumL : List Int → Int
  | [] => 0
  | x :: r => x + sumL r
theorem sumL_bound {l : List Int} (h : ∀ x ∈ l, 0 ≤ x ∧ x ≤ 1000000) : 0 ≤ sumL l ∧ sumL l ≤ 1000000 * l.length := by
  induction l with
  | nil => simp [sumL]
  | cons x r ih =>
    have h1 := ih (fun y hy => h y (List.mem_cons_of_mem _ hy))
    have h2 := h x (by simp)
    simp only [sumL, List.length_cons]
    omega
/-- A valid body. -/
def VB (ws : List Int) (need : Int) : Prop := (1 ≤ ws.length ∧ ws.length ≤ 12) ∧ (∀ w ∈ ws, 0 ≤ w ∧ w ≤ 100) ∧ 1 ≤ need ∧ need ≤ sumL ws
instance (ws : List Int) (need : Int) : Decidable (VB ws need) := inferInstanceAs (Decidable ((1 ≤ ws.length ∧ ws.length ≤ 12) ∧ (∀ w ∈ ws, 0 ≤ w ∧ w ≤ 100) ∧ 1 ≤ need ∧ need ≤ sumL ws))
theorem dfalse {p : Prop} {i : Decidable p} (h : ¬ p) : false = @decide p i := by
  symm; rw [decide_eq_false_iff_not]; exact h
theorem dtrue {p : Prop} {i : Decidable p} (h : p) : true = @decide p i := by
  symm; rw [decide_eq_true_iff]; exact h
/-! entries -/
abbrev En := S36
def okE (e : En) : Prop := (0 ≤ e.f0 ∧ e.f0 ≤ 999) ∧ (0 ≤ e.f1 ∧ e.f1 ≤ 7) ∧ (0 ≤ e.f2 ∧ e.f2 ≤ 7) ∧ e.f1 ≠ e.f2 ∧ 1 ≤ e.f3 ∧ e.f3 ≤ 1000000
instance (e : En) : Decidable (okE e) := inferInstanceAs (Decidable ((0 ≤ e.f0 ∧ e.f0 ≤ 999) ∧ (0 ≤ e.f1 ∧ e.f1 ≤ 7) ∧ (0 ≤ e.f2 ∧ e.f2 ≤ 7) ∧ e.f1 ≠ e.f2 ∧ 1 ≤ e.f3 ∧ e.f3 ≤ 1000000))
def EV (l : List En) : Prop := l.length ≤ 40 ∧ ∀ e ∈ l, okE e
instance (l : List En) : Decidable (EV l) := inferInstanceAs (Decidable (l.length ≤ 40 ∧ ∀ e ∈ l, okE e))
def chg (a : Int) (e : En) : Int := if a = e.f2 then e.f3 else if a = e.f1 then -e.f3 else 0
theorem rdEn_at {l : List En} {i : Nat} {r : En} (h : l[i]? = some r) : rd_T36 l (i : Int) = r := by
  simp [rd_T36, List.getD_eq_getElem?_getD, h]
def came (a : Int) : List En → Int
  | [] => 0
  | e :: r => (if e.f2 = a then e.f3 else 0) + came a r
def went (a : Int) : List En → Int
  | [] => 0
  | e :: r => (if e.f1 = a then e.f3 else 0) + went a r
def sald (a day : Int) : List En → Int
  | [] => 0
  | e :: r => (if e.f0 ≤ day then chg a e else 0) + sald a day r
theorem someEntries_l0 {b : List Int} (hb : ∀ x ∈ b, 0 ≤ x ∧ x < 256) : ∀ (d : Nat) (out : List En) (p : Int), 0 ≤ p → p + 8 * d ≤ 1000000 → out.length + 2 * d ≤ 1000 →
    Tot (fun k => spec_someEntries.l0 k out d b p) (fun r => r.1.length ≤ out.length + 2 * d ∧ p ≤ r.2 ∧ r.2 ≤ p + 8 * d) := by
  intro d
  induction d with
  | zero =>
    intro out p hp hp2 ho
    exact Tot.step (fun _ => spec_someEntries.l0.eq_2 ..) (Tot.neg (by omega) (Tot.now ⟨by simp, by simp, by simp⟩))
  | succ d ih =>
    intro out p hp hp2 ho
    refine Tot.step (fun _ => spec_someEntries.l0.eq_2 ..) (Tot.pos (by omega) ?_)
    have e : wrap64 (((d + 1 : Nat) : Int) - 1) = (d : Int) := by rw [w64 (by omega) (by omega)]; omega
    rw [e]
    refine Tot.bind (pick_tot hb hp (by omega) (by omega)) ?_
    rintro ⟨v1, q1⟩ ⟨h1, h2, h3⟩
    simp only at h1 h2 h3 ⊢
    refine Tot.bind (pick_tot hb (by omega) (by omega) (by omega)) ?_
    rintro ⟨v2, q2⟩ ⟨g1, g2, g3⟩
    simp only at g1 g2 g3 ⊢
    refine Tot.bind (pick_tot hb (by omega) (by omega) (by omega)) ?_
    rintro ⟨v3, q3⟩ ⟨f1, f2, f3⟩
    simp only at f1 f2 f3 ⊢
    refine Tot.bind (pick_tot hb (by omega) (by omega) (by omega)) ?_
    rintro ⟨v4, q4⟩ ⟨e1, e2, e3⟩
    simp only at e1 e2 e3 ⊢
    refine Tot.bind (pick_tot hb (by omega) (by omega) (by omega)) ?_
    rintro ⟨v5, q5⟩ ⟨d1, d2, d3⟩
    simp only at d1 d2 d3 ⊢
    refine Tot.bind (one_tot hb (by omega) (by omega) (by simp) (by simp)) ?_
    rintro ⟨v6, q6⟩ ⟨c1, c2⟩
    simp only at c1 ⊢
    clear c2
    refine Tot.pos (by omega) (Tot.known ?_)
    generalize hy : out ++ [(⟨v2, v1, Int.tmod (wrap64 ((wrap64 (v1 + 1)) + v3)) 5, v6⟩ : En)] = y
    have hyl : y.length = out.length + 1 := by rw [← hy]; simp
    refine Tot.bind (pick_tot hb (by omega) (by omega) (by omega)) ?_
    rintro ⟨v7, q7⟩ ⟨b1, b2, b3⟩
    simp only at b1 b2 b3 ⊢
    refine Tot.ite (fun h4 => ?_) (fun h4 => ?_)
    · refine Tot.bind (pick_tot hb (by omega) (by omega) (by omega)) ?_
      rintro ⟨v8, q8⟩ ⟨a1, a2, a3⟩
      simp only at a1 a2 a3 ⊢
      refine Tot.pos (by omega) (Tot.pos (by omega) (Tot.pos (by omega) ((ih _ q8 (by omega) (by omega) (by simp; omega)).mono ?_)))
      rintro r ⟨z1, z2, z3⟩
      refine ⟨?_, by omega, by omega⟩
      rw [List.length_append] at z1
      simp only [List.length_cons, List.length_nil] at z1
      omega
    · refine (ih _ q7 (by omega) (by omega) (by omega)).mono ?_
      rintro r ⟨z1, z2, z3⟩
      exact ⟨by omega, by omega, by omega⟩
theorem anyEntries_tot {b : List Int} (hb : ∀ x ∈ b, 0 ≤ x ∧ x < 256) {p : Int} (hp : 0 ≤ p) (hp2 : p ≤ 1000) :
    Tot (fun k => spec_anyEntries.f k b p) (fun r => r.1.length ≤ 20 ∧ p ≤ r.2 ∧ r.2 ≤ p + 100) := by
  unfold spec_anyEntries.f
  refine Tot.bind (P := fun r => r.1.length ≤ 20 ∧ p ≤ r.2 ∧ r.2 ≤ p + 90) ?_ ?_
  · unfold spec_someEntries.f
    refine Tot.bind (one_tot hb hp (by omega) (by simp) (by simp)) ?_
    rintro ⟨n, q⟩ ⟨h1, h2⟩
    simp only [List.mem_cons, List.not_mem_nil, or_false] at h1 h2 ⊢
    obtain ⟨m, rfl⟩ := Int.eq_ofNat_of_zero_le (a := n) (by omega)
    refine (someEntries_l0 hb m [] q (by omega) (by omega) (by simp; omega)).mono ?_
    rintro r ⟨b1, b2, b3⟩
    simp only [List.length_nil] at b1
    exact ⟨by omega, by omega, by omega⟩
  rintro ⟨l, q⟩ ⟨h1, h2, h3⟩
  simp only at h1 h2 h3 ⊢
  refine Tot.ite (fun h0 => ?_) (fun h0 => Tot.now ⟨h1, h2, by simp only; omega⟩)
  refine Tot.bind (pick_tot hb (by omega) (by omega) (by omega)) ?_
  rintro ⟨i, q1⟩ ⟨g1, g2, g3⟩
  simp only at g1 g2 g3 ⊢
  refine Tot.bind (pick_tot hb (by omega) (by omega) (by omega)) ?_
  rintro ⟨c, q2⟩ ⟨f1, f2, f3⟩
  simp only at f1 f2 f3 ⊢
  refine Tot.ite (fun _ => ?_) (fun _ => Tot.ite (fun _ => ?_) (fun _ => Tot.ite (fun _ => ?_) (fun _ => Tot.now ⟨h1, by simp only; omega, by simp only; omega⟩)))
  · refine Tot.bind (one_tot hb (by omega) (by omega) (by simp) (by simp)) ?_
    rintro ⟨v, q3⟩ ⟨e1, e2⟩
    simp only at e1 ⊢
    exact Tot.pos (by omega) (Tot.pos (by omega) (Tot.now ⟨by simp only [List.length_set]; exact h1, by simp only; omega, by simp only; omega⟩))
  · refine Tot.pos (by omega) (Tot.pos (by omega) ?_)
    refine Tot.bind (one_tot hb (by omega) (by omega) (by simp) (by simp)) ?_
    rintro ⟨v, q3⟩ ⟨e1, e2⟩
    simp only at e1 ⊢
    exact Tot.now ⟨by simp only [List.length_set]; exact h1, by simp only; omega, by simp only; omega⟩
  · refine Tot.bind (one_tot hb (by omega) (by omega) (by simp) (by simp)) ?_
    rintro ⟨v, q3⟩ ⟨e1, e2⟩
    simp only at e1 ⊢
    exact Tot.pos (by omega) (Tot.pos (by omega) (Tot.now ⟨by simp only [List.length_set]; exact h1, by simp only; omega, by simp only; omega⟩))
theorem implValidAccount_eq (a : Int) : impl_validAccount.f a = some (decide (0 ≤ a ∧ a ≤ 7)) := by
  unfold impl_validAccount.f
  by_cases h : 0 ≤ a
  · rw [if_pos h]
    congr 1
    rw [decide_eq_decide]; omega
  · rw [if_neg h]
    congr 1
    exact dfalse fun h2 => h h2.1
theorem implValidEntry_tot (e : En) : Tot (fun k => impl_validEntry.f k e.f0 e.f1 e.f2 e.f3) (fun t => t = decide (okE e)) := by
  unfold impl_validEntry.f
  have bad : ¬ okE e → Tot (fun k => impl_validEntry.j0 k true e.f0 e.f1 e.f2 e.f3) (fun t => t = decide (okE e)) := fun h =>
    Tot.step (fun _ => impl_validEntry.j0.eq_2 ..) (Tot.pos rfl (Tot.now (dfalse h)))
  refine Tot.ite (fun h => bad fun h2 => by have := h2.1; omega) (fun h => Tot.ite (fun h1 => bad fun h2 => by have := h2.1; omega) (fun h1 => Tot.ite (fun h3 => bad fun h2 => by have := h2.2.2.2.2; omega) (fun h3 => ?_)))
  refine Tot.step (fun _ => impl_validEntry.j0.eq_2 ..) ?_
  simp only [decide_eq_true_eq, implValidAccount_eq, Option.bind_some]
  refine Tot.ite (fun h4 => Tot.now (dfalse fun h2 => by have := h2.2.2.2.2; omega)) (fun h4 => Tot.ite (fun h5 => Tot.ite (fun h6 => Tot.now ?_) (fun h6 => Tot.now (dfalse fun h2 => h6 h2.2.2.1))) (fun h5 => Tot.now (dfalse fun h2 => h5 h2.2.1)))
  by_cases h7 : e.f1 = e.f2
  · have hf : decide (okE e) = false := (dfalse (p := okE e) (fun h2 => h2.2.2.2.1 h7)).symm
    rw [hf]; simp [h7]
  · rw [← dtrue (p := okE e) ⟨by omega, h5, h6, h7, by omega, by omega⟩]; simp [h7]
theorem implValidEntries_l0 {l : List En} (hl : l.length ≤ 1000000000) : ∀ (r : List En) (i : Nat), l.drop i = r →
    Tot (fun k => impl_ValidEntries.l0 k l l.length i) (fun t => t = decide (∀ x ∈ r, okE x)) := by
  intro r
  induction r with
  | nil =>
    intro i h
    have := drop_nil h
    exact Tot.step (fun _ => impl_ValidEntries.l0.eq_2 ..) (Tot.neg (by omega) (Tot.now (by simp)))
  | cons x r ih =>
    intro i h
    obtain ⟨h1, h2, h3⟩ := drop_cons h
    refine Tot.step (fun _ => impl_ValidEntries.l0.eq_2 ..) ?_
    rw [rdEn_at h3, w64s (by omega)]
    refine Tot.pos (by omega) (Tot.pos (by omega) (Tot.pos (by omega) ?_))
    refine Tot.bind (implValidEntry_tot x) ?_
    rintro _ rfl
    simp only [decide_eq_true_eq]
    refine Tot.ite (fun h4 => (ih (i + 1) h2).mono ?_) (fun h4 => Tot.now (dfalse fun h5 => h4 (h5 x (by simp))))
    rintro t rfl
    rw [decide_eq_decide]
    simp only [List.mem_cons, forall_eq_or_imp]
    exact ⟨fun h => ⟨h4, h⟩, fun h => h.2⟩
theorem implValidEntries_tot {l : List En} (hl : l.length ≤ 1000000000) : Tot (fun k => impl_ValidEntries.f k l) (fun t => t = decide (EV l)) := by
  unfold impl_ValidEntries.f
  refine Tot.ite (fun h => Tot.now (dfalse fun h2 => by have := h2.1; omega)) (fun h => (implValidEntries_l0 hl l 0 rfl).mono ?_)
  rintro t rfl
  rw [decide_eq_decide]
  exact ⟨fun h2 => ⟨by omega, h2⟩, fun h2 => h2.2⟩
theorem implChange_eq {e : En} (he : okE e) (a : Int) : impl_changeOf.f e.f0 e.f1 e.f2 e.f3 a = some (chg a e) := by
  unfold impl_changeOf.f chg
  have := he.2.2.2.2
  rw [w64 (x := -e.f3) (by omega) (by omega)]
  split
  · rfl
  · split <;> rfl
theorem chg_bound {e : En} (he : okE e) (a : Int) : -1000000 ≤ chg a e ∧ chg a e ≤ 1000000 := by
  have := he.2.2.2.2
  unfold chg
  split
  · omega
  · split <;> omega
theorem implTurnover_l0 {l : List En} {a : Int} (h : EV l) : ∀ (r : List En) (i : Nat) (x y : Int), l.drop i = r → 0 ≤ x → x ≤ 1000000 * i → 0 ≤ y → y ≤ 1000000 * i →
    Tot (fun k => impl_Turnover.l0 k a x y l l.length i) (fun t => t = (x + came a r, y + went a r)) := by
  have hl := h.1
  intro r
  induction r with
  | nil =>
    intro i x y hd _ _ _ _
    have := drop_nil hd
    exact Tot.step (fun _ => impl_Turnover.l0.eq_2 ..) (Tot.neg (by omega) (Tot.now (by simp [came, went])))
  | cons e r ih =>
    intro i x y hd hx hx2 hy hy2
    obtain ⟨h1, h2, h3⟩ := drop_cons hd
    have he := h.2 e (List.mem_of_getElem? h3)
    have ha := he.2.2.2.2
    have hc := chg_bound he a
    refine Tot.step (fun _ => impl_Turnover.l0.eq_2 ..) ?_
    rw [rdEn_at h3, w64s (by omega), implChange_eq he]
    simp only [Option.bind_some]
    have e1 : mx (chg a e) 0 = if e.f2 = a then e.f3 else 0 := by
      by_cases g1 : a = e.f2
      · have hx : chg a e = e.f3 := if_pos g1
        rw [hx, if_pos g1.symm]; unfold mx; split <;> omega
      · rw [if_neg (fun g : e.f2 = a => g1 g.symm)]
        by_cases g2 : a = e.f1
        · have hx : chg a e = -e.f3 := (if_neg g1).trans (if_pos g2)
          rw [hx]; unfold mx; split <;> omega
        · have hx : chg a e = 0 := (if_neg g1).trans (if_neg g2)
          rw [hx]; rfl
    have e2 : mx (wrap64 (-chg a e)) 0 = if e.f1 = a then e.f3 else 0 := by
      have hn := he.2.2.2.1
      rw [w64 (x := -chg a e) (by omega) (by omega)]
      by_cases g1 : a = e.f2
      · have hx : chg a e = e.f3 := if_pos g1
        rw [hx, if_neg (fun g : e.f1 = a => hn (g.trans g1))]; unfold mx; split <;> omega
      · by_cases g2 : a = e.f1
        · have hx : chg a e = -e.f3 := (if_neg g1).trans (if_pos g2)
          rw [hx, if_pos g2.symm]; unfold mx; split <;> omega
        · have hx : chg a e = 0 := (if_neg g1).trans (if_neg g2)
          rw [hx, if_neg (fun g : e.f1 = a => g2 g.symm)]; rfl
    rw [e1, e2]
    have b1 : 0 ≤ (if e.f2 = a then e.f3 else 0) ∧ (if e.f2 = a then e.f3 else 0) ≤ 1000000 := by split <;> omega
    have b2 : 0 ≤ (if e.f1 = a then e.f3 else 0) ∧ (if e.f1 = a then e.f3 else 0) ≤ 1000000 := by split <;> omega
    rw [came, went]
    generalize (if e.f2 = a then e.f3 else 0) = u at b1 ⊢
    generalize (if e.f1 = a then e.f3 else 0) = v at b2 ⊢
    rw [w64 (x := x + u) (by omega) (by omega), w64 (x := y + v) (by omega) (by omega)]
    refine Tot.pos (by omega) (Tot.pos (by omega) (Tot.pos (by omega) ((ih (i + 1) _ _ h2 (by omega) (by omega) (by omega) (by omega)).mono ?_)))
    rintro t rfl
    rw [Int.add_assoc, Int.add_assoc]
theorem implTurnover_tot {l : List En} {a : Int} (hl : l.length ≤ 1000000000) : Tot (fun k => impl_Turnover.f k l a) (fun t => t = if EV l ∧ 0 ≤ a ∧ a ≤ 7 then (came a l, went a l) else (-1, -1)) := by
  unfold impl_Turnover.f
  refine Tot.bind (implValidEntries_tot hl) ?_
  rintro _ rfl
  simp only [decide_eq_true_eq, implValidAccount_eq, Option.bind_some]
  refine Tot.ite (fun h => Tot.step (fun _ => impl_Turnover.j0.eq_2 ..) ?_) (fun h => Tot.step (fun _ => impl_Turnover.j0.eq_2 ..) (Tot.pos rfl ?_))
  · by_cases h2 : 0 ≤ a ∧ a ≤ 7
    · rw [if_pos ⟨h, h2⟩]
      refine Tot.neg (by simp [h2]) ((implTurnover_l0 h l 0 0 0 rfl (by omega) (by omega) (by omega) (by omega)).mono ?_)
      rintro t rfl
      simp
    · rw [if_neg (fun h3 => h2 h3.2)]
      exact Tot.pos (by simp; omega) (Tot.now rfl)
  · rw [if_neg (fun h3 => h h3.1)]; exact Tot.now rfl
theorem inRange_eq (a b c : Int) : spec_inRange.f a b c = some (decide (b ≤ a ∧ a ≤ c)) := by
  unfold spec_inRange.f
  by_cases h : b ≤ a
  · rw [if_pos h]; simp [h]
  · rw [if_neg h]; simp [h]
theorem specValidEntry_eq (e : En) : spec_validEntry.f e.f0 e.f1 e.f2 e.f3 = some (decide (okE e)) := by
  unfold spec_validEntry.f
  simp only [inRange_eq, Option.bind_some, decide_eq_true_eq]
  by_cases h1 : 0 ≤ e.f0 ∧ e.f0 ≤ 999
  · by_cases h2 : 0 ≤ e.f1 ∧ e.f1 ≤ 7
    · by_cases h3 : 0 ≤ e.f2 ∧ e.f2 ≤ 7
      · by_cases h4 : e.f1 = e.f2
        · rw [if_pos h1, if_pos h2, if_pos h3, if_pos h4]
          congr 1; exact dfalse fun h => h.2.2.2.1 h4
        · rw [if_pos h1, if_pos h2, if_pos h3, if_neg h4]
          congr 1; rw [decide_eq_decide]
          exact ⟨fun h => ⟨h1, h2, h3, h4, h⟩, fun h => h.2.2.2.2⟩
      · rw [if_pos h1, if_pos h2, if_neg h3]
        congr 1; exact dfalse fun h => h3 h.2.2.1
    · rw [if_pos h1, if_neg h2]
      congr 1; exact dfalse fun h => h2 h.2.1
  · rw [if_neg h1]
    congr 1; exact dfalse fun h => h1 h.1
theorem specValidEntries_l0 {l : List En} (hl : l.length ≤ 1000000000) : ∀ (r : List En) (i : Nat), l.drop i = r →
    Tot (fun k => spec_validEntries.l0 k l i) (fun t => t = decide (l.length ≤ 40 ∧ ∀ x ∈ r, okE x)) := by
  intro r
  induction r with
  | nil =>
    intro i h
    have := drop_nil h
    refine Tot.step (fun _ => spec_validEntries.l0.eq_2 ..) (Tot.neg (by omega) (Tot.now ?_))
    rw [decide_eq_decide]
    simp
    omega
  | cons x r ih =>
    intro i h
    obtain ⟨h1, h2, h3⟩ := drop_cons h
    refine Tot.step (fun _ => spec_validEntries.l0.eq_2 ..) ?_
    rw [rdEn_at h3, w64s (by omega), specValidEntry_eq]
    simp only [Option.bind_some, decide_eq_true_eq]
    refine Tot.pos (by omega) (Tot.pos (by omega) (Tot.ite (fun h4 => (ih (i + 1) h2).mono ?_) (fun h4 => Tot.now (dfalse fun h5 => h4 (h5.2 x (by simp))))))
    rintro t rfl
    rw [decide_eq_decide]
    simp only [List.mem_cons, forall_eq_or_imp]
    exact ⟨fun h => ⟨h.1, h4, h.2⟩, fun h => ⟨h.1, h.2.2⟩⟩
theorem specValidEntries_tot {l : List En} (hl : l.length ≤ 1000000000) : Tot (fun k => spec_validEntries.f k l) (fun t => t = decide (EV l)) := by
  unfold spec_validEntries.f
  exact specValidEntries_l0 hl l 0 rfl
theorem specTurnover_l0 {l : List En} {a : Int} (h : EV l) : ∀ (r : List En) (i : Nat) (x y : Int), l.drop i = r → 0 ≤ x → x ≤ 1000000 * i → 0 ≤ y → y ≤ 1000000 * i →
    Tot (fun k => spec_Turnover.l0 k l a x y i) (fun t => t = (x + came a r, y + went a r)) := by
  have hl := h.1
  intro r
  induction r with
  | nil =>
    intro i x y hd _ _ _ _
    have := drop_nil hd
    exact Tot.step (fun _ => spec_Turnover.l0.eq_2 ..) (Tot.neg (by omega) (Tot.now (by simp [came, went])))
  | cons e r ih =>
    intro i x y hd hx hx2 hy hy2
    obtain ⟨h1, h2, h3⟩ := drop_cons hd
    have he := h.2 e (List.mem_of_getElem? h3)
    have ha := he.2.2.2.2
    refine Tot.step (fun _ => spec_Turnover.l0.eq_2 ..) ?_
    rw [rdEn_at h3, w64s (by omega), w64 (x := x + e.f3) (by omega) (by omega), w64 (x := y + e.f3) (by omega) (by omega), came, went]
    refine Tot.pos (by omega) (Tot.pos (by omega) (Tot.ite (fun g1 => Tot.ite (fun g2 => ?_) (fun g2 => ?_)) (fun g1 => Tot.ite (fun g2 => ?_) (fun g2 => ?_))))
    · rw [if_pos g1, if_pos g2]
      refine (ih (i + 1) _ _ h2 (by omega) (by omega) (by omega) (by omega)).mono ?_
      rintro t rfl
      rw [Int.add_assoc, Int.add_assoc]
    · rw [if_pos g1, if_neg g2]
      refine (ih (i + 1) _ _ h2 (by omega) (by omega) (by omega) (by omega)).mono ?_
      rintro t rfl
      rw [Int.add_assoc, Int.zero_add]
    · rw [if_neg g1, if_pos g2]
      refine (ih (i + 1) _ _ h2 (by omega) (by omega) (by omega) (by omega)).mono ?_
      rintro t rfl
      rw [Int.add_assoc, Int.zero_add]
    · rw [if_neg g1, if_neg g2]
      refine (ih (i + 1) _ _ h2 (by omega) (by omega) (by omega) (by omega)).mono ?_
      rintro t rfl
      rw [Int.zero_add, Int.zero_add]
theorem specTurnover_tot {l : List En} {a : Int} (hl : l.length ≤ 1000000000) : Tot (fun k => spec_Turnover.f k l a) (fun t => t = if EV l ∧ 0 ≤ a ∧ a ≤ 7 then (came a l, went a l) else (-1, -1)) := by
  unfold spec_Turnover.f
  refine Tot.bind (specValidEntries_tot hl) ?_
  rintro _ rfl
  simp only [decide_eq_true_eq, inRange_eq, Option.bind_some]
  refine Tot.ite (fun h => Tot.step (fun _ => spec_Turnover.j0.eq_2 ..) ?_) (fun h => Tot.step (fun _ => spec_Turnover.j0.eq_2 ..) (Tot.pos rfl ?_))
  · by_cases h2 : 0 ≤ a ∧ a ≤ 7
    · rw [if_pos ⟨h, h2⟩]
      refine Tot.neg (by simp [h2]) ((specTurnover_l0 h l 0 0 0 rfl (by omega) (by omega) (by omega) (by omega)).mono ?_)
      rintro t rfl
      simp
    · rw [if_neg (fun h3 => h2 h3.2)]
      exact Tot.pos (by simp; omega) (Tot.now rfl)
  · rw [if_neg (fun h3 => h h3.1)]; exact Tot.now rfl
theorem came_bound {a : Int} {p : List En} (h : ∀ e ∈ p, okE e) : (0 ≤ came a p ∧ came a p ≤ 1000000 * p.length) ∧ (0 ≤ went a p ∧ went a p ≤ 1000000 * p.length) := by
  induction p with
  | nil => simp [came, went]
  | cons e p ih =>
    have h1 := ih (fun e he => h e (List.mem_cons_of_mem _ he))
    have h2 := (h e (by simp)).2.2.2.2
    rw [came, went, List.length_cons]
    constructor
    · split <;> omega
    · split <;> omega
theorem came_append (a : Int) (p q : List En) : came a (p ++ q) = came a p + came a q := by
  induction p with
  | nil => simp [came]
  | cons e p ih => rw [List.cons_append, came, came, ih]; omega
theorem went_append (a : Int) (p q : List En) : went a (p ++ q) = went a p + went a q := by
  induction p with
  | nil => simp [went]
  | cons e p ih => rw [List.cons_append, went, went, ih]; omega
def upto (f : Int → Int) : Nat → Int
  | 0 => 0
  | n + 1 => upto f n + f (n : Int)
theorem sum_ind {x c : Int} (h0 : 0 ≤ x) (h1 : x ≤ 7) : upto (fun v => if x = v then c else 0) 8 = c := by
  rcases (show x = 0 ∨ x = 1 ∨ x = 2 ∨ x = 3 ∨ x = 4 ∨ x = 5 ∨ x = 6 ∨ x = 7 by omega) with rfl | rfl | rfl | rfl | rfl | rfl | rfl | rfl <;> simp [upto]
theorem upto_add (f g : Int → Int) (n : Nat) : upto (fun v => f v + g v) n = upto f n + upto g n := by
  induction n with
  | zero => rfl
  | succ n ih => rw [upto, upto, upto, ih]; omega
theorem upto_bound {f : Int → Int} {B : Int} (hf : ∀ v, 0 ≤ f v ∧ f v ≤ B) (n : Nat) : 0 ≤ upto f n ∧ upto f n ≤ B * n := by
  induction n with
  | zero => simp [upto]
  | succ n ih =>
    have := hf n
    rw [upto, Int.natCast_add, Int.mul_add]
    simp only [Int.natCast_one, Int.mul_one]
    omega
theorem came_all : ∀ (p : List En), (∀ e ∈ p, okE e) → upto (fun v => came v p) 8 = upto (fun v => went v p) 8 := by
  intro p
  induction p with
  | nil => intro _; rfl
  | cons e p ih =>
    intro h
    have h1 := ih (fun e he => h e (List.mem_cons_of_mem _ he))
    have he := h e (by simp)
    have s1 := sum_ind (c := e.f3) he.2.1.1 he.2.1.2
    have s2 := sum_ind (c := e.f3) he.2.2.1.1 he.2.2.1.2
    simp only [came, went]
    rw [upto_add, upto_add, h1, s1, s2]
theorem lawLoop {l : List En} (h : EV l) {x y a b c d2 : Int} (e1 : wrap64 (a + c) = x) (e2 : wrap64 (b + d2) = y) : ∀ (d i : Nat), i + d = 8 →
    Tot (fun k => laws_FnTurnover.l0 k l x y a b c d2 (upto (fun v => came v l) i) (upto (fun v => went v l) i) i) (fun t => t = true) := by
  have hl := h.1
  have hb : ∀ v, (0 ≤ came v l ∧ came v l ≤ 1000000 * l.length) ∧ (0 ≤ went v l ∧ went v l ≤ 1000000 * l.length) := fun v => came_bound h.2
  intro d
  induction d with
  | zero =>
    intro i hi
    obtain rfl : i = 8 := by omega
    refine Tot.step (fun _ => laws_FnTurnover.l0.eq_2 ..) (Tot.neg (by omega) (Tot.pos e1 (Tot.pos e2 (Tot.now ?_))))
    rw [came_all l h.2]
    simp
  | succ d ih =>
    intro i hi
    refine Tot.step (fun _ => laws_FnTurnover.l0.eq_2 ..) ?_
    refine Tot.pos (by omega) (Tot.bind (implTurnover_tot (by omega)) ?_)
    rintro _ rfl
    rw [if_pos ⟨h, by omega, by omega⟩]
    dsimp only
    have b0 := hb i
    have b1 := upto_bound (B := 40000000) (fun v => (show 0 ≤ came v l ∧ came v l ≤ 40000000 by have := hb v; omega)) i
    have b2 := upto_bound (B := 40000000) (fun v => (show 0 ≤ went v l ∧ went v l ≤ 40000000 by have := hb v; omega)) i
    rw [w64s (by omega), w64 (x := upto (fun v => came v l) i + came i l) (by omega) (by omega), w64 (x := upto (fun v => went v l) i + went i l) (by omega) (by omega)]
    exact ih (i + 1) (by omega)
theorem FnTurnover : laws_FnTurnover.Pure := by
  intro l hl hl2 hw
  refine Tot.ends (g := fun k => laws_FnTurnover.f k l) ?_
  unfold laws_FnTurnover.f spec_DrawTurnover.f
  refine Tot.ite (fun _ => Tot.now rfl) (fun _ => ?_)
  obtain ⟨b, hb, hb2, hb3⟩ := newReader_tot hw
  rw [hb]
  refine Tot.bind (P := fun t : List En × Int => t.1.length ≤ 20) (Tot.known (Tot.bind (anyEntries_tot hb3 (Int.le_refl _) (by omega)) ?_)) ?_
  · rintro ⟨t, p⟩ ⟨h1, h2, h3⟩
    dsimp only at h1 h2 h3 ⊢
    refine Tot.bind (one_tot hb3 (by omega) (by omega) (by simp) (by simp)) ?_
    rintro ⟨a, q⟩ _
    exact Tot.now h1
  rintro ⟨t, a⟩ ht
  dsimp only at ht ⊢
  refine Tot.bind (implTurnover_tot (by omega)) ?_
  rintro _ rfl
  refine Tot.bind (specTurnover_tot (by omega)) ?_
  rintro _ rfl
  refine Tot.pos rfl (Tot.pos rfl (Tot.step (fun _ => laws_FnTurnover.j0.eq_2 ..) ?_))
  refine Tot.ite (fun h1 => Tot.pos rfl (Tot.now (by simp))) (fun h1 => ?_)
  have h : EV t ∧ 0 ≤ a ∧ a ≤ 7 := by
    rcases Classical.em (EV t ∧ 0 ≤ a ∧ a ≤ 7) with h2 | h2
    · exact h2
    · refine absurd ?_ h1
      rw [if_neg h2]
      rfl
  rw [if_pos h]
  dsimp only
  have e0 : wrap64 ((t.length : Int) / 2) = ((t.length / 2 : Nat) : Int) := by
    rw [w64 (by omega) (by omega)]; omega
  rw [e0, Int.toNat_natCast]
  have ht1 : EV (t.take (t.length / 2)) := ⟨by rw [List.length_take]; omega, fun e he => h.1.2 e (List.mem_of_mem_take he)⟩
  have ht2 : EV (t.drop (t.length / 2)) := ⟨by rw [List.length_drop]; omega, fun e he => h.1.2 e (List.mem_of_mem_drop he)⟩
  have hb1 := came_bound (a := a) ht1.2
  have hb2 := came_bound (a := a) ht2.2
  have hn1 := ht1.1
  have hn2 := ht2.1
  have ec : came a (t.take (t.length / 2)) + came a (t.drop (t.length / 2)) = came a t := by rw [← came_append, List.take_append_drop]
  have ew : went a (t.take (t.length / 2)) + went a (t.drop (t.length / 2)) = went a t := by rw [← went_append, List.take_append_drop]
  refine Tot.pos (by omega) (Tot.pos (by omega) (Tot.bind (implTurnover_tot (by omega)) ?_))
  rintro _ rfl
  refine Tot.bind (implTurnover_tot (by omega)) ?_
  rintro _ rfl
  rw [if_pos ⟨ht1, h.2⟩, if_pos ⟨ht2, h.2⟩]
  dsimp only
  exact lawLoop h.1 (by rw [w64 (by omega) (by omega)]; exact ec) (by rw [w64 (by omega) (by omega)]; exact ew) 8 0 rfl
end Go.Proofs.Ytdcapmgebjifpaa.Pure
