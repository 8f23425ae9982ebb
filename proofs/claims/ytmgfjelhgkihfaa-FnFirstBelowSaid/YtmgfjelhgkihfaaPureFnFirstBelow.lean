/- FnFirstBelow: for every code, the balance is less than low after the first entry found, and after none before it. No condition beyond the statement's own. -/
import Derived.Test.YtmgfjelhgkihfaaQFnFirstBelowx5
import Derived.Test.YtmgfjelhgkihfaaCore
namespace Go.Proofs.Ytmgfjelhgkihfaa.Pure
open Go.RowKit Go.Proofs.Ytmgfjelhgkihfaa.PFnFirstBelow Go.Proofs.YtmgfjelhgkihfaaW.PrintWords
set_option linter.unusedSimpArgs false
set_option linter.unusedVariables false

/-! the reader -/
theorem pick_tot {b : List Int} (hb : ∀ x ∈ b, 0 ≤ x ∧ x < 256) {p n : Int} (hp : 0 ≤ p) (hp2 : p ≤ 1000000000) (hn : n ≤ 1000000000000) :
    Tot (fun k => spec_reader_pick.f k b p n) (fun r => r.2 = p + 1 ∧ 0 ≤ r.1 ∧ (r.1 < n ∨ r.1 = 0)) := by
  have e1 : wrap64 (p + 1) = p + 1 := w64 (by omega) (by omega)
  have e2 : wrap64 (p + 1 - 1) = p := by rw [w64 (by omega) (by omega)]; omega
  have main : ∀ t : Bool, (t = false → 1 ≤ n ∧ b.length ≠ 0) → Tot (fun k => spec_reader_pick.j0 k n t b (p + 1)) (fun r => r.2 = p + 1 ∧ 0 ≤ r.1 ∧ (r.1 < n ∨ r.1 = 0)) := by
    intro t ht
    refine Tot.step (fun _ => spec_reader_pick.j0.eq_2 ..) ?_
    simp only [e2]
    cases t with
    | true => exact Tot.pos rfl (Tot.now ⟨rfl, Int.le_refl _, .inr rfl⟩)
    | false =>
      obtain ⟨hn1, hne⟩ := ht rfl
      refine Tot.neg (by simp) ?_
      by_cases hlt : p < (b.length : Int)
      · refine Tot.pos hlt (Tot.pos hp (Tot.neg (by omega) ?_))
        have hr := hb _ (rd_mem hp hlt)
        rw [w64 (x := rd b p) (by omega) (by omega), tmod_nn hr.1]
        exact Tot.now ⟨rfl, Int.emod_nonneg _ (by omega), .inl (Int.emod_lt_of_pos _ (by omega))⟩
      · refine Tot.neg hlt (Tot.neg (by omega) ?_)
        have hlen : 0 < (b.length : Int) := by omega
        have i1 : 0 ≤ Int.tmod p b.length ∧ Int.tmod p b.length < b.length := by
          rw [tmod_nn hp]; exact ⟨Int.emod_nonneg _ (by omega), Int.emod_lt_of_pos _ hlen⟩
        have e3 : wrap64 (wrap64 (p * 7) + 3) = p * 7 + 3 := by
          rw [w64 (x := p * 7) (by omega) (by omega)]; exact w64 (by omega) (by omega)
        rw [e3]
        have i2 : 0 ≤ Int.tmod (p * 7 + 3) b.length ∧ Int.tmod (p * 7 + 3) b.length < b.length := by
          rw [tmod_nn (by omega)]; exact ⟨Int.emod_nonneg _ (by omega), Int.emod_lt_of_pos _ hlen⟩
        refine Tot.pos i1.1 (Tot.pos i1.2 (Tot.pos i2.1 (Tot.pos i2.2 (Tot.neg (by omega) ?_))))
        have hu := hb _ (rd_mem i1.1 i1.2)
        have hv := hb _ (rd_mem i2.1 i2.2)
        have hq : 0 ≤ Int.tdiv p b.length ∧ Int.tdiv p b.length ≤ p := by
          rw [tdiv_nn hp]
          exact ⟨Int.ediv_nonneg hp (by omega), Int.ediv_le_self _ hp⟩
        generalize rd b (Int.tmod p b.length) = u at hu ⊢
        generalize rd b (Int.tmod (p * 7 + 3) b.length) = v at hv ⊢
        generalize Int.tdiv p b.length = q at hq ⊢
        rw [w64 (x := u) (by omega) (by omega), w64 (x := v) (by omega) (by omega), w64 (x := q) (by omega) (by omega), w64 (x := u * 131) (by omega) (by omega), w64 (x := v * 1117) (by omega) (by omega), w64 (x := p * 29) (by omega) (by omega), w64 (x := q * 53) (by omega) (by omega),
          w64 (x := u * 131 + v * 1117) (by omega) (by omega), w64 (x := u * 131 + v * 1117 + p * 29) (by omega) (by omega), w64 (x := u * 131 + v * 1117 + p * 29 + q * 53) (by omega) (by omega)]
        have hx : 0 ≤ u * 131 + v * 1117 + p * 29 + q * 53 ∧ u * 131 + v * 1117 + p * 29 + q * 53 < 4611686018427387904 := by omega
        generalize u * 131 + v * 1117 + p * 29 + q * 53 = x at hx ⊢
        rw [tdiv_nn hx.1, w64 (x := x / 64) (by omega) (by omega)]
        have hz := xor_nn hx.1 hx.2 (b := x / 64) (by omega) (by omega)
        rw [tmod_nn hz]
        exact Tot.now ⟨rfl, Int.emod_nonneg _ (by omega), .inl (Int.emod_lt_of_pos _ (by omega))⟩
  unfold spec_reader_pick.f
  rw [e1]
  refine Tot.ite (fun _ => main true (fun h => by cases h)) (fun h => main _ (fun h2 => ⟨by omega, fun h3 => ?_⟩))
  rw [h3] at h2
  simp at h2
theorem one_tot {b : List Int} (hb : ∀ x ∈ b, 0 ≤ x ∧ x < 256) {p : Int} (hp : 0 ≤ p) (hp2 : p ≤ 1000000000) {l : List Int} (hl : 0 < l.length) (hl2 : l.length ≤ 1000) :
    Tot (fun k => spec_reader_one.f k b p l) (fun r => r.2 = p + 1 ∧ r.1 ∈ l) := by
  unfold spec_reader_one.f
  refine Tot.bind (pick_tot hb hp hp2 (by omega)) ?_
  rintro ⟨v, q⟩ ⟨h1, h2, h3⟩
  simp only at h1 h2 h3 ⊢
  have h4 : v < (l.length : Int) := by omega
  exact Tot.pos h2 (Tot.pos h4 (Tot.now ⟨h1, rd_mem h2 h4⟩))
theorem newReader_tot {l : List Int} (h : ∀ x ∈ l, (Lit.int .u8 x).wf = true) : ∃ b, spec_newReader.f l = some (b, 0) ∧ b.length ≤ 2000 ∧ ∀ x ∈ b, 0 ≤ x ∧ x < 256 := by
  unfold spec_newReader.f
  by_cases h1 : (l.length : Int) > 2000
  · rw [if_pos h1, if_pos (by omega)]
    exact ⟨_, rfl, by simp; omega, fun x hx => wf_u8 (h x (List.mem_of_mem_take hx))⟩
  · rw [if_neg h1]
    exact ⟨_, rfl, by omega, fun x hx => wf_u8 (h x hx)⟩
def sumL : List Int → Int
  | [] => 0
  | x :: r => x + sumL r
theorem sumL_bound {l : List Int} (h : ∀ x ∈ l, 0 ≤ x ∧ x ≤ 1000000) : 0 ≤ sumL l ∧ sumL l ≤ 1000000 * l.length := by
  induction l with
  | nil => simp [sumL]
  | cons x r ih =>
    have h1 := ih (fun y hy => h y (List.mem_cons_of_mem _ hy))
    have h2 := h x (by simp)
    simp only [sumL, List.length_cons]
    omega
/-- A valid body. -/
def VB (ws : List Int) (need : Int) : Prop := (1 ≤ ws.length ∧ ws.length ≤ 12) ∧ (∀ w ∈ ws, 0 ≤ w ∧ w ≤ 100) ∧ 1 ≤ need ∧ need ≤ sumL ws
instance (ws : List Int) (need : Int) : Decidable (VB ws need) := inferInstanceAs (Decidable ((1 ≤ ws.length ∧ ws.length ≤ 12) ∧ (∀ w ∈ ws, 0 ≤ w ∧ w ≤ 100) ∧ 1 ≤ need ∧ need ≤ sumL ws))
theorem dfalse {p : Prop} {i : Decidable p} (h : ¬ p) : false = @decide p i := by
  symm; rw [decide_eq_false_iff_not]; exact h
theorem dtrue {p : Prop} {i : Decidable p} (h : p) : true = @decide p i := by
  symm; rw [decide_eq_true_iff]; exact h
/-! entries -/
abbrev En := S33
def okE (e : En) : Prop := (0 ≤ e.f0 ∧ e.f0 ≤ 999) ∧ (0 ≤ e.f1 ∧ e.f1 ≤ 7) ∧ (0 ≤ e.f2 ∧ e.f2 ≤ 7) ∧ e.f1 ≠ e.f2 ∧ 1 ≤ e.f3 ∧ e.f3 ≤ 1000000
instance (e : En) : Decidable (okE e) := inferInstanceAs (Decidable ((0 ≤ e.f0 ∧ e.f0 ≤ 999) ∧ (0 ≤ e.f1 ∧ e.f1 ≤ 7) ∧ (0 ≤ e.f2 ∧ e.f2 ≤ 7) ∧ e.f1 ≠ e.f2 ∧ 1 ≤ e.f3 ∧ e.f3 ≤ 1000000))
def EV (l : List En) : Prop := l.length ≤ 40 ∧ ∀ e ∈ l, okE e
instance (l : List En) : Decidable (EV l) := inferInstanceAs (Decidable (l.length ≤ 40 ∧ ∀ e ∈ l, okE e))
def chg (a : Int) (e : En) : Int := if a = e.f2 then e.f3 else if a = e.f1 then -e.f3 else 0
theorem rdEn_at {l : List En} {i : Nat} {r : En} (h : l[i]? = some r) : rd_T33 l (i : Int) = r := by
  simp [rd_T33, List.getD_eq_getElem?_getD, h]
def came (a : Int) : List En → Int
  | [] => 0
  | e :: r => (if e.f2 = a then e.f3 else 0) + came a r
def went (a : Int) : List En → Int
  | [] => 0
  | e :: r => (if e.f1 = a then e.f3 else 0) + went a r
def sald (a day : Int) : List En → Int
  | [] => 0
  | e :: r => (if e.f0 ≤ day then chg a e else 0) + sald a day r
theorem someEntries_l0 {b : List Int} (hb : ∀ x ∈ b, 0 ≤ x ∧ x < 256) : ∀ (d : Nat) (out : List En) (p : Int), 0 ≤ p → p + 8 * d ≤ 1000000 → out.length + 2 * d ≤ 1000 →
    Tot (fun k => spec_someEntries.l0 k out d b p) (fun r => r.1.length ≤ out.length + 2 * d ∧ p ≤ r.2 ∧ r.2 ≤ p + 8 * d) := by
  intro d
  induction d with
  | zero =>
    intro out p hp hp2 ho
    exact Tot.step (fun _ => spec_someEntries.l0.eq_2 ..) (Tot.neg (by omega) (Tot.now ⟨by simp, by simp, by simp⟩))
  | succ d ih =>
    intro out p hp hp2 ho
    refine Tot.step (fun _ => spec_someEntries.l0.eq_2 ..) (Tot.pos (by omega) ?_)
    have e : wrap64 (((d + 1 : Nat) : Int) - 1) = (d : Int) := by rw [w64 (by omega) (by omega)]; omega
    rw [e]
    refine Tot.bind (pick_tot hb hp (by omega) (by omega)) ?_
    rintro ⟨v1, q1⟩ ⟨h1, h2, h3⟩
    simp only at h1 h2 h3 ⊢
    refine Tot.bind (pick_tot hb (by omega) (by omega) (by omega)) ?_
    rintro ⟨v2, q2⟩ ⟨g1, g2, g3⟩
    simp only at g1 g2 g3 ⊢
    refine Tot.bind (pick_tot hb (by omega) (by omega) (by omega)) ?_
    rintro ⟨v3, q3⟩ ⟨f1, f2, f3⟩
    simp only at f1 f2 f3 ⊢
    refine Tot.bind (pick_tot hb (by omega) (by omega) (by omega)) ?_
    rintro ⟨v4, q4⟩ ⟨e1, e2, e3⟩
    simp only at e1 e2 e3 ⊢
    refine Tot.bind (pick_tot hb (by omega) (by omega) (by omega)) ?_
    rintro ⟨v5, q5⟩ ⟨d1, d2, d3⟩
    simp only at d1 d2 d3 ⊢
    refine Tot.bind (one_tot hb (by omega) (by omega) (by simp) (by simp)) ?_
    rintro ⟨v6, q6⟩ ⟨c1, c2⟩
    simp only at c1 ⊢
    clear c2
    refine Tot.pos (by omega) (Tot.known ?_)
    generalize hy : out ++ [(⟨v2, v1, Int.tmod (wrap64 ((wrap64 (v1 + 1)) + v3)) 5, v6⟩ : En)] = y
    have hyl : y.length = out.length + 1 := by rw [← hy]; simp
    refine Tot.bind (pick_tot hb (by omega) (by omega) (by omega)) ?_
    rintro ⟨v7, q7⟩ ⟨b1, b2, b3⟩
    simp only at b1 b2 b3 ⊢
    refine Tot.ite (fun h4 => ?_) (fun h4 => ?_)
    · refine Tot.bind (pick_tot hb (by omega) (by omega) (by omega)) ?_
      rintro ⟨v8, q8⟩ ⟨a1, a2, a3⟩
      simp only at a1 a2 a3 ⊢
      refine Tot.pos (by omega) (Tot.pos (by omega) (Tot.pos (by omega) ((ih _ q8 (by omega) (by omega) (by simp; omega)).mono ?_)))
      rintro r ⟨z1, z2, z3⟩
      refine ⟨?_, by omega, by omega⟩
      rw [List.length_append] at z1
      simp only [List.length_cons, List.length_nil] at z1
      omega
    · refine (ih _ q7 (by omega) (by omega) (by omega)).mono ?_
      rintro r ⟨z1, z2, z3⟩
      exact ⟨by omega, by omega, by omega⟩
theorem anyEntries_tot {b : List Int} (hb : ∀ x ∈ b, 0 ≤ x ∧ x < 256) {p : Int} (hp : 0 ≤ p) (hp2 : p ≤ 1000) :
    Tot (fun k => spec_anyEntries.f k b p) (fun r => r.1.length ≤ 20 ∧ p ≤ r.2 ∧ r.2 ≤ p + 100) := by
  unfold spec_anyEntries.f
  refine Tot.bind (P := fun r => r.1.length ≤ 20 ∧ p ≤ r.2 ∧ r.2 ≤ p + 90) ?_ ?_
  · unfold spec_someEntries.f
    refine Tot.bind (one_tot hb hp (by omega) (by simp) (by simp)) ?_
    rintro ⟨n, q⟩ ⟨h1, h2⟩
    simp only [List.mem_cons, List.not_mem_nil, or_false] at h1 h2 ⊢
    obtain ⟨m, rfl⟩ := Int.eq_ofNat_of_zero_le (a := n) (by omega)
    refine (someEntries_l0 hb m [] q (by omega) (by omega) (by simp; omega)).mono ?_
    rintro r ⟨b1, b2, b3⟩
    simp only [List.length_nil] at b1
    exact ⟨by omega, by omega, by omega⟩
  rintro ⟨l, q⟩ ⟨h1, h2, h3⟩
  simp only at h1 h2 h3 ⊢
  refine Tot.ite (fun h0 => ?_) (fun h0 => Tot.now ⟨h1, h2, by simp only; omega⟩)
  refine Tot.bind (pick_tot hb (by omega) (by omega) (by omega)) ?_
  rintro ⟨i, q1⟩ ⟨g1, g2, g3⟩
  simp only at g1 g2 g3 ⊢
  refine Tot.bind (pick_tot hb (by omega) (by omega) (by omega)) ?_
  rintro ⟨c, q2⟩ ⟨f1, f2, f3⟩
  simp only at f1 f2 f3 ⊢
  refine Tot.ite (fun _ => ?_) (fun _ => Tot.ite (fun _ => ?_) (fun _ => Tot.ite (fun _ => ?_) (fun _ => Tot.now ⟨h1, by simp only; omega, by simp only; omega⟩)))
  · refine Tot.bind (one_tot hb (by omega) (by omega) (by simp) (by simp)) ?_
    rintro ⟨v, q3⟩ ⟨e1, e2⟩
    simp only at e1 ⊢
    exact Tot.pos (by omega) (Tot.pos (by omega) (Tot.now ⟨by simp only [List.length_set]; exact h1, by simp only; omega, by simp only; omega⟩))
  · refine Tot.pos (by omega) (Tot.pos (by omega) ?_)
    refine Tot.bind (one_tot hb (by omega) (by omega) (by simp) (by simp)) ?_
    rintro ⟨v, q3⟩ ⟨e1, e2⟩
    simp only at e1 ⊢
    exact Tot.now ⟨by simp only [List.length_set]; exact h1, by simp only; omega, by simp only; omega⟩
  · refine Tot.bind (one_tot hb (by omega) (by omega) (by simp) (by simp)) ?_
    rintro ⟨v, q3⟩ ⟨e1, e2⟩
    simp only at e1 ⊢
    exact Tot.pos (by omega) (Tot.pos (by omega) (Tot.now ⟨by simp only [List.length_set]; exact h1, by simp only; omega, by simp only; omega⟩))
theorem implValidAccount_eq (a : Int) : impl_validAccount.f a = some (decide (0 ≤ a ∧ a ≤ 7)) := by
  unfold impl_validAccount.f
  by_cases h : 0 ≤ a
  · rw [if_pos h]
    congr 1
    rw [decide_eq_decide]; omega
  · rw [if_neg h]
    congr 1
    exact dfalse fun h2 => h h2.1
theorem implValidEntry_tot (e : En) : Tot (fun k => impl_validEntry.f k e.f0 e.f1 e.f2 e.f3) (fun t => t = decide (okE e)) := by
  unfold impl_validEntry.f
  have bad : ¬ okE e → Tot (fun k => impl_validEntry.j0 k true e.f0 e.f1 e.f2 e.f3) (fun t => t = decide (okE e)) := fun h =>
    Tot.step (fun _ => impl_validEntry.j0.eq_2 ..) (Tot.pos rfl (Tot.now (dfalse h)))
  refine Tot.ite (fun h => bad fun h2 => by have := h2.1; omega) (fun h => Tot.ite (fun h1 => bad fun h2 => by have := h2.1; omega) (fun h1 => Tot.ite (fun h3 => bad fun h2 => by have := h2.2.2.2.2; omega) (fun h3 => ?_)))
  refine Tot.step (fun _ => impl_validEntry.j0.eq_2 ..) ?_
  simp only [decide_eq_true_eq, implValidAccount_eq, Option.bind_some]
  refine Tot.ite (fun h4 => Tot.now (dfalse fun h2 => by have := h2.2.2.2.2; omega)) (fun h4 => Tot.ite (fun h5 => Tot.ite (fun h6 => Tot.now ?_) (fun h6 => Tot.now (dfalse fun h2 => h6 h2.2.2.1))) (fun h5 => Tot.now (dfalse fun h2 => h5 h2.2.1)))
  by_cases h7 : e.f1 = e.f2
  · have hf : decide (okE e) = false := (dfalse (p := okE e) (fun h2 => h2.2.2.2.1 h7)).symm
    rw [hf]; simp [h7]
  · rw [← dtrue (p := okE e) ⟨by omega, h5, h6, h7, by omega, by omega⟩]; simp [h7]
theorem implValidEntries_l0 {l : List En} (hl : l.length ≤ 1000000000) : ∀ (r : List En) (i : Nat), l.drop i = r →
    Tot (fun k => impl_ValidEntries.l0 k l l.length i) (fun t => t = decide (∀ x ∈ r, okE x)) := by
  intro r
  induction r with
  | nil =>
    intro i h
    have := drop_nil h
    exact Tot.step (fun _ => impl_ValidEntries.l0.eq_2 ..) (Tot.neg (by omega) (Tot.now (by simp)))
  | cons x r ih =>
    intro i h
    obtain ⟨h1, h2, h3⟩ := drop_cons h
    refine Tot.step (fun _ => impl_ValidEntries.l0.eq_2 ..) ?_
    rw [rdEn_at h3, w64s (by omega)]
    refine Tot.pos (by omega) (Tot.pos (by omega) (Tot.pos (by omega) ?_))
    refine Tot.bind (implValidEntry_tot x) ?_
    rintro _ rfl
    simp only [decide_eq_true_eq]
    refine Tot.ite (fun h4 => (ih (i + 1) h2).mono ?_) (fun h4 => Tot.now (dfalse fun h5 => h4 (h5 x (by simp))))
    rintro t rfl
    rw [decide_eq_decide]
    simp only [List.mem_cons, forall_eq_or_imp]
    exact ⟨fun h => ⟨h4, h⟩, fun h => h.2⟩
theorem implValidEntries_tot {l : List En} (hl : l.length ≤ 1000000000) : Tot (fun k => impl_ValidEntries.f k l) (fun t => t = decide (EV l)) := by
  unfold impl_ValidEntries.f
  refine Tot.ite (fun h => Tot.now (dfalse fun h2 => by have := h2.1; omega)) (fun h => (implValidEntries_l0 hl l 0 rfl).mono ?_)
  rintro t rfl
  rw [decide_eq_decide]
  exact ⟨fun h2 => ⟨by omega, h2⟩, fun h2 => h2.2⟩
/-! what each account has -/
def net1 (a : Int) : List En → Int
  | [] => 0
  | e :: r => chg a e + net1 a r
theorem net1_snoc (a : Int) (p : List En) (e : En) : net1 a (p ++ [e]) = net1 a p + chg a e := by
  induction p with
  | nil => simp [net1]
  | cons x p ih => rw [List.cons_append, net1, net1, ih]; omega
theorem net1_bound {a : Int} {p : List En} (h : ∀ e ∈ p, okE e) : -(1000000 * p.length) ≤ net1 a p ∧ net1 a p ≤ 1000000 * p.length := by
  induction p with
  | nil => simp [net1]
  | cons x p ih =>
    have h1 := ih (fun e he => h e (List.mem_cons_of_mem _ he))
    have h2 := h x (by simp)
    have h3 := h2.2.2.2.2
    have h4 : -1000000 ≤ chg a x ∧ chg a x ≤ 1000000 := by
      unfold chg; split
      · omega
      · split <;> omega
    rw [net1, List.length_cons]
    omega
def salA (p : List En) : List Int := (List.range 8).map (fun v : Nat => net1 v p)
theorem salA_len (p : List En) : (salA p).length = 8 := by simp [salA]
theorem rd_salA {p : List En} {w : Int} (h0 : 0 ≤ w) (h1 : w ≤ 7) : rd (salA p) w = net1 w p := by
  have hlt : w.toNat < (salA p).length := by rw [salA_len]; omega
  have e : (w.toNat : Int) = w := by omega
  have h2 := rd_get hlt
  rw [e] at h2
  rw [h2]
  simp only [salA, List.getElem_map, List.getElem_range, e]
theorem rd_set_ne {xs : List Int} {i : Nat} {y w : Int} (h : w.toNat ≠ i) : rd (xs.set i y) w = rd xs w := by
  simp [rd, List.getD_eq_getElem?_getD, List.getElem?_set_ne (Ne.symm h)]
theorem salA_set2 {p : List En} {e : En} {u v : Int} (hu : 0 ≤ u ∧ u ≤ 7) (hv : 0 ≤ v ∧ v ≤ 7) (h : ∀ w : Int, w ≠ u → w ≠ v → chg w e = 0) :
    ((salA p).set u.toNat (net1 u p + chg u e)).set v.toNat (net1 v p + chg v e) = salA (p ++ [e]) := by
  refine List.ext_getElem (by simp [salA]) (fun i h1 h2 => ?_)
  have hi : i < 8 := by simpa [salA] using h2
  rw [List.getElem_set, List.getElem_set]
  simp only [salA, List.getElem_map, List.getElem_range]
  rw [net1_snoc]
  by_cases g : v.toNat = i
  · rw [if_pos g, show (i : Int) = v from by omega]
  · rw [if_neg g]
    by_cases g2 : u.toNat = i
    · rw [if_pos g2, show (i : Int) = u from by omega]
    · rw [if_neg g2, h (i : Int) (by omega) (by omega), Int.add_zero]
theorem chg_1 {e : En} (he : okE e) : chg e.f1 e = -e.f3 := by
  unfold chg; rw [if_neg he.2.2.2.1, if_pos rfl]
theorem chg_2 {e : En} : chg e.f2 e = e.f3 := by
  unfold chg; rw [if_pos rfl]
theorem chg_0 {e : En} {w : Int} (h1 : w ≠ e.f1) (h2 : w ≠ e.f2) : chg w e = 0 := by
  unfold chg; rw [if_neg h2, if_neg h1]
theorem salA_nil : salA [] = List.replicate 8 0 := by decide
theorem inRange_eq (a b c : Int) : spec_inRange.f a b c = some (decide (b ≤ a ∧ a ≤ c)) := by
  unfold spec_inRange.f
  by_cases h : b ≤ a
  · rw [if_pos h]; simp [h]
  · rw [if_neg h]; simp [h]
theorem specValidEntry_eq (e : En) : spec_validEntry.f e.f0 e.f1 e.f2 e.f3 = some (decide (okE e)) := by
  unfold spec_validEntry.f
  simp only [inRange_eq, Option.bind_some, decide_eq_true_eq]
  by_cases h1 : 0 ≤ e.f0 ∧ e.f0 ≤ 999
  · by_cases h2 : 0 ≤ e.f1 ∧ e.f1 ≤ 7
    · by_cases h3 : 0 ≤ e.f2 ∧ e.f2 ≤ 7
      · by_cases h4 : e.f1 = e.f2
        · rw [if_pos h1, if_pos h2, if_pos h3, if_pos h4]
          congr 1; exact dfalse fun h => h.2.2.2.1 h4
        · rw [if_pos h1, if_pos h2, if_pos h3, if_neg h4]
          congr 1; rw [decide_eq_decide]
          exact ⟨fun h => ⟨h1, h2, h3, h4, h⟩, fun h => h.2.2.2.2⟩
      · rw [if_pos h1, if_pos h2, if_neg h3]
        congr 1; exact dfalse fun h => h3 h.2.2.1
    · rw [if_pos h1, if_neg h2]
      congr 1; exact dfalse fun h => h2 h.2.1
  · rw [if_neg h1]
    congr 1; exact dfalse fun h => h1 h.1
theorem specValidEntries_l0 {l : List En} (hl : l.length ≤ 1000000000) : ∀ (r : List En) (i : Nat), l.drop i = r →
    Tot (fun k => spec_validEntries.l0 k l i) (fun t => t = decide (l.length ≤ 40 ∧ ∀ x ∈ r, okE x)) := by
  intro r
  induction r with
  | nil =>
    intro i h
    have := drop_nil h
    refine Tot.step (fun _ => spec_validEntries.l0.eq_2 ..) (Tot.neg (by omega) (Tot.now ?_))
    rw [decide_eq_decide]
    simp
    omega
  | cons x r ih =>
    intro i h
    obtain ⟨h1, h2, h3⟩ := drop_cons h
    refine Tot.step (fun _ => spec_validEntries.l0.eq_2 ..) ?_
    rw [rdEn_at h3, w64s (by omega), specValidEntry_eq]
    simp only [Option.bind_some, decide_eq_true_eq]
    refine Tot.pos (by omega) (Tot.pos (by omega) (Tot.ite (fun h4 => (ih (i + 1) h2).mono ?_) (fun h4 => Tot.now (dfalse fun h5 => h4 (h5.2 x (by simp))))))
    rintro t rfl
    rw [decide_eq_decide]
    simp only [List.mem_cons, forall_eq_or_imp]
    exact ⟨fun h => ⟨h.1, h4, h.2⟩, fun h => ⟨h.1, h.2.2⟩⟩
theorem specValidEntries_tot {l : List En} (hl : l.length ≤ 1000000000) : Tot (fun k => spec_validEntries.f k l) (fun t => t = decide (EV l)) := by
  unfold spec_validEntries.f
  exact specValidEntries_l0 hl l 0 rfl
theorem specSaldi_l0 {l : List En} (h : EV l) : ∀ (r : List En) (i : Nat), l.drop i = r →
    Tot (fun k => spec_saldi.l0 k l (salA (l.take i)) i) (fun t => t = salA l) := by
  have hl := h.1
  intro r
  induction r with
  | nil =>
    intro i hd
    have := drop_nil hd
    refine Tot.step (fun _ => spec_saldi.l0.eq_2 ..) (Tot.neg (by omega) (Tot.now ?_))
    rw [List.take_of_length_le this]
  | cons e r ih =>
    intro i hd
    obtain ⟨h1, h2, h3⟩ := drop_cons hd
    have he := h.2 e (List.mem_of_getElem? h3)
    have hp : ∀ x ∈ l.take i, okE x := fun x hx => h.2 x (List.mem_of_mem_take hx)
    have hlen : (l.take i).length ≤ 40 := by rw [List.length_take]; omega
    have b1 := net1_bound (a := e.f1) hp
    have b2 := net1_bound (a := e.f2) hp
    obtain ⟨_, g1, g2, g3, g4, g5⟩ := he
    have he := h.2 e (List.mem_of_getElem? h3)
    refine Tot.step (fun _ => spec_saldi.l0.eq_2 ..) ?_
    rw [rdEn_at h3, w64s (by omega), salA_len, rd_salA g1.1 g1.2, w64 (x := net1 e.f1 (l.take i) - e.f3) (by omega) (by omega)]
    refine Tot.pos (by omega) (Tot.pos (by omega) (Tot.pos (by omega) (Tot.pos (by omega) (Tot.known (Tot.pos (by omega) (Tot.pos (by omega) ?_))))))
    rw [rd_set_ne (by omega), rd_salA g2.1 g2.2, w64 (x := net1 e.f2 (l.take i) + e.f3) (by omega) (by omega)]
    have e3 := salA_set2 (p := l.take i) (e := e) g1 g2 (fun w a b => chg_0 a b)
    rw [chg_1 he, chg_2, ← Int.sub_eq_add_neg] at e3
    rw [e3]
    have e4 : l.take i ++ [e] = l.take (i + 1) := by
      rw [List.take_add_one, h3]; rfl
    rw [e4]
    exact ih (i + 1) h2
theorem specsaldi_tot {l : List En} (h : EV l) : Tot (fun k => spec_saldi.f k l) (fun t => t = salA l) := by
  unfold spec_saldi.f
  refine Tot.pos (by omega) ?_
  have := specSaldi_l0 h l 0 rfl
  rw [List.take_zero, salA_nil] at this
  exact this
theorem implChange_eq {e : En} (he : okE e) (a : Int) : impl_changeOf.f e.f0 e.f1 e.f2 e.f3 a = some (chg a e) := by
  unfold impl_changeOf.f chg
  have := he.2.2.2.2
  rw [w64 (x := -e.f3) (by omega) (by omega)]
  split
  · rfl
  · split <;> rfl
theorem chg_bound {e : En} (he : okE e) (a : Int) : -1000000 ≤ chg a e ∧ chg a e ≤ 1000000 := by
  have := he.2.2.2.2
  unfold chg
  split
  · omega
  · split <;> omega
def fb (a low acc : Int) : List En → Int → Int
  | [], _ => -1
  | e :: r, i => if acc + chg a e < low then i else fb a low (acc + chg a e) r (i + 1)
theorem take_one {l : List En} {i : Nat} {e : En} (h : l[i]? = some e) : l.take (i + 1) = l.take i ++ [e] := by
  rw [List.take_add_one, h]; rfl
theorem implFirst_l0 {l : List En} {a low : Int} (h : EV l) : ∀ (r : List En) (i : Nat), l.drop i = r →
    Tot (fun k => impl_FirstBelow.l0 k a low (net1 a (l.take i)) l l.length i) (fun t => t = fb a low (net1 a (l.take i)) r i) := by
  have hl := h.1
  intro r
  induction r with
  | nil =>
    intro i hd
    have := drop_nil hd
    exact Tot.step (fun _ => impl_FirstBelow.l0.eq_2 ..) (Tot.neg (by omega) (Tot.now rfl))
  | cons e r ih =>
    intro i hd
    obtain ⟨h1, h2, h3⟩ := drop_cons hd
    have he := h.2 e (List.mem_of_getElem? h3)
    have hp : ∀ x ∈ l.take (i + 1), okE x := fun x hx => h.2 x (List.mem_of_mem_take hx)
    have hlen : (l.take (i + 1)).length ≤ 40 := by rw [List.length_take]; omega
    have b1 := net1_bound (a := a) hp
    have e1 : net1 a (l.take (i + 1)) = net1 a (l.take i) + chg a e := by rw [take_one h3, net1_snoc]
    refine Tot.step (fun _ => impl_FirstBelow.l0.eq_2 ..) ?_
    rw [rdEn_at h3, w64s (by omega), implChange_eq he]
    refine Tot.pos (by omega) (Tot.pos (by omega) (Tot.pos (by omega) (Tot.known ?_)))
    rw [← e1, w64 (by omega) (by omega), fb, ← e1]
    refine Tot.ite (fun g => ?_) (fun g => ?_)
    · rw [if_pos g]; exact Tot.now rfl
    · rw [if_neg g]; exact ih (i + 1) h2
theorem specFirst_l0 {l : List En} {a low : Int} (h : EV l) (ha : 0 ≤ a ∧ a ≤ 7) : ∀ (r : List En) (i : Nat), l.drop i = r →
    Tot (fun k => spec_FirstBelow.l0 k l a low i) (fun t => t = fb a low (net1 a (l.take i)) r i) := by
  have hl := h.1
  intro r
  induction r with
  | nil =>
    intro i hd
    have := drop_nil hd
    exact Tot.step (fun _ => spec_FirstBelow.l0.eq_2 ..) (Tot.neg (by omega) (Tot.now rfl))
  | cons e r ih =>
    intro i hd
    obtain ⟨h1, h2, h3⟩ := drop_cons hd
    have hp : EV (l.take (i + 1)) := ⟨by rw [List.length_take]; omega, fun x hx => h.2 x (List.mem_of_mem_take hx)⟩
    have e1 : net1 a (l.take (i + 1)) = net1 a (l.take i) + chg a e := by rw [take_one h3, net1_snoc]
    refine Tot.step (fun _ => spec_FirstBelow.l0.eq_2 ..) ?_
    rw [w64s (by omega), Int.toNat_natCast]
    refine Tot.pos (by omega) (Tot.pos (by omega) (Tot.pos (by omega) (Tot.bind (specsaldi_tot hp) ?_)))
    rintro _ rfl
    rw [salA_len, rd_salA ha.1 ha.2, fb, ← e1]
    refine Tot.pos ha.1 (Tot.pos (by omega) (Tot.ite (fun g => ?_) (fun g => ?_)))
    · rw [if_pos g]; exact Tot.now rfl
    · rw [if_neg g]; exact ih (i + 1) h2
theorem implFirst_tot {l : List En} {a low : Int} (hl : l.length ≤ 1000000000) : Tot (fun k => impl_FirstBelow.f k l a low) (fun t => t = if EV l ∧ 0 ≤ a ∧ a ≤ 7 then fb a low 0 l 0 else -1) := by
  unfold impl_FirstBelow.f
  refine Tot.bind (implValidEntries_tot hl) ?_
  rintro _ rfl
  rw [implValidAccount_eq]
  have bad : ¬ (EV l ∧ 0 ≤ a ∧ a ≤ 7) → Tot (fun k => impl_FirstBelow.j0 k l a low true) (fun t => t = if EV l ∧ 0 ≤ a ∧ a ≤ 7 then fb a low 0 l 0 else -1) := by
    intro h
    rw [if_neg h]
    exact Tot.step (fun _ => impl_FirstBelow.j0.eq_2 ..) (Tot.pos rfl (Tot.now rfl))
  refine Tot.ite (fun h1 => Tot.known ?_) (fun h1 => bad fun h => h1 (decide_eq_true h.1))
  by_cases h2 : 0 ≤ a ∧ a ≤ 7
  · rw [decide_eq_true h2, if_pos ⟨of_decide_eq_true h1, h2⟩]
    exact Tot.step (fun _ => impl_FirstBelow.j0.eq_2 ..) (Tot.neg (by decide) (implFirst_l0 (of_decide_eq_true h1) l 0 rfl))
  · rw [decide_eq_false h2]
    exact bad fun h => h2 h.2
theorem specFirst_tot {l : List En} {a low : Int} (hl : l.length ≤ 1000000000) : Tot (fun k => spec_FirstBelow.f k l a low) (fun t => t = if EV l ∧ 0 ≤ a ∧ a ≤ 7 then fb a low 0 l 0 else -1) := by
  unfold spec_FirstBelow.f
  refine Tot.bind (specValidEntries_tot hl) ?_
  rintro _ rfl
  rw [inRange_eq]
  have bad : ¬ (EV l ∧ 0 ≤ a ∧ a ≤ 7) → Tot (fun k => spec_FirstBelow.j0 k l a low true) (fun t => t = if EV l ∧ 0 ≤ a ∧ a ≤ 7 then fb a low 0 l 0 else -1) := by
    intro h
    rw [if_neg h]
    exact Tot.step (fun _ => spec_FirstBelow.j0.eq_2 ..) (Tot.pos rfl (Tot.now rfl))
  refine Tot.ite (fun h1 => Tot.known ?_) (fun h1 => bad fun h => h1 (decide_eq_true h.1))
  by_cases h2 : 0 ≤ a ∧ a ≤ 7
  · rw [decide_eq_true h2, if_pos ⟨of_decide_eq_true h1, h2⟩]
    exact Tot.step (fun _ => spec_FirstBelow.j0.eq_2 ..) (Tot.neg (by decide) (specFirst_l0 (of_decide_eq_true h1) h2 l 0 rfl))
  · rw [decide_eq_false h2]
    exact bad fun h => h2 h.2
theorem implSaldi_l0 {l : List En} (h : EV l) : ∀ (r : List En) (i : Nat), l.drop i = r →
    Tot (fun k => impl_SaldiOf.l0 k (salA (l.take i)) l l.length i) (fun t => t = salA l) := by
  have hl := h.1
  intro r
  induction r with
  | nil =>
    intro i hd
    have := drop_nil hd
    refine Tot.step (fun _ => impl_SaldiOf.l0.eq_2 ..) (Tot.neg (by omega) (Tot.now ?_))
    rw [List.take_of_length_le this]
  | cons e r ih =>
    intro i hd
    obtain ⟨h1, h2, h3⟩ := drop_cons hd
    have he := h.2 e (List.mem_of_getElem? h3)
    have hp : ∀ x ∈ l.take i, okE x := fun x hx => h.2 x (List.mem_of_mem_take hx)
    have hlen : (l.take i).length ≤ 40 := by rw [List.length_take]; omega
    have b1 := net1_bound (a := e.f1) hp
    have b2 := net1_bound (a := e.f2) hp
    obtain ⟨_, g1, g2, g3, g4, g5⟩ := he
    have he := h.2 e (List.mem_of_getElem? h3)
    refine Tot.step (fun _ => impl_SaldiOf.l0.eq_2 ..) ?_
    rw [rdEn_at h3, w64s (by omega), salA_len, rd_salA g2.1 g2.2, w64 (x := net1 e.f2 (l.take i) + e.f3) (by omega) (by omega)]
    refine Tot.pos (by omega) (Tot.pos (by omega) (Tot.pos (by omega) (Tot.pos (by omega) (Tot.pos (by omega) (Tot.known (Tot.pos (by omega) (Tot.pos (by omega) ?_)))))))
    rw [rd_set_ne (by omega), rd_salA g1.1 g1.2, w64 (x := net1 e.f1 (l.take i) - e.f3) (by omega) (by omega)]
    have e3 := salA_set2 (p := l.take i) (e := e) g2 g1 (fun w a b => chg_0 b a)
    rw [chg_1 he, chg_2, ← Int.sub_eq_add_neg] at e3
    rw [e3]
    have e4 : l.take i ++ [e] = l.take (i + 1) := by
      rw [List.take_add_one, h3]; rfl
    rw [e4]
    exact ih (i + 1) h2
theorem implSaldi_tot {l : List En} (hl : l.length ≤ 1000000000) : Tot (fun k => impl_SaldiOf.f k l) (fun t => t = if EV l then salA l else []) := by
  unfold impl_SaldiOf.f
  refine Tot.bind (implValidEntries_tot hl) ?_
  rintro _ rfl
  by_cases h : EV l
  · rw [if_pos h]
    refine Tot.pos (decide_eq_true h) (Tot.pos (by omega) ?_)
    have := implSaldi_l0 h l 0 rfl
    rw [List.take_zero, salA_nil] at this
    exact this
  · rw [if_neg h]
    exact Tot.neg (by simpa using h) (Tot.now rfl)
theorem fb_char {l : List En} {a low : Int} : ∀ (r : List En) (i : Nat), l.drop i = r → fb a low (net1 a (l.take i)) r i < 0 ∨
    ∃ m : Nat, fb a low (net1 a (l.take i)) r i = m ∧ m < l.length ∧ net1 a (l.take (m + 1)) < low ∧ ∀ j : Nat, i ≤ j → j < m → ¬ net1 a (l.take (j + 1)) < low := by
  intro r
  induction r with
  | nil => intro i _; exact Or.inl (by rw [fb]; omega)
  | cons e r ih =>
    intro i hd
    obtain ⟨h1, h2, h3⟩ := drop_cons hd
    have e1 : net1 a (l.take (i + 1)) = net1 a (l.take i) + chg a e := by rw [take_one h3, net1_snoc]
    rw [fb, ← e1]
    by_cases g : net1 a (l.take (i + 1)) < low
    · rw [if_pos g]
      exact Or.inr ⟨i, rfl, h1, g, fun j hj hj2 => absurd hj (by omega)⟩
    · rw [if_neg g]
      rcases ih (i + 1) h2 with h | ⟨m, hm, hm2, hm3, hm4⟩
      · exact Or.inl h
      · refine Or.inr ⟨m, hm, hm2, hm3, fun j hj hj2 => ?_⟩
        by_cases hji : j = i
        · rw [hji]; exact g
        · exact hm4 j (by omega) hj2
theorem lawLoop {l : List En} {a low : Int} (h : EV l) (ha : 0 ≤ a ∧ a ≤ 7) {m : Nat} (hm : m < l.length) (hm3 : net1 a (l.take (m + 1)) < low) (hm4 : ∀ j : Nat, j < m → ¬ net1 a (l.take (j + 1)) < low) :
    ∀ (d i : Nat), i + d = m → Tot (fun k => laws_FnFirstBelow.l0 k l a low m i) (fun t => t = true) := by
  have hl := h.1
  have hp : ∀ i, EV (l.take i) := fun i => ⟨by rw [List.length_take]; omega, fun x hx => h.2 x (List.mem_of_mem_take hx)⟩
  intro d
  induction d with
  | zero =>
    intro i hi
    refine Tot.step (fun _ => laws_FnFirstBelow.l0.eq_2 ..) ?_
    rw [w64s (i := m) (by omega), Int.toNat_natCast]
    refine Tot.neg (by omega) (Tot.pos (by omega) (Tot.pos (by omega) (Tot.bind (implSaldi_tot (by have := (hp (m + 1)).1; omega)) ?_)))
    rintro _ rfl
    rw [if_pos (hp _), salA_len, rd_salA ha.1 ha.2]
    exact Tot.pos ha.1 (Tot.pos (by omega) (Tot.now (decide_eq_true hm3)))
  | succ d ih =>
    intro i hi
    refine Tot.step (fun _ => laws_FnFirstBelow.l0.eq_2 ..) ?_
    rw [w64s (i := i) (by omega), Int.toNat_natCast]
    refine Tot.pos (by omega) (Tot.pos (by omega) (Tot.pos (by omega) (Tot.bind (implSaldi_tot (by have := (hp (i + 1)).1; omega)) ?_)))
    rintro _ rfl
    rw [if_pos (hp _), salA_len, rd_salA ha.1 ha.2]
    exact Tot.pos ha.1 (Tot.pos (by omega) (Tot.neg (hm4 i (by omega)) (ih (i + 1) (by omega))))
theorem FnFirstBelow : laws_FnFirstBelow.Pure := by
  intro l hl hl2 hw
  refine Tot.ends (g := fun k => laws_FnFirstBelow.f k l) ?_
  unfold laws_FnFirstBelow.f spec_DrawFirstBelow.f
  refine Tot.ite (fun _ => Tot.now rfl) (fun _ => ?_)
  obtain ⟨b, hb, hb2, hb3⟩ := newReader_tot hw
  rw [hb]
  refine Tot.bind (P := fun t : List En × Int × Int => t.1.length ≤ 20) (Tot.known (Tot.bind (anyEntries_tot hb3 (Int.le_refl _) (by omega)) ?_)) ?_
  · rintro ⟨t, p⟩ ⟨h1, h2, h3⟩
    dsimp only at h1 h2 h3 ⊢
    refine Tot.bind (one_tot hb3 (by omega) (by omega) (by simp) (by simp)) ?_
    rintro ⟨a, q⟩ ⟨h4, _⟩
    dsimp only at h4 ⊢
    refine Tot.bind (one_tot hb3 (by omega) (by omega) (by simp) (by simp)) ?_
    rintro ⟨a2, q2⟩ _
    exact Tot.now h1
  rintro ⟨t, a, low⟩ ht
  dsimp only at ht ⊢
  refine Tot.bind (implFirst_tot (by omega)) ?_
  rintro _ rfl
  refine Tot.bind (specFirst_tot (by omega)) ?_
  rintro _ rfl
  refine Tot.pos rfl (Tot.step (fun _ => laws_FnFirstBelow.j0.eq_2 ..) ?_)
  refine Tot.ite (fun h1 => ?_) (fun h1 => ?_)
  · refine Tot.bind (specFirst_tot (by omega)) ?_
    rintro _ rfl
    exact Tot.now (by simp)
  · have h : EV t ∧ 0 ≤ a ∧ a ≤ 7 := by
      rcases Classical.em (EV t ∧ 0 ≤ a ∧ a ≤ 7) with h2 | h2
      · exact h2
      · refine absurd ?_ h1
        rw [if_neg h2]
        rfl
    rw [if_pos h] at h1 ⊢
    rcases fb_char (l := t) (a := a) (low := low) t 0 rfl with h2 | ⟨m, hm, hm2, hm3, hm4⟩
    · exact absurd (decide_eq_true h2) h1
    · have hm' : fb a low 0 t 0 = m := hm
      rw [hm']
      exact lawLoop h.1 h.2 hm2 hm3 (fun j hj => hm4 j (by omega) hj) m 0 (by omega)
end Go.Proofs.Ytmgfjelhgkihfaa.Pure
