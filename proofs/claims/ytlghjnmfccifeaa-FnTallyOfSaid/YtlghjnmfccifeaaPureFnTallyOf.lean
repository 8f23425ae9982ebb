/- FnTallyOf: for every code, the tallies of all four ballots together are the sum of all weights. No condition beyond the statement's own. -/
import Derived.Test.YtlghjnmfccifeaaQFnTallyOfx6
import Derived.Test.YtlghjnmfccifeaaCore
namespace Go.Proofs.Ytlghjnmfccifeaa.Pure
open Go.RowKit Go.Proofs.Ytlghjnmfccifeaa.PFnTallyOf Go.Proofs.YtlghjnmfccifeaaW.PrintWords
set_option linter.unusedSimpArgs false
set_option linter.unusedVariables false

/-! the reader -/
theorem pick_tot {b : List Int} (hb : ∀ x ∈ b, 0 ≤ x ∧ x < 256) {p n : Int} (hp : 0 ≤ p) (hp2 : p ≤ 1000000000) (hn : n ≤ 1000000000000) :
    Tot (fun k => spec_reader_pick.f k b p n) (fun r => r.2 = p + 1 ∧ 0 ≤ r.1 ∧ (r.1 < n ∨ r.1 = 0)) := by
  have e1 : wrap64 (p + 1) = p + 1 := w64 (by omega) (by omega)
  have e2 : wrap64 (p + 1 - 1) = p := by rw [w64 (by omega) (by omega)]; omega
  have main : ∀ t : Bool, (t = false → 1 ≤ n ∧ b.length ≠ 0) → Tot (fun k => spec_reader_pick.j0 k n t b (p + 1)) (fun r => r.2 = p + 1 ∧ 0 ≤ r.1 ∧ (r.1 < n ∨ r.1 = 0)) := by
    intro t ht
    refine Tot.step (fun _ => spec_reader_pick.j0.eq_2 ..) ?_
    simp only [e2]
    cases t with
    | true => exact Tot.pos rfl (Tot.now ⟨rfl, Int.le_refl _, .inr rfl⟩)
    | false =>
      obtain ⟨hn1, hne⟩ := ht rfl
      refine Tot.neg (by simp) ?_
      by_cases hlt : p < (b.length : Int)
      · refine Tot.pos hlt (Tot.pos hp (Tot.neg (by omega) ?_))
        have hr := hb _ (rd_mem hp hlt)
        rw [w64 (x := rd b p) (by omega) (by omega), tmod_nn hr.1]
        exact Tot.now ⟨rfl, Int.emod_nonneg _ (by omega), .inl (Int.emod_lt_of_pos _ (by omega))⟩
      · refine Tot.neg hlt (Tot.neg (by omega) ?_)
        have hlen : 0 < (b.length : Int) := by omega
        have i1 : 0 ≤ Int.tmod p b.length ∧ Int.tmod p b.length < b.length := by
          rw [tmod_nn hp]; exact ⟨Int.emod_nonneg _ (by omega), Int.emod_lt_of_pos _ hlen⟩
        have e3 : wrap64 (wrap64 (p * 7) + 3) = p * 7 + 3 := by
          rw [w64 (x := p * 7) (by omega) (by omega)]; exact w64 (by omega) (by omega)
        rw [e3]
        have i2 : 0 ≤ Int.tmod (p * 7 + 3) b.length ∧ Int.tmod (p * 7 + 3) b.length < b.length := by
          rw [tmod_nn (by omega)]; exact ⟨Int.emod_nonneg _ (by omega), Int.emod_lt_of_pos _ hlen⟩
        refine Tot.pos i1.1 (Tot.pos i1.2 (Tot.pos i2.1 (Tot.pos i2.2 (Tot.neg (by omega) ?_))))
        have hu := hb _ (rd_mem i1.1 i1.2)
        have hv := hb _ (rd_mem i2.1 i2.2)
        have hq : 0 ≤ Int.tdiv p b.length ∧ Int.tdiv p b.length ≤ p := by
          rw [tdiv_nn hp]
          exact ⟨Int.ediv_nonneg hp (by omega), Int.ediv_le_self _ hp⟩
        generalize rd b (Int.tmod p b.length) = u at hu ⊢
        generalize rd b (Int.tmod (p * 7 + 3) b.length) = v at hv ⊢
        generalize Int.tdiv p b.length = q at hq ⊢
        rw [w64 (x := u) (by omega) (by omega), w64 (x := v) (by omega) (by omega), w64 (x := q) (by omega) (by omega), w64 (x := u * 131) (by omega) (by omega), w64 (x := v * 1117) (by omega) (by omega), w64 (x := p * 29) (by omega) (by omega), w64 (x := q * 53) (by omega) (by omega),
          w64 (x := u * 131 + v * 1117) (by omega) (by omega), w64 (x := u * 131 + v * 1117 + p * 29) (by omega) (by omega), w64 (x := u * 131 + v * 1117 + p * 29 + q * 53) (by omega) (by omega)]
        have hx : 0 ≤ u * 131 + v * 1117 + p * 29 + q * 53 ∧ u * 131 + v * 1117 + p * 29 + q * 53 < 4611686018427387904 := by omega
        generalize u * 131 + v * 1117 + p * 29 + q * 53 = x at hx ⊢
        rw [tdiv_nn hx.1, w64 (x := x / 64) (by omega) (by omega)]
        have hz := xor_nn hx.1 hx.2 (b := x / 64) (by omega) (by omega)
        rw [tmod_nn hz]
        exact Tot.now ⟨rfl, Int.emod_nonneg _ (by omega), .inl (Int.emod_lt_of_pos _ (by omega))⟩
  unfold spec_reader_pick.f
  rw [e1]
  refine Tot.ite (fun _ => main true (fun h => by cases h)) (fun h => main _ (fun h2 => ⟨by omega, fun h3 => ?_⟩))
  rw [h3] at h2
  simp at h2
theorem one_tot {b : List Int} (hb : ∀ x ∈ b, 0 ≤ x ∧ x < 256) {p : Int} (hp : 0 ≤ p) (hp2 : p ≤ 1000000000) {l : List Int} (hl : 0 < l.length) (hl2 : l.length ≤ 1000) :
    Tot (fun k => spec_reader_one.f k b p l) (fun r => r.2 = p + 1 ∧ r.1 ∈ l) := by
  unfold spec_reader_one.f
  refine Tot.bind (pick_tot hb hp hp2 (by omega)) ?_
  rintro ⟨v, q⟩ ⟨h1, h2, h3⟩
  simp only at h1 h2 h3 ⊢
  have h4 : v < (l.length : Int) := by omega
  exact Tot.pos h2 (Tot.pos h4 (Tot.now ⟨h1, rd_mem h2 h4⟩))
theorem newReader_tot {l : List Int} (h : ∀ x ∈ l, (Lit.int .u8 x).wf = true) : ∃ b, spec_newReader.f l = some (b, 0) ∧ b.length ≤ 2000 ∧ ∀ x ∈ b, 0 ≤ x ∧ x < 256 := by
  unfold spec_newReader.f
  by_cases h1 : (l.length : Int) > 2000
  · rw [if_pos h1, if_pos (by omega)]
    exact ⟨_, rfl, by simp; omega, fun x hx => wf_u8 (h x (List.mem_of_mem_take hx))⟩
  · rw [if_neg h1]
    exact ⟨_, rfl, by omega, fun x hx => wf_u8 (h x hx)⟩
def sumL : List Int → Int
  | [] => 0
  | x :: r => x + sumL r
theorem sumL_bound {l : List Int} (h : ∀ x ∈ l, 0 ≤ x ∧ x ≤ 1000000) : 0 ≤ sumL l ∧ sumL l ≤ 1000000 * l.length := by
  induction l with
  | nil => simp [sumL]
  | cons x r ih =>
    have h1 := ih (fun y hy => h y (List.mem_cons_of_mem _ hy))
    have h2 := h x (by simp)
    simp only [sumL, List.length_cons]
    omega
theorem specTotal_l0 {xs : List Int} (hl : xs.length ≤ 1000000) (hx : ∀ x ∈ xs, 0 ≤ x ∧ x ≤ 1000000) : ∀ (r : List Int) (i : Nat) (acc : Int), xs.drop i = r → 0 ≤ acc → acc ≤ 1000000 * i →
    Tot (fun k => spec_total.l0 k xs acc i) (fun t => t = acc + sumL r) := by
  intro r
  induction r with
  | nil =>
    intro i acc h _ _
    have := drop_nil h
    exact Tot.step (fun _ => spec_total.l0.eq_2 ..) (Tot.neg (by omega) (Tot.now (by simp [sumL])))
  | cons x r ih =>
    intro i acc h ha ha2
    obtain ⟨h1, h2, h3⟩ := drop_cons h
    have h4 := hx x (List.mem_of_getElem? h3)
    refine Tot.step (fun _ => spec_total.l0.eq_2 ..) ?_
    rw [rd_at h3, w64s (by omega), w64 (x := acc + x) (by omega) (by omega)]
    refine Tot.pos (by omega) (Tot.pos (by omega) ((ih (i + 1) (acc + x) h2 (by omega) (by omega)).mono ?_))
    rintro t rfl
    rw [sumL]; omega
theorem specTotal_tot {xs : List Int} (hl : xs.length ≤ 1000000) (hx : ∀ x ∈ xs, 0 ≤ x ∧ x ≤ 1000000) : Tot (fun k => spec_total.f k xs) (fun t => t = sumL xs) := by
  unfold spec_total.f
  refine (specTotal_l0 hl hx xs 0 0 rfl (Int.le_refl _) (by omega)).mono ?_
  rintro t rfl
  omega
theorem Tot.bindv {α β : Type} {g : Nat → Option α} {F : Nat → α → Option β} {v : α} {Q : β → Prop} (h : Tot g (fun t => t = v)) (h2 : Tot (fun k => F k v) Q) : Tot (fun k => (g k).bind (F k)) Q :=
  Tot.bind h (fun a ha => by rw [ha]; exact h2)
theorem someBody_l0 {b : List Int} (hb : ∀ x ∈ b, 0 ≤ x ∧ x < 256) : ∀ (d : Nat) (p : Int) (ws : List Int) (nd : Int), 0 ≤ p → p + 2 * d ≤ 100000 → ws.length + d ≤ 1000 → (∀ x ∈ ws, 0 ≤ x ∧ x ≤ 100) →
    Tot (fun k => spec_someBody.l0 k d b p ws nd) (fun r => (r.1.length = ws.length + d ∧ ∀ x ∈ r.1, 0 ≤ x ∧ x ≤ 100) ∧ p ≤ r.2.2 ∧ r.2.2 ≤ p + 2 * d + 2) := by
  intro d
  induction d with
  | zero =>
    intro p ws nd hp hp2 hl hw
    have hs := sumL_bound (l := ws) (fun x hx => ⟨(hw x hx).1, by have := (hw x hx).2; omega⟩)
    refine Tot.step (fun _ => spec_someBody.l0.eq_2 ..) (Tot.neg (by omega) ?_)
    refine Tot.bindv (specTotal_tot (by omega) (fun x hx => ⟨(hw x hx).1, by have := (hw x hx).2; omega⟩)) ?_
    rw [w64 (x := sumL ws + 1) (by omega) (by omega)]
    refine Tot.bind (pick_tot hb hp (by omega) (by omega)) ?_
    rintro ⟨v, q⟩ ⟨h1, h2, h3⟩
    dsimp only at h1 h2 h3 ⊢
    refine Tot.bind (one_tot hb (by omega) (by omega) (by simp) (by simp)) ?_
    rintro ⟨v2, q2⟩ ⟨h4, _⟩
    dsimp only at h4
    exact Tot.now ⟨⟨by simp, hw⟩, by dsimp only; omega, by dsimp only; omega⟩
  | succ d ih =>
    intro p ws nd hp hp2 hl hw
    refine Tot.step (fun _ => spec_someBody.l0.eq_2 ..) (Tot.pos (by omega) ?_)
    have e : wrap64 (((d + 1 : Nat) : Int) - 1) = (d : Int) := by rw [w64 (by omega) (by omega)]; omega
    rw [e]
    refine Tot.bind (pick_tot hb hp (by omega) (by omega)) ?_
    rintro ⟨v, q⟩ ⟨h1, h2, h3⟩
    dsimp only at h1 h2 h3 ⊢
    rw [w64 (x := 1 + v) (by omega) (by omega)]
    refine Tot.bind (one_tot hb (by omega) (by omega) (by simp) (by simp)) ?_
    rintro ⟨v2, q2⟩ ⟨h4, h5⟩
    simp only [List.mem_cons, List.not_mem_nil, or_false] at h4 h5 ⊢
    refine Tot.pos (by omega) ((ih q2 (ws ++ [v2]) nd (by omega) (by omega) (by simp; omega) (fun x hx => ?_)).mono ?_)
    · rcases List.mem_append.1 hx with hx | hx
      · exact hw x hx
      · rw [List.mem_singleton.1 hx]; omega
    · rintro r ⟨⟨g1, g2⟩, g3, g4⟩
      exact ⟨⟨by rw [g1]; simp; omega, g2⟩, by omega, by omega⟩
theorem someBody_tot {b : List Int} (hb : ∀ x ∈ b, 0 ≤ x ∧ x < 256) {p : Int} (hp : 0 ≤ p) (hp2 : p ≤ 10000) :
    Tot (fun k => spec_someBody.f k b p) (fun r => ((1 ≤ r.1.length ∧ r.1.length ≤ 8) ∧ ∀ x ∈ r.1, 0 ≤ x ∧ x ≤ 100) ∧ p ≤ r.2.2 ∧ r.2.2 ≤ p + 30) := by
  unfold spec_someBody.f
  refine Tot.bind (one_tot hb hp (by omega) (by simp) (by simp)) ?_
  rintro ⟨n, q⟩ ⟨h1, h2⟩
  simp only [List.mem_cons, List.not_mem_nil, or_false] at h1 h2 ⊢
  obtain ⟨m, rfl⟩ := Int.eq_ofNat_of_zero_le (show 0 ≤ n by omega)
  refine (someBody_l0 hb m q [] 0 (by omega) (by omega) (by simp; omega) (fun x hx => by simp at hx)).mono ?_
  rintro r ⟨⟨g1, g2⟩, g3, g4⟩
  simp only [List.length_nil] at g1
  exact ⟨⟨by omega, g2⟩, by omega, by omega⟩
theorem anyBody_l0 {b : List Int} {q : Int} : ∀ (d : Nat) (ws : List Int) (nd : Int), ws.length + d = 9 →
    Tot (fun k => spec_anyBody.l0 k b q ws nd) (fun r => r.1.length = 9 ∧ r.2.2 = q) := by
  intro d
  induction d with
  | zero =>
    intro ws nd h
    exact Tot.step (fun _ => spec_anyBody.l0.eq_2 ..) (Tot.neg (by omega) (Tot.now ⟨by dsimp only; omega, rfl⟩))
  | succ d ih =>
    intro ws nd h
    exact Tot.step (fun _ => spec_anyBody.l0.eq_2 ..) (Tot.pos (by omega) (Tot.pos (by omega) (ih _ nd (by simp; omega))))
theorem anyBody_tot {b : List Int} (hb : ∀ x ∈ b, 0 ≤ x ∧ x < 256) {p : Int} (hp : 0 ≤ p) (hp2 : p ≤ 10000) :
    Tot (fun k => spec_anyBody.f k b p) (fun r => r.1.length ≤ 9 ∧ p ≤ r.2.2 ∧ r.2.2 ≤ p + 32) := by
  unfold spec_anyBody.f
  refine Tot.bind (someBody_tot hb hp hp2) ?_
  rintro ⟨ws, nd, q⟩ ⟨⟨⟨h1, h2⟩, h3⟩, h4, h5⟩
  dsimp only at h1 h2 h3 h4 h5 ⊢
  have hs := sumL_bound (l := ws) (fun x hx => ⟨(h3 x hx).1, by have := (h3 x hx).2; omega⟩)
  refine Tot.bind (pick_tot hb (by omega) (by omega) (by omega)) ?_
  rintro ⟨v, q2⟩ ⟨g1, g2, g3⟩
  dsimp only at g1 g2 g3 ⊢
  refine Tot.ite (fun _ => ?_) (fun _ => Tot.ite (fun _ => ?_) (fun _ => Tot.ite (fun _ => ?_) (fun _ => Tot.now ⟨by dsimp only; omega, by dsimp only; omega, by dsimp only; omega⟩)))
  · refine Tot.bindv (specTotal_tot (by omega) (fun x hx => ⟨(h3 x hx).1, by have := (h3 x hx).2; omega⟩)) ?_
    refine Tot.bind (one_tot hb (by omega) (by omega) (by simp) (by simp)) ?_
    rintro ⟨v2, q3⟩ ⟨f1, _⟩
    dsimp only at f1
    exact Tot.now ⟨by dsimp only; omega, by dsimp only; omega, by dsimp only; omega⟩
  · refine Tot.bind (one_tot hb (by omega) (by omega) (by simp) (by simp)) ?_
    rintro ⟨v2, q3⟩ ⟨f1, _⟩
    dsimp only at f1
    exact Tot.pos (by omega) (Tot.now ⟨by simp only [List.length_set]; omega, by dsimp only; omega, by dsimp only; omega⟩)
  · refine (anyBody_l0 (9 - ws.length) ws nd (by omega)).mono ?_
    rintro r ⟨f1, f2⟩
    exact ⟨by omega, by omega, by omega⟩
theorem someBallots_l0 {b : List Int} (hb : ∀ x ∈ b, 0 ≤ x ∧ x < 256) {n : Nat} (hn : n ≤ 100) : ∀ (d i : Nat) (out : List Int) (p : Int), i + d = n → out.length = i → 0 ≤ p → p + 2 * d ≤ 100000 →
    Tot (fun k => spec_someBallots.l0 k n out i b p) (fun r => r.1.length = n ∧ p ≤ r.2 ∧ r.2 ≤ p + d + 2) := by
  intro d
  induction d with
  | zero =>
    intro i out p hi ho hp hp2
    refine Tot.step (fun _ => spec_someBallots.l0.eq_2 ..) (Tot.neg (by omega) ?_)
    refine Tot.ite (fun h => ?_) (fun h => Tot.now ⟨by dsimp only; omega, by dsimp only; omega, by dsimp only; omega⟩)
    refine Tot.bind (pick_tot hb hp (by omega) (by omega)) ?_
    rintro ⟨v, q⟩ ⟨h1, h2, h3⟩
    dsimp only at h1 h2 h3 ⊢
    refine Tot.ite (fun h4 => ?_) (fun h4 => Tot.now ⟨by dsimp only; omega, by dsimp only; omega, by dsimp only; omega⟩)
    refine Tot.bind (one_tot hb (by omega) (by omega) (by simp) (by simp)) ?_
    rintro ⟨v2, q2⟩ ⟨h5, _⟩
    dsimp only at h5
    exact Tot.pos (by omega) (Tot.now ⟨by simp only [List.length_set]; omega, by dsimp only; omega, by dsimp only; omega⟩)
  | succ d ih =>
    intro i out p hi ho hp hp2
    refine Tot.step (fun _ => spec_someBallots.l0.eq_2 ..) (Tot.pos (by omega) ?_)
    refine Tot.bind (one_tot hb hp (by omega) (by simp) (by simp)) ?_
    rintro ⟨v2, q2⟩ ⟨h5, _⟩
    dsimp only at h5 ⊢
    rw [w64s (by omega)]
    refine Tot.pos (by omega) ((ih (i + 1) _ q2 (by omega) (by simp; omega) (by omega) (by omega)).mono ?_)
    rintro r ⟨g1, g2, g3⟩
    exact ⟨g1, by omega, by omega⟩
theorem someBallots_tot {b : List Int} (hb : ∀ x ∈ b, 0 ≤ x ∧ x < 256) {p : Int} (hp : 0 ≤ p) (hp2 : p ≤ 20000) {n : Nat} (hn : n ≤ 100) :
    Tot (fun k => spec_someBallots.f k b p n) (fun r => r.1.length = n ∧ p ≤ r.2 ∧ r.2 ≤ p + 102) := by
  unfold spec_someBallots.f
  refine (someBallots_l0 hb hn n 0 [] p (by omega) rfl hp (by omega)).mono ?_
  rintro r ⟨g1, g2, g3⟩
  exact ⟨g1, by omega, by omega⟩
/-- A valid body. -/
def VB (ws : List Int) (need : Int) : Prop := (1 ≤ ws.length ∧ ws.length ≤ 12) ∧ (∀ w ∈ ws, 0 ≤ w ∧ w ≤ 100) ∧ 1 ≤ need ∧ need ≤ sumL ws
instance (ws : List Int) (need : Int) : Decidable (VB ws need) := inferInstanceAs (Decidable ((1 ≤ ws.length ∧ ws.length ≤ 12) ∧ (∀ w ∈ ws, 0 ≤ w ∧ w ≤ 100) ∧ 1 ≤ need ∧ need ≤ sumL ws))
theorem dfalse {p : Prop} {i : Decidable p} (h : ¬ p) : false = @decide p i := by
  symm; rw [decide_eq_false_iff_not]; exact h
theorem dtrue {p : Prop} {i : Decidable p} (h : p) : true = @decide p i := by
  symm; rw [decide_eq_true_iff]; exact h
/-- Valid ballots of a valid body. -/
def VBal (ws : List Int) (need : Int) (bs : List Int) : Prop := VB ws need ∧ bs.length = ws.length ∧ ∀ b ∈ bs, 0 ≤ b ∧ b ≤ 3
instance (ws : List Int) (need : Int) (bs : List Int) : Decidable (VBal ws need bs) := inferInstanceAs (Decidable (VB ws need ∧ bs.length = ws.length ∧ ∀ b ∈ bs, 0 ≤ b ∧ b ≤ 3))
def tal : List Int → List Int → Int → Int
  | b :: bs, w :: ws, k => (if b = k then w else 0) + tal bs ws k
  | _, _, _ => 0
theorem tal_bound {k : Int} : ∀ {bs ws : List Int}, (∀ w ∈ ws, 0 ≤ w ∧ w ≤ 100) → 0 ≤ tal bs ws k ∧ tal bs ws k ≤ sumL ws := by
  intro bs
  induction bs with
  | nil =>
    intro ws h
    have := (sumL_bound (l := ws) (fun x hx => ⟨(h x hx).1, by have := (h x hx).2; omega⟩)).1
    simp [tal]; exact this
  | cons b bs ih =>
    intro ws h
    cases ws with
    | nil => simp [tal, sumL]
    | cons w ws =>
      have h1 := ih (ws := ws) (fun x hx => h x (List.mem_cons_of_mem _ hx))
      have h2 := h w (by simp)
      simp only [tal, sumL]
      split <;> omega
theorem tal_all : ∀ {bs ws : List Int}, bs.length = ws.length → (∀ b ∈ bs, 0 ≤ b ∧ b ≤ 3) → tal bs ws 0 + tal bs ws 1 + tal bs ws 2 + tal bs ws 3 = sumL ws := by
  intro bs
  induction bs with
  | nil =>
    intro ws h _
    cases ws with
    | nil => rfl
    | cons w ws => simp at h
  | cons b bs ih =>
    intro ws h hb
    cases ws with
    | nil => simp at h
    | cons w ws =>
      have h1 := ih (ws := ws) (by simpa using h) (fun x hx => hb x (List.mem_cons_of_mem _ hx))
      have h2 := hb b (by simp)
      simp only [tal, sumL]
      have h3 : b = 0 ∨ b = 1 ∨ b = 2 ∨ b = 3 := by omega
      rcases h3 with rfl | rfl | rfl | rfl <;> simp <;> omega
theorem VB.sum {ws : List Int} {need : Int} (h : VB ws need) : 0 ≤ sumL ws ∧ sumL ws ≤ 12000000 := by
  have h1 := sumL_bound (l := ws) (fun x hx => ⟨(h.2.1 x hx).1, by have := (h.2.1 x hx).2; omega⟩)
  have h2 := h.1.2
  omega
theorem allWithin_l0 {xs : List Int} {lo hi : Int} (hl : xs.length ≤ 1000000000000) : ∀ (r : List Int) (i : Nat), xs.drop i = r →
    Tot (fun k => impl_allWithin.l0 k lo hi xs xs.length i) (fun t => t = decide (∀ x ∈ r, lo ≤ x ∧ x ≤ hi)) := by
  intro r
  induction r with
  | nil =>
    intro i h
    have := drop_nil h
    exact Tot.step (fun _ => impl_allWithin.l0.eq_2 ..) (Tot.neg (by omega) (Tot.now (by simp)))
  | cons x r ih =>
    intro i h
    obtain ⟨h1, h2, h3⟩ := drop_cons h
    refine Tot.step (fun _ => impl_allWithin.l0.eq_2 ..) ?_
    rw [rd_at h3, w64s (by omega)]
    refine Tot.pos (by omega) (Tot.pos (by omega) (Tot.pos (by omega) (Tot.ite (fun h4 => Tot.now ?_) (fun h4 => Tot.ite (fun h5 => Tot.now ?_) (fun h5 => ?_)))))
    · symm
      rw [decide_eq_false_iff_not]
      exact fun h => by have := h x (by simp); omega
    · symm
      rw [decide_eq_false_iff_not]
      exact fun h => by have := h x (by simp); omega
    · refine (ih (i + 1) h2).mono ?_
      rintro t rfl
      rw [decide_eq_decide]
      simp only [List.mem_cons, forall_eq_or_imp]
      exact ⟨fun h => ⟨⟨by omega, by omega⟩, h⟩, fun h => h.2⟩
theorem allWithin_tot {xs : List Int} {lo hi : Int} (hl : xs.length ≤ 1000000000000) : Tot (fun k => impl_allWithin.f k xs lo hi) (fun t => t = decide (∀ x ∈ xs, lo ≤ x ∧ x ≤ hi)) := by
  unfold impl_allWithin.f
  exact allWithin_l0 hl xs 0 rfl
theorem implSum_l0 {xs : List Int} (hl : xs.length ≤ 1000000) (hx : ∀ x ∈ xs, 0 ≤ x ∧ x ≤ 1000000) : ∀ (r : List Int) (i : Nat) (acc : Int), xs.drop i = r → 0 ≤ acc → acc ≤ 1000000 * i →
    Tot (fun k => impl_sumOf.l0 k acc xs xs.length i) (fun t => t = acc + sumL r) := by
  intro r
  induction r with
  | nil =>
    intro i acc h _ _
    have := drop_nil h
    exact Tot.step (fun _ => impl_sumOf.l0.eq_2 ..) (Tot.neg (by omega) (Tot.now (by simp [sumL])))
  | cons x r ih =>
    intro i acc h ha ha2
    obtain ⟨h1, h2, h3⟩ := drop_cons h
    have h4 := hx x (List.mem_of_getElem? h3)
    refine Tot.step (fun _ => impl_sumOf.l0.eq_2 ..) ?_
    rw [rd_at h3, w64s (by omega), w64 (x := acc + x) (by omega) (by omega)]
    refine Tot.pos (by omega) (Tot.pos (by omega) (Tot.pos (by omega) ((ih (i + 1) (acc + x) h2 (by omega) (by omega)).mono ?_)))
    rintro t rfl
    rw [sumL]; omega
theorem implSum_tot {xs : List Int} (hl : xs.length ≤ 1000000) (hx : ∀ x ∈ xs, 0 ≤ x ∧ x ≤ 1000000) : Tot (fun k => impl_sumOf.f k xs) (fun t => t = sumL xs) := by
  unfold impl_sumOf.f
  refine (implSum_l0 hl hx xs 0 0 rfl (Int.le_refl _) (by omega)).mono ?_
  rintro t rfl
  omega
theorem implVB_tot {ws : List Int} {need : Int} (hl : ws.length ≤ 1000000000) : Tot (fun k => impl_ValidBody.f k ws need) (fun t => t = decide (VB ws need)) := by
  unfold impl_ValidBody.f
  refine Tot.ite (fun h => Tot.now (dfalse fun h2 => by have := h2.1; omega)) (fun h => Tot.ite (fun h1 => Tot.now (dfalse fun h2 => by have := h2.1; omega)) (fun h1 => ?_))
  refine Tot.bind (allWithin_tot (by omega)) ?_
  rintro _ rfl
  simp only [decide_eq_true_eq]
  refine Tot.ite (fun h2 => Tot.ite (fun h3 => ?_) (fun h3 => Tot.now (dfalse fun h4 => h3 h4.2.2.1))) (fun h2 => Tot.now (dfalse fun h4 => h2 h4.2.1))
  refine Tot.bind (implSum_tot (by omega) (fun x hx => ⟨(h2 x hx).1, by have := (h2 x hx).2; omega⟩)) ?_
  rintro _ rfl
  refine Tot.now ?_
  rw [decide_eq_decide]
  exact ⟨fun h4 => ⟨by omega, h2, h3, h4⟩, fun h4 => h4.2.2.2⟩
theorem implVBal_tot {ws bs : List Int} {need : Int} (hl : ws.length ≤ 1000000000) (hb : bs.length ≤ 1000000000) : Tot (fun k => impl_validBallots.f k ws need bs) (fun t => t = decide (VBal ws need bs)) := by
  unfold impl_validBallots.f
  refine Tot.bind (implVB_tot hl) ?_
  rintro _ rfl
  simp only [decide_eq_true_eq]
  refine Tot.ite (fun h => Tot.ite (fun h2 => ?_) (fun h2 => Tot.now (dfalse fun h3 => h2 (by have := h3.2.1; omega)))) (fun h => Tot.now (dfalse fun h3 => h h3.1))
  refine Tot.bind (allWithin_tot (by omega)) ?_
  rintro _ rfl
  refine Tot.now ?_
  rw [decide_eq_decide]
  exact ⟨fun h4 => ⟨h, by omega, h4⟩, fun h4 => h4.2.2⟩
theorem implTally_l0 {ws bs : List Int} {need kind : Int} (hws : ∀ w ∈ ws, 0 ≤ w ∧ w ≤ 100) (hlen : bs.length = ws.length) (hl : ws.length ≤ 12) : ∀ (r s : List Int) (i : Nat) (acc : Int), bs.drop i = r → ws.drop i = s → 0 ≤ acc → acc ≤ 100 * i →
    Tot (fun k => impl_TallyOf.l0 k kind acc bs bs.length i ws need) (fun t => t = acc + tal r s kind) := by
  intro r
  induction r with
  | nil =>
    intro s i acc h h2 _ _
    have := drop_nil h
    refine Tot.step (fun _ => impl_TallyOf.l0.eq_2 ..) (Tot.neg (by omega) (Tot.now ?_))
    simp [tal]
  | cons b r ih =>
    intro s i acc h h2 ha ha2
    obtain ⟨g1, g2, g3⟩ := drop_cons h
    cases s with
    | nil => have := drop_nil h2; omega
    | cons w s =>
      obtain ⟨f1, f2, f3⟩ := drop_cons h2
      have hw := hws w (List.mem_of_getElem? f3)
      refine Tot.step (fun _ => impl_TallyOf.l0.eq_2 ..) ?_
      rw [rd_at g3, rd_at f3, w64s (by omega), w64 (x := acc + w) (by omega) (by omega), tal]
      refine Tot.pos (by omega) (Tot.pos (by omega) (Tot.pos (by omega) (Tot.ite (fun e => Tot.pos (by omega) ?_) (fun e => ?_))))
      · rw [if_pos e]
        refine (ih s (i + 1) _ g2 f2 (by omega) (by omega)).mono ?_
        rintro t rfl
        omega
      · rw [if_neg e]
        refine (ih s (i + 1) _ g2 f2 (by omega) (by omega)).mono ?_
        rintro t rfl
        omega
theorem implTallyOf_tot {ws bs : List Int} {need kind : Int} (hl : ws.length ≤ 1000000000) (hb : bs.length ≤ 1000000000) : Tot (fun k => impl_TallyOf.f k ws need bs kind) (fun t => t = if VBal ws need bs ∧ 0 ≤ kind ∧ kind ≤ 3 then tal bs ws kind else -1) := by
  unfold impl_TallyOf.f
  refine Tot.bind (implVBal_tot hl hb) ?_
  rintro _ rfl
  simp only [decide_eq_true_eq]
  refine Tot.ite (fun h => Tot.ite (fun h2 => Tot.step (fun _ => impl_TallyOf.j0.eq_2 ..) (Tot.pos rfl ?_)) (fun h2 => Tot.step (fun _ => impl_TallyOf.j0.eq_2 ..) ?_)) (fun h => Tot.step (fun _ => impl_TallyOf.j0.eq_2 ..) (Tot.pos rfl ?_))
  · rw [if_neg (by omega)]; exact Tot.now rfl
  · by_cases h3 : kind > 3
    · rw [if_neg (by omega)]; exact Tot.pos (by simp [h3]) (Tot.now rfl)
    · rw [if_pos ⟨h, by omega, by omega⟩]
      refine Tot.neg (by simp; omega) ((implTally_l0 h.1.2.1 h.2.1 h.1.1.2 bs ws 0 0 rfl rfl (Int.le_refl _) (by omega)).mono ?_)
      rintro t rfl
      omega
  · rw [if_neg (fun h2 => h h2.1)]; exact Tot.now rfl
theorem inRange_eq (a b c : Int) : spec_inRange.f a b c = some (decide (b ≤ a ∧ a ≤ c)) := by
  unfold spec_inRange.f
  by_cases h : b ≤ a
  · rw [if_pos h]; simp [h]
  · rw [if_neg h]; simp [h]
theorem allIn_l0 {xs : List Int} {lo hi : Int} (hl : xs.length ≤ 1000000000000) : ∀ (r : List Int) (i : Nat), xs.drop i = r →
    Tot (fun k => spec_allIn.l0 k xs lo hi i) (fun t => t = decide (∀ x ∈ r, lo ≤ x ∧ x ≤ hi)) := by
  intro r
  induction r with
  | nil =>
    intro i h
    have := drop_nil h
    exact Tot.step (fun _ => spec_allIn.l0.eq_2 ..) (Tot.neg (by omega) (Tot.now (by simp)))
  | cons x r ih =>
    intro i h
    obtain ⟨h1, h2, h3⟩ := drop_cons h
    refine Tot.step (fun _ => spec_allIn.l0.eq_2 ..) ?_
    rw [rd_at h3, w64s (by omega), inRange_eq]
    simp only [Option.bind_some, decide_eq_true_eq]
    refine Tot.pos (by omega) (Tot.pos (by omega) (Tot.ite (fun h4 => ?_) (fun h4 => Tot.now ?_)))
    · refine (ih (i + 1) h2).mono ?_
      rintro t rfl
      rw [decide_eq_decide]
      simp only [List.mem_cons, forall_eq_or_imp]
      exact ⟨fun h => ⟨h4, h⟩, fun h => h.2⟩
    · symm
      rw [decide_eq_false_iff_not]
      exact fun h => h4 (h x (by simp))
theorem allIn_tot {xs : List Int} {lo hi : Int} (hl : xs.length ≤ 1000000000000) : Tot (fun k => spec_allIn.f k xs lo hi) (fun t => t = decide (∀ x ∈ xs, lo ≤ x ∧ x ≤ hi)) := by
  unfold spec_allIn.f
  exact allIn_l0 hl xs 0 rfl
theorem specVB_tot {ws : List Int} {need : Int} (hl : ws.length ≤ 1000000000) : Tot (fun k => spec_validBody.f k ws need) (fun t => t = decide (VB ws need)) := by
  unfold spec_validBody.f
  rw [inRange_eq]
  simp only [Option.bind_some, decide_eq_true_eq]
  refine Tot.ite (fun h => ?_) (fun h => Tot.now (dfalse fun h2 => by have := h2.1; omega))
  refine Tot.bind (allIn_tot (by omega)) ?_
  rintro _ rfl
  simp only [decide_eq_true_eq]
  refine Tot.ite (fun h2 => ?_) (fun h2 => Tot.now (dfalse fun h4 => h2 h4.2.1))
  refine Tot.bind (specTotal_tot (by omega) (fun x hx => ⟨(h2 x hx).1, by have := (h2 x hx).2; omega⟩)) ?_
  rintro _ rfl
  rw [inRange_eq]
  simp only [Option.bind_some]
  refine Tot.now ?_
  rw [decide_eq_decide]
  exact ⟨fun h4 => ⟨by omega, h2, h4.1, h4.2⟩, fun h4 => h4.2.2⟩
theorem specVBal_tot {ws bs : List Int} {need : Int} (hl : ws.length ≤ 1000000000) (hb : bs.length ≤ 1000000000) : Tot (fun k => spec_validBallots.f k ws need bs) (fun t => t = decide (VBal ws need bs)) := by
  unfold spec_validBallots.f
  refine Tot.bind (specVB_tot hl) ?_
  rintro _ rfl
  simp only [decide_eq_true_eq]
  refine Tot.ite (fun h => Tot.ite (fun h2 => ?_) (fun h2 => Tot.now (dfalse fun h3 => h2 (by have := h3.2.1; omega)))) (fun h => Tot.now (dfalse fun h3 => h h3.1))
  refine Tot.bind (allIn_tot (by omega)) ?_
  rintro _ rfl
  refine Tot.now ?_
  rw [decide_eq_decide]
  exact ⟨fun h4 => ⟨h, by omega, h4⟩, fun h4 => h4.2.2⟩
theorem specTally_l0 {ws bs : List Int} {need kind : Int} (hws : ∀ w ∈ ws, 0 ≤ w ∧ w ≤ 100) (hlen : bs.length = ws.length) (hl : ws.length ≤ 12) : ∀ (r s : List Int) (i : Nat) (acc : Int), bs.drop i = r → ws.drop i = s → 0 ≤ acc → acc ≤ 100 * i →
    Tot (fun k => spec_tally.l0 k bs kind acc i ws need) (fun t => t = acc + tal r s kind) := by
  intro r
  induction r with
  | nil =>
    intro s i acc h h2 _ _
    have := drop_nil h
    refine Tot.step (fun _ => spec_tally.l0.eq_2 ..) (Tot.neg (by omega) (Tot.now ?_))
    simp [tal]
  | cons b r ih =>
    intro s i acc h h2 ha ha2
    obtain ⟨g1, g2, g3⟩ := drop_cons h
    cases s with
    | nil => have := drop_nil h2; omega
    | cons w s =>
      obtain ⟨f1, f2, f3⟩ := drop_cons h2
      have hw := hws w (List.mem_of_getElem? f3)
      refine Tot.step (fun _ => spec_tally.l0.eq_2 ..) ?_
      rw [rd_at g3, rd_at f3, w64s (by omega), w64 (x := acc + w) (by omega) (by omega), tal]
      refine Tot.pos (by omega) (Tot.pos (by omega) (Tot.ite (fun e => Tot.pos (by omega) ?_) (fun e => ?_)))
      · rw [if_pos e]
        refine (ih s (i + 1) _ g2 f2 (by omega) (by omega)).mono ?_
        rintro t rfl
        omega
      · rw [if_neg e]
        refine (ih s (i + 1) _ g2 f2 (by omega) (by omega)).mono ?_
        rintro t rfl
        omega
theorem specTally_tot {ws bs : List Int} {need kind : Int} (h : VBal ws need bs) : Tot (fun k => spec_tally.f k ws need bs kind) (fun t => t = tal bs ws kind) := by
  unfold spec_tally.f
  refine (specTally_l0 h.1.2.1 h.2.1 h.1.1.2 bs ws 0 0 rfl rfl (Int.le_refl _) (by omega)).mono ?_
  rintro t rfl
  omega
theorem specTallyOf_tot {ws bs : List Int} {need kind : Int} (hl : ws.length ≤ 1000000000) (hb : bs.length ≤ 1000000000) : Tot (fun k => spec_TallyOf.f k ws need bs kind) (fun t => t = if VBal ws need bs ∧ 0 ≤ kind ∧ kind ≤ 3 then tal bs ws kind else -1) := by
  unfold spec_TallyOf.f
  refine Tot.bind (specVBal_tot hl hb) ?_
  rintro _ rfl
  rw [inRange_eq]
  simp only [Option.bind_some, decide_eq_true_eq]
  refine Tot.ite (fun h => Tot.ite (fun h2 => ?_) (fun h2 => ?_)) (fun h => ?_)
  · rw [if_pos ⟨h, h2⟩]
    refine Tot.bind (specTally_tot h) ?_
    rintro _ rfl
    exact Tot.now rfl
  · rw [if_neg (fun h3 => h2 h3.2)]; exact Tot.now rfl
  · rw [if_neg (fun h3 => h h3.1)]; exact Tot.now rfl
theorem lawsTotal_l0 {xs : List Int} (hl : xs.length ≤ 1000) (hx : ∀ x ∈ xs, -1000000000 ≤ x ∧ x ≤ 1000000000) : ∀ (r : List Int) (i : Nat) (acc : Int), xs.drop i = r → -1000000000 * i ≤ acc → acc ≤ 1000000000 * i →
    Tot (fun k => laws_total.l0 k xs acc i) (fun t => t = acc + sumL r) := by
  intro r
  induction r with
  | nil =>
    intro i acc h _ _
    have := drop_nil h
    exact Tot.step (fun _ => laws_total.l0.eq_2 ..) (Tot.neg (by omega) (Tot.now (by simp [sumL])))
  | cons x r ih =>
    intro i acc h ha ha2
    obtain ⟨h1, h2, h3⟩ := drop_cons h
    have h4 := hx x (List.mem_of_getElem? h3)
    refine Tot.step (fun _ => laws_total.l0.eq_2 ..) ?_
    rw [rd_at h3, w64s (by omega), w64 (x := acc + x) (by omega) (by omega)]
    refine Tot.pos (by omega) (Tot.pos (by omega) ((ih (i + 1) (acc + x) h2 (by omega) (by omega)).mono ?_))
    rintro t rfl
    rw [sumL]; omega
theorem lawsTotal_tot {xs : List Int} (hl : xs.length ≤ 1000) (hx : ∀ x ∈ xs, -1000000000 ≤ x ∧ x ≤ 1000000000) : Tot (fun k => laws_total.f k xs) (fun t => t = sumL xs) := by
  unfold laws_total.f
  refine (lawsTotal_l0 hl hx xs 0 0 rfl (by omega) (by omega)).mono ?_
  rintro t rfl
  omega
theorem drawTally_tot {l : List Int} (hw : ∀ x ∈ l, (Lit.int .u8 x).wf = true) : Tot (fun k => spec_DrawTallyOf.f k l) (fun r => r.1.length ≤ 9 ∧ r.2.2.1.length ≤ 9) := by
  unfold spec_DrawTallyOf.f
  obtain ⟨b, hb, hb2, hb3⟩ := newReader_tot hw
  rw [hb]
  refine Tot.known (Tot.bind (anyBody_tot hb3 (Int.le_refl _) (by omega)) ?_)
  rintro ⟨ws, nd, q⟩ ⟨h1, h2, h3⟩
  dsimp only at h1 h2 h3 ⊢
  refine Tot.bind (someBallots_tot hb3 (by omega) (by omega) (by omega)) ?_
  rintro ⟨bs, q2⟩ ⟨g1, g2, g3⟩
  dsimp only at g1 g2 g3 ⊢
  refine Tot.bind (one_tot hb3 (by omega) (by omega) (by simp) (by simp)) ?_
  rintro ⟨v, q3⟩ _
  exact Tot.now ⟨by dsimp only; omega, by dsimp only; omega⟩
theorem tal_four : ∀ {bs ws : List Int}, bs.length = ws.length → (∀ b ∈ bs, 0 ≤ b ∧ b ≤ 3) → tal bs ws 0 + tal bs ws 1 + tal bs ws 2 + tal bs ws 3 = sumL ws := by
  intro bs
  induction bs with
  | nil =>
    intro ws h _
    have e : ws = [] := List.length_eq_zero_iff.1 h.symm
    rw [e]; simp [tal, sumL]
  | cons b bs ih =>
    intro ws h hb
    cases ws with
    | nil => simp at h
    | cons w ws =>
      have h1 := ih (ws := ws) (by simpa using h) (fun x hx => hb x (List.mem_cons_of_mem _ hx))
      have h2 := hb b (by simp)
      simp only [tal, sumL]
      rcases (show b = 0 ∨ b = 1 ∨ b = 2 ∨ b = 3 by omega) with rfl | rfl | rfl | rfl <;> simp <;> omega
theorem FnTallyOf : laws_FnTallyOf.Pure := by
  intro l hl hl2 hw
  refine Tot.ends (g := fun k => laws_FnTallyOf.f k l) ?_
  unfold laws_FnTallyOf.f
  refine Tot.ite (fun _ => Tot.now rfl) (fun _ => ?_)
  refine Tot.bind (drawTally_tot hw) ?_
  rintro ⟨ws, nd, bs, kind⟩ ⟨h1, h2⟩
  dsimp only at h1 h2 ⊢
  refine Tot.bindv (implTallyOf_tot (by omega) (by omega)) (Tot.bindv (specTallyOf_tot (by omega) (by omega)) (Tot.pos rfl ?_))
  refine Tot.step (fun _ => laws_FnTallyOf.j0.eq_2 ..) (Tot.ite (fun h => ?_) (fun h => ?_))
  · refine Tot.bindv (specTallyOf_tot (by omega) (by omega)) (Tot.now (by simp))
  · by_cases h3 : VBal ws nd bs ∧ 0 ≤ kind ∧ kind ≤ 3
    · rw [if_pos h3]
      have hv := h3.1
      have hws := hv.1.2.1
      have hsum := sumL_bound (l := ws) (fun x hx => ⟨(hws x hx).1, by have := (hws x hx).2; omega⟩)
      have b0 := tal_bound (k := 0) (bs := bs) hws
      have b1 := tal_bound (k := 1) (bs := bs) hws
      have b2 := tal_bound (k := 2) (bs := bs) hws
      have b3 := tal_bound (k := 3) (bs := bs) hws
      have ha := tal_four hv.2.1 hv.2.2
      have ev : ∀ j : Int, 0 ≤ j → j ≤ 3 → (if VBal ws nd bs ∧ 0 ≤ j ∧ j ≤ 3 then tal bs ws j else -1) = tal bs ws j := fun j h5 h6 => if_pos ⟨hv, h5, h6⟩
      refine Tot.step (fun _ => laws_FnTallyOf.l0.eq_2 ..) (Tot.pos (by omega) (Tot.bindv (implTallyOf_tot (by omega) (by omega)) ?_))
      rw [ev 0 (by omega) (by omega), w64 (x := 0 + tal bs ws 0) (by omega) (by omega), w64 (x := 0 + 1) (by omega) (by omega)]
      refine Tot.step (fun _ => laws_FnTallyOf.l0.eq_2 ..) (Tot.pos (by omega) (Tot.bindv (implTallyOf_tot (by omega) (by omega)) ?_))
      rw [ev (0 + 1) (by omega) (by omega), w64 (x := 0 + tal bs ws 0 + tal bs ws (0 + 1)) (by simp only [Int.zero_add]; omega) (by simp only [Int.zero_add]; omega), w64 (x := 0 + 1 + 1) (by omega) (by omega)]
      refine Tot.step (fun _ => laws_FnTallyOf.l0.eq_2 ..) (Tot.pos (by omega) (Tot.bindv (implTallyOf_tot (by omega) (by omega)) ?_))
      rw [ev (0 + 1 + 1) (by omega) (by omega)]
      simp only [Int.zero_add, show (1 : Int) + 1 = 2 from rfl]
      rw [w64 (x := tal bs ws 0 + tal bs ws 1 + tal bs ws 2) (by omega) (by omega), w64 (x := (2 : Int) + 1) (by omega) (by omega)]
      refine Tot.step (fun _ => laws_FnTallyOf.l0.eq_2 ..) (Tot.pos (by omega) (Tot.bindv (implTallyOf_tot (by omega) (by omega)) ?_))
      rw [ev (2 + 1) (by omega) (by omega)]
      simp only [show (2 : Int) + 1 = 3 from rfl]
      rw [w64 (x := tal bs ws 0 + tal bs ws 1 + tal bs ws 2 + tal bs ws 3) (by omega) (by omega), w64 (x := (3 : Int) + 1) (by omega) (by omega)]
      refine Tot.step (fun _ => laws_FnTallyOf.l0.eq_2 ..) (Tot.neg (by omega) ?_)
      refine Tot.bindv (lawsTotal_tot (by omega) (fun x hx => ⟨by have := (hws x hx).1; omega, by have := (hws x hx).2; omega⟩)) (Tot.pos ha (Tot.now ?_))
      rw [ha]
      have bk := tal_bound (k := kind) (bs := bs) hws
      exact decide_eq_true bk.2
    · rw [if_neg h3] at h
      exact absurd (by decide) h
end Go.Proofs.Ytlghjnmfccifeaa.Pure
