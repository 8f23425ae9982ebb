/- FnDualBody: for every code, the dual of the dual is the body, and both needs are 1 more than all votes. No condition beyond the statement's own. -/
import Derived.Test.YtlghjnmfccifeaaQFnDualBodyx6
import Derived.Test.YtlghjnmfccifeaaCore
namespace Go.Proofs.Ytlghjnmfccifeaa.Pure
open Go.RowKit Go.Proofs.Ytlghjnmfccifeaa.PFnDualBody Go.Proofs.YtlghjnmfccifeaaW.PrintWords
set_option linter.unusedSimpArgs false
set_option linter.unusedVariables false

def sumL : List Int → Int
  | [] => 0
  | x :: r => x + sumL r
theorem sumL_bound {l : List Int} (h : ∀ x ∈ l, 0 ≤ x ∧ x ≤ 1000000) : 0 ≤ sumL l ∧ sumL l ≤ 1000000 * l.length := by
  induction l with
  | nil => simp [sumL]
  | cons x r ih =>
    have h1 := ih (fun y hy => h y (List.mem_cons_of_mem _ hy))
    have h2 := h x (by simp)
    simp only [sumL, List.length_cons]
    omega
/-- A valid body. -/
def VB (ws : List Int) (need : Int) : Prop := (1 ≤ ws.length ∧ ws.length ≤ 12) ∧ (∀ w ∈ ws, 0 ≤ w ∧ w ≤ 100) ∧ 1 ≤ need ∧ need ≤ sumL ws
instance (ws : List Int) (need : Int) : Decidable (VB ws need) := inferInstanceAs (Decidable ((1 ≤ ws.length ∧ ws.length ≤ 12) ∧ (∀ w ∈ ws, 0 ≤ w ∧ w ≤ 100) ∧ 1 ≤ need ∧ need ≤ sumL ws))
theorem dfalse {p : Prop} {i : Decidable p} (h : ¬ p) : false = @decide p i := by
  symm; rw [decide_eq_false_iff_not]; exact h
theorem dtrue {p : Prop} {i : Decidable p} (h : p) : true = @decide p i := by
  symm; rw [decide_eq_true_iff]; exact h
theorem allWithin_l0 {xs : List Int} {lo hi : Int} (hl : xs.length ≤ 1000000000000) : ∀ (r : List Int) (i : Nat), xs.drop i = r →
    Tot (fun k => impl_allWithin.l0 k lo hi xs xs.length i) (fun t => t = decide (∀ x ∈ r, lo ≤ x ∧ x ≤ hi)) := by
  intro r
  induction r with
  | nil =>
    intro i h
    have := drop_nil h
    exact Tot.step (fun _ => impl_allWithin.l0.eq_2 ..) (Tot.neg (by omega) (Tot.now (by simp)))
  | cons x r ih =>
    intro i h
    obtain ⟨h1, h2, h3⟩ := drop_cons h
    refine Tot.step (fun _ => impl_allWithin.l0.eq_2 ..) ?_
    rw [rd_at h3, w64s (by omega)]
    refine Tot.pos (by omega) (Tot.pos (by omega) (Tot.pos (by omega) (Tot.ite (fun h4 => Tot.now ?_) (fun h4 => Tot.ite (fun h5 => Tot.now ?_) (fun h5 => ?_)))))
    · symm
      rw [decide_eq_false_iff_not]
      exact fun h => by have := h x (by simp); omega
    · symm
      rw [decide_eq_false_iff_not]
      exact fun h => by have := h x (by simp); omega
    · refine (ih (i + 1) h2).mono ?_
      rintro t rfl
      rw [decide_eq_decide]
      simp only [List.mem_cons, forall_eq_or_imp]
      exact ⟨fun h => ⟨⟨by omega, by omega⟩, h⟩, fun h => h.2⟩
theorem allWithin_tot {xs : List Int} {lo hi : Int} (hl : xs.length ≤ 1000000000000) : Tot (fun k => impl_allWithin.f k xs lo hi) (fun t => t = decide (∀ x ∈ xs, lo ≤ x ∧ x ≤ hi)) := by
  unfold impl_allWithin.f
  exact allWithin_l0 hl xs 0 rfl
theorem implSum_l0 {xs : List Int} (hl : xs.length ≤ 1000000) (hx : ∀ x ∈ xs, 0 ≤ x ∧ x ≤ 1000000) : ∀ (r : List Int) (i : Nat) (acc : Int), xs.drop i = r → 0 ≤ acc → acc ≤ 1000000 * i →
    Tot (fun k => impl_sumOf.l0 k acc xs xs.length i) (fun t => t = acc + sumL r) := by
  intro r
  induction r with
  | nil =>
    intro i acc h _ _
    have := drop_nil h
    exact Tot.step (fun _ => impl_sumOf.l0.eq_2 ..) (Tot.neg (by omega) (Tot.now (by simp [sumL])))
  | cons x r ih =>
    intro i acc h ha ha2
    obtain ⟨h1, h2, h3⟩ := drop_cons h
    have h4 := hx x (List.mem_of_getElem? h3)
    refine Tot.step (fun _ => impl_sumOf.l0.eq_2 ..) ?_
    rw [rd_at h3, w64s (by omega), w64 (x := acc + x) (by omega) (by omega)]
    refine Tot.pos (by omega) (Tot.pos (by omega) (Tot.pos (by omega) ((ih (i + 1) (acc + x) h2 (by omega) (by omega)).mono ?_)))
    rintro t rfl
    rw [sumL]; omega
theorem implSum_tot {xs : List Int} (hl : xs.length ≤ 1000000) (hx : ∀ x ∈ xs, 0 ≤ x ∧ x ≤ 1000000) : Tot (fun k => impl_sumOf.f k xs) (fun t => t = sumL xs) := by
  unfold impl_sumOf.f
  refine (implSum_l0 hl hx xs 0 0 rfl (Int.le_refl _) (by omega)).mono ?_
  rintro t rfl
  omega
theorem implVB_tot {ws : List Int} {need : Int} (hl : ws.length ≤ 1000000000) : Tot (fun k => impl_ValidBody.f k ws need) (fun t => t = decide (VB ws need)) := by
  unfold impl_ValidBody.f
  refine Tot.ite (fun h => Tot.now (dfalse fun h2 => by have := h2.1; omega)) (fun h => Tot.ite (fun h1 => Tot.now (dfalse fun h2 => by have := h2.1; omega)) (fun h1 => ?_))
  refine Tot.bind (allWithin_tot (by omega)) ?_
  rintro _ rfl
  simp only [decide_eq_true_eq]
  refine Tot.ite (fun h2 => Tot.ite (fun h3 => ?_) (fun h3 => Tot.now (dfalse fun h4 => h3 h4.2.2.1))) (fun h2 => Tot.now (dfalse fun h4 => h2 h4.2.1))
  refine Tot.bind (implSum_tot (by omega) (fun x hx => ⟨(h2 x hx).1, by have := (h2 x hx).2; omega⟩)) ?_
  rintro _ rfl
  refine Tot.now ?_
  rw [decide_eq_decide]
  exact ⟨fun h4 => ⟨by omega, h2, h3, h4⟩, fun h4 => h4.2.2.2⟩
theorem inRange_eq (a b c : Int) : spec_inRange.f a b c = some (decide (b ≤ a ∧ a ≤ c)) := by
  unfold spec_inRange.f
  by_cases h : b ≤ a
  · rw [if_pos h]; simp [h]
  · rw [if_neg h]; simp [h]
theorem allIn_l0 {xs : List Int} {lo hi : Int} (hl : xs.length ≤ 1000000000000) : ∀ (r : List Int) (i : Nat), xs.drop i = r →
    Tot (fun k => spec_allIn.l0 k xs lo hi i) (fun t => t = decide (∀ x ∈ r, lo ≤ x ∧ x ≤ hi)) := by
  intro r
  induction r with
  | nil =>
    intro i h
    have := drop_nil h
    exact Tot.step (fun _ => spec_allIn.l0.eq_2 ..) (Tot.neg (by omega) (Tot.now (by simp)))
  | cons x r ih =>
    intro i h
    obtain ⟨h1, h2, h3⟩ := drop_cons h
    refine Tot.step (fun _ => spec_allIn.l0.eq_2 ..) ?_
    rw [rd_at h3, w64s (by omega), inRange_eq]
    simp only [Option.bind_some, decide_eq_true_eq]
    refine Tot.pos (by omega) (Tot.pos (by omega) (Tot.ite (fun h4 => ?_) (fun h4 => Tot.now ?_)))
    · refine (ih (i + 1) h2).mono ?_
      rintro t rfl
      rw [decide_eq_decide]
      simp only [List.mem_cons, forall_eq_or_imp]
      exact ⟨fun h => ⟨h4, h⟩, fun h => h.2⟩
    · symm
      rw [decide_eq_false_iff_not]
      exact fun h => h4 (h x (by simp))
theorem allIn_tot {xs : List Int} {lo hi : Int} (hl : xs.length ≤ 1000000000000) : Tot (fun k => spec_allIn.f k xs lo hi) (fun t => t = decide (∀ x ∈ xs, lo ≤ x ∧ x ≤ hi)) := by
  unfold spec_allIn.f
  exact allIn_l0 hl xs 0 rfl
theorem specTotal_l0 {xs : List Int} (hl : xs.length ≤ 1000000) (hx : ∀ x ∈ xs, 0 ≤ x ∧ x ≤ 1000000) : ∀ (r : List Int) (i : Nat) (acc : Int), xs.drop i = r → 0 ≤ acc → acc ≤ 1000000 * i →
    Tot (fun k => spec_total.l0 k xs acc i) (fun t => t = acc + sumL r) := by
  intro r
  induction r with
  | nil =>
    intro i acc h _ _
    have := drop_nil h
    exact Tot.step (fun _ => spec_total.l0.eq_2 ..) (Tot.neg (by omega) (Tot.now (by simp [sumL])))
  | cons x r ih =>
    intro i acc h ha ha2
    obtain ⟨h1, h2, h3⟩ := drop_cons h
    have h4 := hx x (List.mem_of_getElem? h3)
    refine Tot.step (fun _ => spec_total.l0.eq_2 ..) ?_
    rw [rd_at h3, w64s (by omega), w64 (x := acc + x) (by omega) (by omega)]
    refine Tot.pos (by omega) (Tot.pos (by omega) ((ih (i + 1) (acc + x) h2 (by omega) (by omega)).mono ?_))
    rintro t rfl
    rw [sumL]; omega
theorem specTotal_tot {xs : List Int} (hl : xs.length ≤ 1000000) (hx : ∀ x ∈ xs, 0 ≤ x ∧ x ≤ 1000000) : Tot (fun k => spec_total.f k xs) (fun t => t = sumL xs) := by
  unfold spec_total.f
  refine (specTotal_l0 hl hx xs 0 0 rfl (Int.le_refl _) (by omega)).mono ?_
  rintro t rfl
  omega
theorem specVB_tot {ws : List Int} {need : Int} (hl : ws.length ≤ 1000000000) : Tot (fun k => spec_validBody.f k ws need) (fun t => t = decide (VB ws need)) := by
  unfold spec_validBody.f
  rw [inRange_eq]
  simp only [Option.bind_some, decide_eq_true_eq]
  refine Tot.ite (fun h => ?_) (fun h => Tot.now (dfalse fun h2 => by have := h2.1; omega))
  refine Tot.bind (allIn_tot (by omega)) ?_
  rintro _ rfl
  simp only [decide_eq_true_eq]
  refine Tot.ite (fun h2 => ?_) (fun h2 => Tot.now (dfalse fun h4 => h2 h4.2.1))
  refine Tot.bind (specTotal_tot (by omega) (fun x hx => ⟨(h2 x hx).1, by have := (h2 x hx).2; omega⟩)) ?_
  rintro _ rfl
  rw [inRange_eq]
  simp only [Option.bind_some]
  refine Tot.now ?_
  rw [decide_eq_decide]
  exact ⟨fun h4 => ⟨by omega, h2, h4.1, h4.2⟩, fun h4 => h4.2.2⟩
theorem copyInts_eq {l : List Int} (h : l.length < 17592186044416) : spec_copyInts.f l = some l := by
  simp [spec_copyInts.f, h]
theorem Tot.bindv {α β : Type} {g : Nat → Option α} {F : Nat → α → Option β} {v : α} {Q : β → Prop} (h : Tot g (fun t => t = v)) (h2 : Tot (fun k => F k v) Q) : Tot (fun k => (g k).bind (F k)) Q :=
  Tot.bind h (fun a ha => by rw [ha]; exact h2)
theorem clone_eq {l : List Int} (h : l.length < 17592186044416) : slices_Clone_int_int.f l = some l := by
  simp [slices_Clone_int_int.f, h]
/-- The dual body. -/
def dual (ws : List Int) (need : Int) : List Int × Int := if VB ws need then (ws, sumL ws - need + 1) else ([], 0)
theorem implDual_tot {ws : List Int} {need : Int} (hl : ws.length ≤ 1000000000) : Tot (fun k => impl_DualBody.f k ws need) (fun t => t = dual ws need) := by
  unfold impl_DualBody.f dual
  refine Tot.bindv (implVB_tot hl) (Tot.ite (fun h => ?_) (fun h => Tot.now (by rw [if_neg (fun h2 => h (decide_eq_true h2))])))
  have h := of_decide_eq_true h
  have hw := h.2.1
  have hb := sumL_bound (l := ws) (fun x hx => ⟨(hw x hx).1, by have := (hw x hx).2; omega⟩)
  have hlen := h.1.2
  have hn := h.2.2
  rw [if_pos h, clone_eq (by omega)]
  refine Tot.known (Tot.bindv (implSum_tot (by omega) (fun x hx => ⟨(hw x hx).1, by have := (hw x hx).2; omega⟩)) (Tot.now ?_))
  rw [w64 (x := sumL ws - need) (by omega) (by omega), w64 (x := sumL ws - need + 1) (by omega) (by omega)]
theorem specDual_tot {ws : List Int} {need : Int} (hl : ws.length ≤ 1000000000) : Tot (fun k => spec_DualBody.f k ws need) (fun t => t = dual ws need) := by
  unfold spec_DualBody.f dual
  refine Tot.bindv (specVB_tot hl) (Tot.ite (fun h => ?_) (fun h => Tot.now (by rw [if_neg (fun h2 => h (decide_eq_true h2))])))
  have h := of_decide_eq_true h
  have hw := h.2.1
  have hb := sumL_bound (l := ws) (fun x hx => ⟨(hw x hx).1, by have := (hw x hx).2; omega⟩)
  have hlen := h.1.2
  have hn := h.2.2
  rw [if_pos h, copyInts_eq (by omega)]
  refine Tot.known (Tot.bindv (specTotal_tot (by omega) (fun x hx => ⟨(hw x hx).1, by have := (hw x hx).2; omega⟩)) (Tot.now ?_))
  rw [w64 (x := sumL ws - need) (by omega) (by omega), w64 (x := sumL ws - need + 1) (by omega) (by omega)]
/-! the reader -/
theorem pick_tot {b : List Int} (hb : ∀ x ∈ b, 0 ≤ x ∧ x < 256) {p n : Int} (hp : 0 ≤ p) (hp2 : p ≤ 1000000000) (hn : n ≤ 1000000000000) :
    Tot (fun k => spec_reader_pick.f k b p n) (fun r => r.2 = p + 1 ∧ 0 ≤ r.1 ∧ (r.1 < n ∨ r.1 = 0)) := by
  have e1 : wrap64 (p + 1) = p + 1 := w64 (by omega) (by omega)
  have e2 : wrap64 (p + 1 - 1) = p := by rw [w64 (by omega) (by omega)]; omega
  have main : ∀ t : Bool, (t = false → 1 ≤ n ∧ b.length ≠ 0) → Tot (fun k => spec_reader_pick.j0 k n t b (p + 1)) (fun r => r.2 = p + 1 ∧ 0 ≤ r.1 ∧ (r.1 < n ∨ r.1 = 0)) := by
    intro t ht
    refine Tot.step (fun _ => spec_reader_pick.j0.eq_2 ..) ?_
    simp only [e2]
    cases t with
    | true => exact Tot.pos rfl (Tot.now ⟨rfl, Int.le_refl _, .inr rfl⟩)
    | false =>
      obtain ⟨hn1, hne⟩ := ht rfl
      refine Tot.neg (by simp) ?_
      by_cases hlt : p < (b.length : Int)
      · refine Tot.pos hlt (Tot.pos hp (Tot.neg (by omega) ?_))
        have hr := hb _ (rd_mem hp hlt)
        rw [w64 (x := rd b p) (by omega) (by omega), tmod_nn hr.1]
        exact Tot.now ⟨rfl, Int.emod_nonneg _ (by omega), .inl (Int.emod_lt_of_pos _ (by omega))⟩
      · refine Tot.neg hlt (Tot.neg (by omega) ?_)
        have hlen : 0 < (b.length : Int) := by omega
        have i1 : 0 ≤ Int.tmod p b.length ∧ Int.tmod p b.length < b.length := by
          rw [tmod_nn hp]; exact ⟨Int.emod_nonneg _ (by omega), Int.emod_lt_of_pos _ hlen⟩
        have e3 : wrap64 (wrap64 (p * 7) + 3) = p * 7 + 3 := by
          rw [w64 (x := p * 7) (by omega) (by omega)]; exact w64 (by omega) (by omega)
        rw [e3]
        have i2 : 0 ≤ Int.tmod (p * 7 + 3) b.length ∧ Int.tmod (p * 7 + 3) b.length < b.length := by
          rw [tmod_nn (by omega)]; exact ⟨Int.emod_nonneg _ (by omega), Int.emod_lt_of_pos _ hlen⟩
        refine Tot.pos i1.1 (Tot.pos i1.2 (Tot.pos i2.1 (Tot.pos i2.2 (Tot.neg (by omega) ?_))))
        have hu := hb _ (rd_mem i1.1 i1.2)
        have hv := hb _ (rd_mem i2.1 i2.2)
        have hq : 0 ≤ Int.tdiv p b.length ∧ Int.tdiv p b.length ≤ p := by
          rw [tdiv_nn hp]
          exact ⟨Int.ediv_nonneg hp (by omega), Int.ediv_le_self _ hp⟩
        generalize rd b (Int.tmod p b.length) = u at hu ⊢
        generalize rd b (Int.tmod (p * 7 + 3) b.length) = v at hv ⊢
        generalize Int.tdiv p b.length = q at hq ⊢
        rw [w64 (x := u) (by omega) (by omega), w64 (x := v) (by omega) (by omega), w64 (x := q) (by omega) (by omega), w64 (x := u * 131) (by omega) (by omega), w64 (x := v * 1117) (by omega) (by omega), w64 (x := p * 29) (by omega) (by omega), w64 (x := q * 53) (by omega) (by omega),
          w64 (x := u * 131 + v * 1117) (by omega) (by omega), w64 (x := u * 131 + v * 1117 + p * 29) (by omega) (by omega), w64 (x := u * 131 + v * 1117 + p * 29 + q * 53) (by omega) (by omega)]
        have hx : 0 ≤ u * 131 + v * 1117 + p * 29 + q * 53 ∧ u * 131 + v * 1117 + p * 29 + q * 53 < 4611686018427387904 := by omega
        generalize u * 131 + v * 1117 + p * 29 + q * 53 = x at hx ⊢
        rw [tdiv_nn hx.1, w64 (x := x / 64) (by omega) (by omega)]
        have hz := xor_nn hx.1 hx.2 (b := x / 64) (by omega) (by omega)
        rw [tmod_nn hz]
        exact Tot.now ⟨rfl, Int.emod_nonneg _ (by omega), .inl (Int.emod_lt_of_pos _ (by omega))⟩
  unfold spec_reader_pick.f
  rw [e1]
  refine Tot.ite (fun _ => main true (fun h => by cases h)) (fun h => main _ (fun h2 => ⟨by omega, fun h3 => ?_⟩))
  rw [h3] at h2
  simp at h2
theorem one_tot {b : List Int} (hb : ∀ x ∈ b, 0 ≤ x ∧ x < 256) {p : Int} (hp : 0 ≤ p) (hp2 : p ≤ 1000000000) {l : List Int} (hl : 0 < l.length) (hl2 : l.length ≤ 1000) :
    Tot (fun k => spec_reader_one.f k b p l) (fun r => r.2 = p + 1 ∧ r.1 ∈ l) := by
  unfold spec_reader_one.f
  refine Tot.bind (pick_tot hb hp hp2 (by omega)) ?_
  rintro ⟨v, q⟩ ⟨h1, h2, h3⟩
  simp only at h1 h2 h3 ⊢
  have h4 : v < (l.length : Int) := by omega
  exact Tot.pos h2 (Tot.pos h4 (Tot.now ⟨h1, rd_mem h2 h4⟩))
theorem newReader_tot {l : List Int} (h : ∀ x ∈ l, (Lit.int .u8 x).wf = true) : ∃ b, spec_newReader.f l = some (b, 0) ∧ b.length ≤ 2000 ∧ ∀ x ∈ b, 0 ≤ x ∧ x < 256 := by
  unfold spec_newReader.f
  by_cases h1 : (l.length : Int) > 2000
  · rw [if_pos h1, if_pos (by omega)]
    exact ⟨_, rfl, by simp; omega, fun x hx => wf_u8 (h x (List.mem_of_mem_take hx))⟩
  · rw [if_neg h1]
    exact ⟨_, rfl, by omega, fun x hx => wf_u8 (h x hx)⟩
theorem someBody_l0 {b : List Int} (hb : ∀ x ∈ b, 0 ≤ x ∧ x < 256) : ∀ (d : Nat) (p : Int) (ws : List Int) (nd : Int), 0 ≤ p → p + 2 * d ≤ 100000 → ws.length + d ≤ 1000 → (∀ x ∈ ws, 0 ≤ x ∧ x ≤ 100) →
    Tot (fun k => spec_someBody.l0 k d b p ws nd) (fun r => (r.1.length = ws.length + d ∧ ∀ x ∈ r.1, 0 ≤ x ∧ x ≤ 100) ∧ p ≤ r.2.2 ∧ r.2.2 ≤ p + 2 * d + 2) := by
  intro d
  induction d with
  | zero =>
    intro p ws nd hp hp2 hl hw
    have hs := sumL_bound (l := ws) (fun x hx => ⟨(hw x hx).1, by have := (hw x hx).2; omega⟩)
    refine Tot.step (fun _ => spec_someBody.l0.eq_2 ..) (Tot.neg (by omega) ?_)
    refine Tot.bindv (specTotal_tot (by omega) (fun x hx => ⟨(hw x hx).1, by have := (hw x hx).2; omega⟩)) ?_
    rw [w64 (x := sumL ws + 1) (by omega) (by omega)]
    refine Tot.bind (pick_tot hb hp (by omega) (by omega)) ?_
    rintro ⟨v, q⟩ ⟨h1, h2, h3⟩
    dsimp only at h1 h2 h3 ⊢
    refine Tot.bind (one_tot hb (by omega) (by omega) (by simp) (by simp)) ?_
    rintro ⟨v2, q2⟩ ⟨h4, _⟩
    dsimp only at h4
    exact Tot.now ⟨⟨by simp, hw⟩, by dsimp only; omega, by dsimp only; omega⟩
  | succ d ih =>
    intro p ws nd hp hp2 hl hw
    refine Tot.step (fun _ => spec_someBody.l0.eq_2 ..) (Tot.pos (by omega) ?_)
    have e : wrap64 (((d + 1 : Nat) : Int) - 1) = (d : Int) := by rw [w64 (by omega) (by omega)]; omega
    rw [e]
    refine Tot.bind (pick_tot hb hp (by omega) (by omega)) ?_
    rintro ⟨v, q⟩ ⟨h1, h2, h3⟩
    dsimp only at h1 h2 h3 ⊢
    rw [w64 (x := 1 + v) (by omega) (by omega)]
    refine Tot.bind (one_tot hb (by omega) (by omega) (by simp) (by simp)) ?_
    rintro ⟨v2, q2⟩ ⟨h4, h5⟩
    simp only [List.mem_cons, List.not_mem_nil, or_false] at h4 h5 ⊢
    refine Tot.pos (by omega) ((ih q2 (ws ++ [v2]) nd (by omega) (by omega) (by simp; omega) (fun x hx => ?_)).mono ?_)
    · rcases List.mem_append.1 hx with hx | hx
      · exact hw x hx
      · rw [List.mem_singleton.1 hx]; omega
    · rintro r ⟨⟨g1, g2⟩, g3, g4⟩
      exact ⟨⟨by rw [g1]; simp; omega, g2⟩, by omega, by omega⟩
theorem someBody_tot {b : List Int} (hb : ∀ x ∈ b, 0 ≤ x ∧ x < 256) {p : Int} (hp : 0 ≤ p) (hp2 : p ≤ 10000) :
    Tot (fun k => spec_someBody.f k b p) (fun r => ((1 ≤ r.1.length ∧ r.1.length ≤ 8) ∧ ∀ x ∈ r.1, 0 ≤ x ∧ x ≤ 100) ∧ p ≤ r.2.2 ∧ r.2.2 ≤ p + 30) := by
  unfold spec_someBody.f
  refine Tot.bind (one_tot hb hp (by omega) (by simp) (by simp)) ?_
  rintro ⟨n, q⟩ ⟨h1, h2⟩
  simp only [List.mem_cons, List.not_mem_nil, or_false] at h1 h2 ⊢
  obtain ⟨m, rfl⟩ := Int.eq_ofNat_of_zero_le (show 0 ≤ n by omega)
  refine (someBody_l0 hb m q [] 0 (by omega) (by omega) (by simp; omega) (fun x hx => by simp at hx)).mono ?_
  rintro r ⟨⟨g1, g2⟩, g3, g4⟩
  simp only [List.length_nil] at g1
  exact ⟨⟨by omega, g2⟩, by omega, by omega⟩
theorem anyBody_l0 {b : List Int} {q : Int} : ∀ (d : Nat) (ws : List Int) (nd : Int), ws.length + d = 9 →
    Tot (fun k => spec_anyBody.l0 k b q ws nd) (fun r => r.1.length = 9 ∧ r.2.2 = q) := by
  intro d
  induction d with
  | zero =>
    intro ws nd h
    exact Tot.step (fun _ => spec_anyBody.l0.eq_2 ..) (Tot.neg (by omega) (Tot.now ⟨by dsimp only; omega, rfl⟩))
  | succ d ih =>
    intro ws nd h
    exact Tot.step (fun _ => spec_anyBody.l0.eq_2 ..) (Tot.pos (by omega) (Tot.pos (by omega) (ih _ nd (by simp; omega))))
theorem anyBody_tot {b : List Int} (hb : ∀ x ∈ b, 0 ≤ x ∧ x < 256) {p : Int} (hp : 0 ≤ p) (hp2 : p ≤ 10000) :
    Tot (fun k => spec_anyBody.f k b p) (fun r => r.1.length ≤ 9 ∧ p ≤ r.2.2 ∧ r.2.2 ≤ p + 32) := by
  unfold spec_anyBody.f
  refine Tot.bind (someBody_tot hb hp hp2) ?_
  rintro ⟨ws, nd, q⟩ ⟨⟨⟨h1, h2⟩, h3⟩, h4, h5⟩
  dsimp only at h1 h2 h3 h4 h5 ⊢
  have hs := sumL_bound (l := ws) (fun x hx => ⟨(h3 x hx).1, by have := (h3 x hx).2; omega⟩)
  refine Tot.bind (pick_tot hb (by omega) (by omega) (by omega)) ?_
  rintro ⟨v, q2⟩ ⟨g1, g2, g3⟩
  dsimp only at g1 g2 g3 ⊢
  refine Tot.ite (fun _ => ?_) (fun _ => Tot.ite (fun _ => ?_) (fun _ => Tot.ite (fun _ => ?_) (fun _ => Tot.now ⟨by dsimp only; omega, by dsimp only; omega, by dsimp only; omega⟩)))
  · refine Tot.bindv (specTotal_tot (by omega) (fun x hx => ⟨(h3 x hx).1, by have := (h3 x hx).2; omega⟩)) ?_
    refine Tot.bind (one_tot hb (by omega) (by omega) (by simp) (by simp)) ?_
    rintro ⟨v2, q3⟩ ⟨f1, _⟩
    dsimp only at f1
    exact Tot.now ⟨by dsimp only; omega, by dsimp only; omega, by dsimp only; omega⟩
  · refine Tot.bind (one_tot hb (by omega) (by omega) (by simp) (by simp)) ?_
    rintro ⟨v2, q3⟩ ⟨f1, _⟩
    dsimp only at f1
    exact Tot.pos (by omega) (Tot.now ⟨by simp only [List.length_set]; omega, by dsimp only; omega, by dsimp only; omega⟩)
  · refine (anyBody_l0 (9 - ws.length) ws nd (by omega)).mono ?_
    rintro r ⟨f1, f2⟩
    exact ⟨by omega, by omega, by omega⟩
theorem equalInts_l0 {a b : List Int} (hl : a.length = b.length) (ha : a.length ≤ 1000000000000) : ∀ (r s : List Int) (i : Nat), a.drop i = r → b.drop i = s →
    Tot (fun k => laws_equalInts.l0 k a b i) (fun t => t = decide (r = s)) := by
  intro r
  induction r with
  | nil =>
    intro s i h h2
    have h3 := drop_nil h
    have h4 : s = [] := by rw [← h2]; exact List.drop_eq_nil_of_le (by omega)
    exact Tot.step (fun _ => laws_equalInts.l0.eq_2 ..) (Tot.neg (by omega) (Tot.now (by simp [h4])))
  | cons x r ih =>
    intro s i h h2
    obtain ⟨h3, h4, h5⟩ := drop_cons h
    cases s with
    | nil => have := drop_nil h2; omega
    | cons y s =>
      obtain ⟨g3, g4, g5⟩ := drop_cons h2
      refine Tot.step (fun _ => laws_equalInts.l0.eq_2 ..) ?_
      rw [rd_at h5, rd_at g5, w64s (by omega)]
      refine Tot.pos (by omega) (Tot.pos (by omega) (Tot.pos (by omega) (Tot.ite (fun e => ?_) (fun e => Tot.now (by simp [e])))))
      refine (ih s (i + 1) h4 g4).mono ?_
      rintro t rfl
      simp [e]
theorem equalInts_tot {a b : List Int} (ha : a.length ≤ 1000000000000) : Tot (fun k => laws_equalInts.f k a b) (fun t => t = decide (a = b)) := by
  unfold laws_equalInts.f
  refine Tot.ite (fun h => ?_) (fun h => Tot.now ?_)
  · exact equalInts_l0 (by omega) ha a b 0 rfl rfl
  · symm
    rw [decide_eq_false_iff_not]
    rintro rfl
    exact h rfl
theorem lawsTotal_l0 {xs : List Int} (hl : xs.length ≤ 1000) (hx : ∀ x ∈ xs, -1000000000 ≤ x ∧ x ≤ 1000000000) : ∀ (r : List Int) (i : Nat) (acc : Int), xs.drop i = r → -1000000000 * i ≤ acc → acc ≤ 1000000000 * i →
    Tot (fun k => laws_total.l0 k xs acc i) (fun t => t = acc + sumL r) := by
  intro r
  induction r with
  | nil =>
    intro i acc h _ _
    have := drop_nil h
    exact Tot.step (fun _ => laws_total.l0.eq_2 ..) (Tot.neg (by omega) (Tot.now (by simp [sumL])))
  | cons x r ih =>
    intro i acc h ha ha2
    obtain ⟨h1, h2, h3⟩ := drop_cons h
    have h4 := hx x (List.mem_of_getElem? h3)
    refine Tot.step (fun _ => laws_total.l0.eq_2 ..) ?_
    rw [rd_at h3, w64s (by omega), w64 (x := acc + x) (by omega) (by omega)]
    refine Tot.pos (by omega) (Tot.pos (by omega) ((ih (i + 1) (acc + x) h2 (by omega) (by omega)).mono ?_))
    rintro t rfl
    rw [sumL]; omega
theorem lawsTotal_tot {xs : List Int} (hl : xs.length ≤ 1000) (hx : ∀ x ∈ xs, -1000000000 ≤ x ∧ x ≤ 1000000000) : Tot (fun k => laws_total.f k xs) (fun t => t = sumL xs) := by
  unfold laws_total.f
  refine (lawsTotal_l0 hl hx xs 0 0 rfl (by omega) (by omega)).mono ?_
  rintro t rfl
  omega
theorem drawDual_tot {l : List Int} (hw : ∀ x ∈ l, (Lit.int .u8 x).wf = true) : Tot (fun k => spec_DrawDualBody.f k l) (fun r => r.1.length ≤ 9) := by
  unfold spec_DrawDualBody.f
  obtain ⟨b, hb, hb2, hb3⟩ := newReader_tot hw
  rw [hb]
  refine Tot.known (Tot.bind (anyBody_tot hb3 (Int.le_refl _) (by omega)) ?_)
  rintro ⟨ws, nd, q⟩ ⟨h1, h2, h3⟩
  exact Tot.now h1
theorem equalBody_tot {l : List Int} {n : Int} (hl : l.length ≤ 1000000000) : Tot (fun k => laws_equalBody.f k l n l n) (fun t => t = true) := by
  unfold laws_equalBody.f
  exact Tot.bindv (equalInts_tot (by omega)) (Tot.pos (by simp) (Tot.now (by simp)))
theorem FnDualBody : laws_FnDualBody.Pure := by
  intro l hl hl2 hw
  refine Tot.ends (g := fun k => laws_FnDualBody.f k l) ?_
  unfold laws_FnDualBody.f
  refine Tot.ite (fun _ => Tot.now rfl) (fun _ => ?_)
  refine Tot.bind (drawDual_tot hw) ?_
  rintro ⟨ws, nd⟩ h1
  dsimp only at h1 ⊢
  refine Tot.bindv (implDual_tot (by omega)) (Tot.bindv (specDual_tot (by omega)) ?_)
  by_cases h : VB ws nd
  · have hv := h.2.1
    have hb := sumL_bound (l := ws) (fun x hx => ⟨(hv x hx).1, by have := (hv x hx).2; omega⟩)
    have hn := h.2.2
    have hlen := h.1
    have e : dual ws nd = (ws, sumL ws - nd + 1) := by unfold dual; rw [if_pos h]
    rw [e]
    dsimp only
    have h2 : VB ws (sumL ws - nd + 1) := ⟨h.1, hv, by omega, by omega⟩
    have e2 : dual ws (sumL ws - nd + 1) = (ws, nd) := by
      unfold dual; rw [if_pos h2, show sumL ws - (sumL ws - nd + 1) + 1 = nd by omega]
    refine Tot.bindv (equalBody_tot (by omega)) (Tot.pos rfl ?_)
    have hne : ((ws.length : Int) == 0) = false := by
      have : ¬ ((ws.length : Int) = 0) := by omega
      simpa using this
    rw [hne]
    refine Tot.step (fun _ => laws_FnDualBody.j0.eq_2 ..) (Tot.neg (by decide) ?_)
    refine Tot.bindv (implDual_tot (by omega)) ?_
    rw [e2]
    dsimp only
    refine Tot.bindv (equalBody_tot (by omega)) (Tot.pos rfl ?_)
    refine Tot.bindv (lawsTotal_tot (by omega) (fun x hx => ⟨by have := (hv x hx).1; omega, by have := (hv x hx).2; omega⟩)) ?_
    rw [w64 (x := sumL ws - nd + 1 + nd) (by omega) (by omega), w64 (x := sumL ws + 1) (by omega) (by omega)]
    exact Tot.pos (by omega) (Tot.bindv (implVB_tot (by omega)) (Tot.now (decide_eq_true h2)))
  · have e : dual ws nd = ([], 0) := by unfold dual; rw [if_neg h]
    rw [e]
    dsimp only
    refine Tot.bindv (equalBody_tot (by simp)) (Tot.pos rfl ?_)
    refine Tot.step (fun _ => laws_FnDualBody.j0.eq_2 ..) (Tot.pos rfl ?_)
    refine Tot.bindv (specDual_tot (by omega)) ?_
    rw [e]
    exact Tot.bindv (equalBody_tot (by simp)) (Tot.now rfl)
end Go.Proofs.Ytlghjnmfccifeaa.Pure
