/- FnExactPasses: for all arguments Passes of the program and of the reference agree, and the arguments are left as they were. No condition beyond the statement's own. -/
import Derived.Test.YthlgmdlnfkmnhaaPFnExactPassesx5
import Derived.Test.YthlgmdlnfkmnhaaCore
namespace Go.Proofs.Ythlgmdlnfkmnhaa.Pure
open Go.RowKit Go.Proofs.Ythlgmdlnfkmnhaa.PFnExactPasses Go.Proofs.YthlgmdlnfkmnhaaW.PrintWords
set_option linter.unusedSimpArgs false
set_option linter.unusedVariables false

def sumL : List Int → Int
  | [] => 0
  | x :: r => x + sumL r
theorem sumL_bound {l : List Int} (h : ∀ x ∈ l, 0 ≤ x ∧ x ≤ 1000000) : 0 ≤ sumL l ∧ sumL l ≤ 1000000 * l.length := by
  induction l with
  | nil => simp [sumL]
  | cons x r ih =>
    have h1 := ih (fun y hy => h y (List.mem_cons_of_mem _ hy))
    have h2 := h x (by simp)
    simp only [sumL, List.length_cons]
    omega
/-- A valid body. -/
def VB (ws : List Int) (need : Int) : Prop := (1 ≤ ws.length ∧ ws.length ≤ 12) ∧ (∀ w ∈ ws, 0 ≤ w ∧ w ≤ 100) ∧ 1 ≤ need ∧ need ≤ sumL ws
instance (ws : List Int) (need : Int) : Decidable (VB ws need) := inferInstanceAs (Decidable ((1 ≤ ws.length ∧ ws.length ≤ 12) ∧ (∀ w ∈ ws, 0 ≤ w ∧ w ≤ 100) ∧ 1 ≤ need ∧ need ≤ sumL ws))
theorem dfalse {p : Prop} {i : Decidable p} (h : ¬ p) : false = @decide p i := by
  symm; rw [decide_eq_false_iff_not]; exact h
theorem dtrue {p : Prop} {i : Decidable p} (h : p) : true = @decide p i := by
  symm; rw [decide_eq_true_iff]; exact h
/-- Valid ballots of a valid body. -/
def VBal (ws : List Int) (need : Int) (bs : List Int) : Prop := VB ws need ∧ bs.length = ws.length ∧ ∀ b ∈ bs, 0 ≤ b ∧ b ≤ 3
instance (ws : List Int) (need : Int) (bs : List Int) : Decidable (VBal ws need bs) := inferInstanceAs (Decidable (VB ws need ∧ bs.length = ws.length ∧ ∀ b ∈ bs, 0 ≤ b ∧ b ≤ 3))
def tal : List Int → List Int → Int → Int
  | b :: bs, w :: ws, k => (if b = k then w else 0) + tal bs ws k
  | _, _, _ => 0
theorem tal_bound {k : Int} : ∀ {bs ws : List Int}, (∀ w ∈ ws, 0 ≤ w ∧ w ≤ 100) → 0 ≤ tal bs ws k ∧ tal bs ws k ≤ sumL ws := by
  intro bs
  induction bs with
  | nil =>
    intro ws h
    have := (sumL_bound (l := ws) (fun x hx => ⟨(h x hx).1, by have := (h x hx).2; omega⟩)).1
    simp [tal]; exact this
  | cons b bs ih =>
    intro ws h
    cases ws with
    | nil => simp [tal, sumL]
    | cons w ws =>
      have h1 := ih (ws := ws) (fun x hx => h x (List.mem_cons_of_mem _ hx))
      have h2 := h w (by simp)
      simp only [tal, sumL]
      split <;> omega
theorem tal_all : ∀ {bs ws : List Int}, bs.length = ws.length → (∀ b ∈ bs, 0 ≤ b ∧ b ≤ 3) → tal bs ws 0 + tal bs ws 1 + tal bs ws 2 + tal bs ws 3 = sumL ws := by
  intro bs
  induction bs with
  | nil =>
    intro ws h _
    cases ws with
    | nil => rfl
    | cons w ws => simp at h
  | cons b bs ih =>
    intro ws h hb
    cases ws with
    | nil => simp at h
    | cons w ws =>
      have h1 := ih (ws := ws) (by simpa using h) (fun x hx => hb x (List.mem_cons_of_mem _ hx))
      have h2 := hb b (by simp)
      simp only [tal, sumL]
      have h3 : b = 0 ∨ b = 1 ∨ b = 2 ∨ b = 3 := by omega
      rcases h3 with rfl | rfl | rfl | rfl <;> simp <;> omega
theorem VB.sum {ws : List Int} {need : Int} (h : VB ws need) : 0 ≤ sumL ws ∧ sumL ws ≤ 12000000 := by
  have h1 := sumL_bound (l := ws) (fun x hx => ⟨(h.2.1 x hx).1, by have := (h.2.1 x hx).2; omega⟩)
  have h2 := h.1.2
  omega
theorem allWithin_l0 {xs : List Int} {lo hi : Int} (hl : xs.length ≤ 1000000000000) : ∀ (r : List Int) (i : Nat), xs.drop i = r →
    Tot (fun k => impl_allWithin.l0 k lo hi xs xs.length i) (fun t => t = decide (∀ x ∈ r, lo ≤ x ∧ x ≤ hi)) := by
  intro r
  induction r with
  | nil =>
    intro i h
    have := drop_nil h
    exact Tot.step (fun _ => impl_allWithin.l0.eq_2 ..) (Tot.neg (by omega) (Tot.now (by simp)))
  | cons x r ih =>
    intro i h
    obtain ⟨h1, h2, h3⟩ := drop_cons h
    refine Tot.step (fun _ => impl_allWithin.l0.eq_2 ..) ?_
    rw [rd_at h3, w64s (by omega)]
    refine Tot.pos (by omega) (Tot.pos (by omega) (Tot.pos (by omega) (Tot.ite (fun h4 => Tot.now ?_) (fun h4 => Tot.ite (fun h5 => Tot.now ?_) (fun h5 => ?_)))))
    · symm
      rw [decide_eq_false_iff_not]
      exact fun h => by have := h x (by simp); omega
    · symm
      rw [decide_eq_false_iff_not]
      exact fun h => by have := h x (by simp); omega
    · refine (ih (i + 1) h2).mono ?_
      rintro t rfl
      rw [decide_eq_decide]
      simp only [List.mem_cons, forall_eq_or_imp]
      exact ⟨fun h => ⟨⟨by omega, by omega⟩, h⟩, fun h => h.2⟩
theorem allWithin_tot {xs : List Int} {lo hi : Int} (hl : xs.length ≤ 1000000000000) : Tot (fun k => impl_allWithin.f k xs lo hi) (fun t => t = decide (∀ x ∈ xs, lo ≤ x ∧ x ≤ hi)) := by
  unfold impl_allWithin.f
  exact allWithin_l0 hl xs 0 rfl
theorem implSum_l0 {xs : List Int} (hl : xs.length ≤ 1000000) (hx : ∀ x ∈ xs, 0 ≤ x ∧ x ≤ 1000000) : ∀ (r : List Int) (i : Nat) (acc : Int), xs.drop i = r → 0 ≤ acc → acc ≤ 1000000 * i →
    Tot (fun k => impl_sumOf.l0 k acc xs xs.length i) (fun t => t = acc + sumL r) := by
  intro r
  induction r with
  | nil =>
    intro i acc h _ _
    have := drop_nil h
    exact Tot.step (fun _ => impl_sumOf.l0.eq_2 ..) (Tot.neg (by omega) (Tot.now (by simp [sumL])))
  | cons x r ih =>
    intro i acc h ha ha2
    obtain ⟨h1, h2, h3⟩ := drop_cons h
    have h4 := hx x (List.mem_of_getElem? h3)
    refine Tot.step (fun _ => impl_sumOf.l0.eq_2 ..) ?_
    rw [rd_at h3, w64s (by omega), w64 (x := acc + x) (by omega) (by omega)]
    refine Tot.pos (by omega) (Tot.pos (by omega) (Tot.pos (by omega) ((ih (i + 1) (acc + x) h2 (by omega) (by omega)).mono ?_)))
    rintro t rfl
    rw [sumL]; omega
theorem implSum_tot {xs : List Int} (hl : xs.length ≤ 1000000) (hx : ∀ x ∈ xs, 0 ≤ x ∧ x ≤ 1000000) : Tot (fun k => impl_sumOf.f k xs) (fun t => t = sumL xs) := by
  unfold impl_sumOf.f
  refine (implSum_l0 hl hx xs 0 0 rfl (Int.le_refl _) (by omega)).mono ?_
  rintro t rfl
  omega
theorem implVB_tot {ws : List Int} {need : Int} (hl : ws.length ≤ 1000000000) : Tot (fun k => impl_ValidBody.f k ws need) (fun t => t = decide (VB ws need)) := by
  unfold impl_ValidBody.f
  refine Tot.ite (fun h => Tot.now (dfalse fun h2 => by have := h2.1; omega)) (fun h => Tot.ite (fun h1 => Tot.now (dfalse fun h2 => by have := h2.1; omega)) (fun h1 => ?_))
  refine Tot.bind (allWithin_tot (by omega)) ?_
  rintro _ rfl
  simp only [decide_eq_true_eq]
  refine Tot.ite (fun h2 => Tot.ite (fun h3 => ?_) (fun h3 => Tot.now (dfalse fun h4 => h3 h4.2.2.1))) (fun h2 => Tot.now (dfalse fun h4 => h2 h4.2.1))
  refine Tot.bind (implSum_tot (by omega) (fun x hx => ⟨(h2 x hx).1, by have := (h2 x hx).2; omega⟩)) ?_
  rintro _ rfl
  refine Tot.now ?_
  rw [decide_eq_decide]
  exact ⟨fun h4 => ⟨by omega, h2, h3, h4⟩, fun h4 => h4.2.2.2⟩
theorem implVBal_tot {ws bs : List Int} {need : Int} (hl : ws.length ≤ 1000000000) (hb : bs.length ≤ 1000000000) : Tot (fun k => impl_validBallots.f k ws need bs) (fun t => t = decide (VBal ws need bs)) := by
  unfold impl_validBallots.f
  refine Tot.bind (implVB_tot hl) ?_
  rintro _ rfl
  simp only [decide_eq_true_eq]
  refine Tot.ite (fun h => Tot.ite (fun h2 => ?_) (fun h2 => Tot.now (dfalse fun h3 => h2 (by have := h3.2.1; omega)))) (fun h => Tot.now (dfalse fun h3 => h h3.1))
  refine Tot.bind (allWithin_tot (by omega)) ?_
  rintro _ rfl
  refine Tot.now ?_
  rw [decide_eq_decide]
  exact ⟨fun h4 => ⟨h, by omega, h4⟩, fun h4 => h4.2.2⟩
theorem implTally_l0 {ws bs : List Int} {need kind : Int} (hws : ∀ w ∈ ws, 0 ≤ w ∧ w ≤ 100) (hlen : bs.length = ws.length) (hl : ws.length ≤ 12) : ∀ (r s : List Int) (i : Nat) (acc : Int), bs.drop i = r → ws.drop i = s → 0 ≤ acc → acc ≤ 100 * i →
    Tot (fun k => impl_TallyOf.l0 k kind acc bs bs.length i ws need) (fun t => t = acc + tal r s kind) := by
  intro r
  induction r with
  | nil =>
    intro s i acc h h2 _ _
    have := drop_nil h
    refine Tot.step (fun _ => impl_TallyOf.l0.eq_2 ..) (Tot.neg (by omega) (Tot.now ?_))
    simp [tal]
  | cons b r ih =>
    intro s i acc h h2 ha ha2
    obtain ⟨g1, g2, g3⟩ := drop_cons h
    cases s with
    | nil => have := drop_nil h2; omega
    | cons w s =>
      obtain ⟨f1, f2, f3⟩ := drop_cons h2
      have hw := hws w (List.mem_of_getElem? f3)
      refine Tot.step (fun _ => impl_TallyOf.l0.eq_2 ..) ?_
      rw [rd_at g3, rd_at f3, w64s (by omega), w64 (x := acc + w) (by omega) (by omega), tal]
      refine Tot.pos (by omega) (Tot.pos (by omega) (Tot.pos (by omega) (Tot.ite (fun e => Tot.pos (by omega) ?_) (fun e => ?_))))
      · rw [if_pos e]
        refine (ih s (i + 1) _ g2 f2 (by omega) (by omega)).mono ?_
        rintro t rfl
        omega
      · rw [if_neg e]
        refine (ih s (i + 1) _ g2 f2 (by omega) (by omega)).mono ?_
        rintro t rfl
        omega
theorem implTallyOf_tot {ws bs : List Int} {need kind : Int} (hl : ws.length ≤ 1000000000) (hb : bs.length ≤ 1000000000) : Tot (fun k => impl_TallyOf.f k ws need bs kind) (fun t => t = if VBal ws need bs ∧ 0 ≤ kind ∧ kind ≤ 3 then tal bs ws kind else -1) := by
  unfold impl_TallyOf.f
  refine Tot.bind (implVBal_tot hl hb) ?_
  rintro _ rfl
  simp only [decide_eq_true_eq]
  refine Tot.ite (fun h => Tot.ite (fun h2 => Tot.step (fun _ => impl_TallyOf.j0.eq_2 ..) (Tot.pos rfl ?_)) (fun h2 => Tot.step (fun _ => impl_TallyOf.j0.eq_2 ..) ?_)) (fun h => Tot.step (fun _ => impl_TallyOf.j0.eq_2 ..) (Tot.pos rfl ?_))
  · rw [if_neg (by omega)]; exact Tot.now rfl
  · by_cases h3 : kind > 3
    · rw [if_neg (by omega)]; exact Tot.pos (by simp [h3]) (Tot.now rfl)
    · rw [if_pos ⟨h, by omega, by omega⟩]
      refine Tot.neg (by simp; omega) ((implTally_l0 h.1.2.1 h.2.1 h.1.1.2 bs ws 0 0 rfl rfl (Int.le_refl _) (by omega)).mono ?_)
      rintro t rfl
      omega
  · rw [if_neg (fun h2 => h h2.1)]; exact Tot.now rfl
theorem inRange_eq (a b c : Int) : spec_inRange.f a b c = some (decide (b ≤ a ∧ a ≤ c)) := by
  unfold spec_inRange.f
  by_cases h : b ≤ a
  · rw [if_pos h]; simp [h]
  · rw [if_neg h]; simp [h]
theorem allIn_l0 {xs : List Int} {lo hi : Int} (hl : xs.length ≤ 1000000000000) : ∀ (r : List Int) (i : Nat), xs.drop i = r →
    Tot (fun k => spec_allIn.l0 k xs lo hi i) (fun t => t = decide (∀ x ∈ r, lo ≤ x ∧ x ≤ hi)) := by
  intro r
  induction r with
  | nil =>
    intro i h
    have := drop_nil h
    exact Tot.step (fun _ => spec_allIn.l0.eq_2 ..) (Tot.neg (by omega) (Tot.now (by simp)))
  | cons x r ih =>
    intro i h
    obtain ⟨h1, h2, h3⟩ := drop_cons h
    refine Tot.step (fun _ => spec_allIn.l0.eq_2 ..) ?_
    rw [rd_at h3, w64s (by omega), inRange_eq]
    simp only [Option.bind_some, decide_eq_true_eq]
    refine Tot.pos (by omega) (Tot.pos (by omega) (Tot.ite (fun h4 => ?_) (fun h4 => Tot.now ?_)))
    · refine (ih (i + 1) h2).mono ?_
      rintro t rfl
      rw [decide_eq_decide]
      simp only [List.mem_cons, forall_eq_or_imp]
      exact ⟨fun h => ⟨h4, h⟩, fun h => h.2⟩
    · symm
      rw [decide_eq_false_iff_not]
      exact fun h => h4 (h x (by simp))
theorem allIn_tot {xs : List Int} {lo hi : Int} (hl : xs.length ≤ 1000000000000) : Tot (fun k => spec_allIn.f k xs lo hi) (fun t => t = decide (∀ x ∈ xs, lo ≤ x ∧ x ≤ hi)) := by
  unfold spec_allIn.f
  exact allIn_l0 hl xs 0 rfl
theorem specTotal_l0 {xs : List Int} (hl : xs.length ≤ 1000000) (hx : ∀ x ∈ xs, 0 ≤ x ∧ x ≤ 1000000) : ∀ (r : List Int) (i : Nat) (acc : Int), xs.drop i = r → 0 ≤ acc → acc ≤ 1000000 * i →
    Tot (fun k => spec_total.l0 k xs acc i) (fun t => t = acc + sumL r) := by
  intro r
  induction r with
  | nil =>
    intro i acc h _ _
    have := drop_nil h
    exact Tot.step (fun _ => spec_total.l0.eq_2 ..) (Tot.neg (by omega) (Tot.now (by simp [sumL])))
  | cons x r ih =>
    intro i acc h ha ha2
    obtain ⟨h1, h2, h3⟩ := drop_cons h
    have h4 := hx x (List.mem_of_getElem? h3)
    refine Tot.step (fun _ => spec_total.l0.eq_2 ..) ?_
    rw [rd_at h3, w64s (by omega), w64 (x := acc + x) (by omega) (by omega)]
    refine Tot.pos (by omega) (Tot.pos (by omega) ((ih (i + 1) (acc + x) h2 (by omega) (by omega)).mono ?_))
    rintro t rfl
    rw [sumL]; omega
theorem specTotal_tot {xs : List Int} (hl : xs.length ≤ 1000000) (hx : ∀ x ∈ xs, 0 ≤ x ∧ x ≤ 1000000) : Tot (fun k => spec_total.f k xs) (fun t => t = sumL xs) := by
  unfold spec_total.f
  refine (specTotal_l0 hl hx xs 0 0 rfl (Int.le_refl _) (by omega)).mono ?_
  rintro t rfl
  omega
theorem specVB_tot {ws : List Int} {need : Int} (hl : ws.length ≤ 1000000000) : Tot (fun k => spec_validBody.f k ws need) (fun t => t = decide (VB ws need)) := by
  unfold spec_validBody.f
  rw [inRange_eq]
  simp only [Option.bind_some, decide_eq_true_eq]
  refine Tot.ite (fun h => ?_) (fun h => Tot.now (dfalse fun h2 => by have := h2.1; omega))
  refine Tot.bind (allIn_tot (by omega)) ?_
  rintro _ rfl
  simp only [decide_eq_true_eq]
  refine Tot.ite (fun h2 => ?_) (fun h2 => Tot.now (dfalse fun h4 => h2 h4.2.1))
  refine Tot.bind (specTotal_tot (by omega) (fun x hx => ⟨(h2 x hx).1, by have := (h2 x hx).2; omega⟩)) ?_
  rintro _ rfl
  rw [inRange_eq]
  simp only [Option.bind_some]
  refine Tot.now ?_
  rw [decide_eq_decide]
  exact ⟨fun h4 => ⟨by omega, h2, h4.1, h4.2⟩, fun h4 => h4.2.2⟩
theorem specVBal_tot {ws bs : List Int} {need : Int} (hl : ws.length ≤ 1000000000) (hb : bs.length ≤ 1000000000) : Tot (fun k => spec_validBallots.f k ws need bs) (fun t => t = decide (VBal ws need bs)) := by
  unfold spec_validBallots.f
  refine Tot.bind (specVB_tot hl) ?_
  rintro _ rfl
  simp only [decide_eq_true_eq]
  refine Tot.ite (fun h => Tot.ite (fun h2 => ?_) (fun h2 => Tot.now (dfalse fun h3 => h2 (by have := h3.2.1; omega)))) (fun h => Tot.now (dfalse fun h3 => h h3.1))
  refine Tot.bind (allIn_tot (by omega)) ?_
  rintro _ rfl
  refine Tot.now ?_
  rw [decide_eq_decide]
  exact ⟨fun h4 => ⟨h, by omega, h4⟩, fun h4 => h4.2.2⟩
theorem specTally_l0 {ws bs : List Int} {need kind : Int} (hws : ∀ w ∈ ws, 0 ≤ w ∧ w ≤ 100) (hlen : bs.length = ws.length) (hl : ws.length ≤ 12) : ∀ (r s : List Int) (i : Nat) (acc : Int), bs.drop i = r → ws.drop i = s → 0 ≤ acc → acc ≤ 100 * i →
    Tot (fun k => spec_tally.l0 k bs kind acc i ws need) (fun t => t = acc + tal r s kind) := by
  intro r
  induction r with
  | nil =>
    intro s i acc h h2 _ _
    have := drop_nil h
    refine Tot.step (fun _ => spec_tally.l0.eq_2 ..) (Tot.neg (by omega) (Tot.now ?_))
    simp [tal]
  | cons b r ih =>
    intro s i acc h h2 ha ha2
    obtain ⟨g1, g2, g3⟩ := drop_cons h
    cases s with
    | nil => have := drop_nil h2; omega
    | cons w s =>
      obtain ⟨f1, f2, f3⟩ := drop_cons h2
      have hw := hws w (List.mem_of_getElem? f3)
      refine Tot.step (fun _ => spec_tally.l0.eq_2 ..) ?_
      rw [rd_at g3, rd_at f3, w64s (by omega), w64 (x := acc + w) (by omega) (by omega), tal]
      refine Tot.pos (by omega) (Tot.pos (by omega) (Tot.ite (fun e => Tot.pos (by omega) ?_) (fun e => ?_)))
      · rw [if_pos e]
        refine (ih s (i + 1) _ g2 f2 (by omega) (by omega)).mono ?_
        rintro t rfl
        omega
      · rw [if_neg e]
        refine (ih s (i + 1) _ g2 f2 (by omega) (by omega)).mono ?_
        rintro t rfl
        omega
theorem specTally_tot {ws bs : List Int} {need kind : Int} (h : VBal ws need bs) : Tot (fun k => spec_tally.f k ws need bs kind) (fun t => t = tal bs ws kind) := by
  unfold spec_tally.f
  refine (specTally_l0 h.1.2.1 h.2.1 h.1.1.2 bs ws 0 0 rfl rfl (Int.le_refl _) (by omega)).mono ?_
  rintro t rfl
  omega
def passes (ws : List Int) (need : Int) (bs : List Int) (q : Int) (s : Bool) : Bool :=
  decide (VBal ws need bs) && decide (q ≤ sumL ws - tal bs ws 0) && (if s = true then decide (tal bs ws 1 > tal bs ws 3) else decide (tal bs ws 1 ≥ need))
theorem implPasses_tot {ws bs : List Int} {need q : Int} {s : Bool} (hl : ws.length ≤ 1000000000) (hb : bs.length ≤ 1000000000) : Tot (fun k => impl_Passes.f k ws need bs q s) (fun t => t = passes ws need bs q s) := by
  unfold impl_Passes.f
  refine Tot.bind (implVBal_tot hl hb) ?_
  rintro _ rfl
  simp only [decide_eq_true_eq]
  refine Tot.ite (fun h => ?_) (fun h => Tot.now (by simp [passes, h]))
  have hT : ∀ kind : Int, 0 ≤ kind → kind ≤ 3 → Tot (fun k => impl_TallyOf.f k ws need bs kind) (fun t => t = tal bs ws kind) := fun kind h0 h1 => by
    have := implTallyOf_tot (ws := ws) (bs := bs) (need := need) (kind := kind) hl hb
    rw [if_pos ⟨h, h0, h1⟩] at this
    exact this
  refine Tot.bind (hT 1 (by omega) (by omega)) ?_
  rintro _ rfl
  refine Tot.bind (hT 3 (by omega) (by omega)) ?_
  rintro _ rfl
  refine Tot.bind (hT 2 (by omega) (by omega)) ?_
  rintro _ rfl
  have h0 := tal_all h.2.1 h.2.2
  have b0 := tal_bound (bs := bs) (k := 0) h.1.2.1
  have b1 := tal_bound (bs := bs) (k := 1) h.1.2.1
  have b2 := tal_bound (bs := bs) (k := 2) h.1.2.1
  have b3 := tal_bound (bs := bs) (k := 3) h.1.2.1
  have hs := h.1.sum
  rw [w64 (x := tal bs ws 1 + tal bs ws 3) (by omega) (by omega), w64 (x := tal bs ws 1 + tal bs ws 3 + tal bs ws 2) (by omega) (by omega)]
  refine Tot.ite (fun h2 => Tot.now ?_) (fun h2 => ?_)
  · have : ¬ q ≤ sumL ws - tal bs ws 0 := by omega
    simp [passes, this]
  · have h3 : q ≤ sumL ws - tal bs ws 0 := by omega
    refine Tot.ite (fun h4 => Tot.now ?_) (fun h4 => Tot.now ?_)
    · simp [passes, h, h3, h4]
    · simp [passes, h, h3, h4]
theorem specPasses_tot {ws bs : List Int} {need q : Int} {s : Bool} (hl : ws.length ≤ 1000000000) (hb : bs.length ≤ 1000000000) : Tot (fun k => spec_Passes.f k ws need bs q s) (fun t => t = passes ws need bs q s) := by
  unfold spec_Passes.f
  refine Tot.bind (specVBal_tot hl hb) ?_
  rintro _ rfl
  simp only [decide_eq_true_eq]
  refine Tot.ite (fun h => ?_) (fun h => Tot.step (fun _ => spec_Passes.j0.eq_2 ..) (Tot.pos rfl (Tot.now (by simp [passes, h]))))
  refine Tot.bind (specTotal_tot (by have := h.1.1.2; omega) (fun x hx => ⟨(h.1.2.1 x hx).1, by have := (h.1.2.1 x hx).2; omega⟩)) ?_
  rintro _ rfl
  refine Tot.bind (specTally_tot h) ?_
  rintro _ rfl
  have b0 := tal_bound (bs := bs) (k := 0) h.1.2.1
  have hs := h.1.sum
  rw [w64 (x := sumL ws - tal bs ws 0) (by omega) (by omega)]
  refine Tot.step (fun _ => spec_Passes.j0.eq_2 ..) ?_
  simp only [decide_eq_true_eq]
  refine Tot.ite (fun h2 => Tot.now ?_) (fun h2 => ?_)
  · have : ¬ q ≤ sumL ws - tal bs ws 0 := by omega
    simp [passes, this]
  · have h3 : q ≤ sumL ws - tal bs ws 0 := by omega
    refine Tot.bind (specTally_tot h) ?_
    rintro _ rfl
    refine Tot.ite (fun h4 => ?_) (fun h4 => Tot.now ?_)
    · refine Tot.bind (specTally_tot h) ?_
      rintro _ rfl
      refine Tot.now ?_
      simp [passes, h, h3, h4]
    · simp [passes, h, h3, h4]
theorem toIntS_l0 {xs : List Int} (hl : xs.length ≤ 1000000000000) : ∀ (d i : Nat), i + d = xs.length →
    Tot (fun k => laws_toIntS.l0 k xs (xs.take i ++ List.replicate d 0) i) (fun t => t = xs) := by
  intro d
  induction d with
  | zero =>
    intro i hi
    exact Tot.step (fun _ => laws_toIntS.l0.eq_2 ..) (Tot.neg (by omega) (Tot.now (by rw [List.replicate_zero, List.append_nil]; exact List.take_of_length_le (by omega))))
  | succ d ih =>
    intro i hi
    refine Tot.step (fun _ => laws_toIntS.l0.eq_2 ..) ?_
    rw [rd_get (by omega), w64s (by omega), Int.toNat_natCast, set_fill (by omega)]
    exact Tot.pos (by omega) (Tot.pos (by omega) (Tot.pos (by rw [List.length_append, List.length_replicate, List.length_take]; omega) (ih (i + 1) (by omega))))
theorem toIntS_tot {xs : List Int} (hl : xs.length ≤ 1000000000000) : Tot (fun k => laws_toIntS.f k xs) (fun t => t = xs) := by
  unfold laws_toIntS.f
  refine Tot.pos (by omega) (Tot.pos (by omega) ?_)
  rw [Int.toNat_natCast]
  have := toIntS_l0 hl xs.length 0 (by omega)
  rw [List.take_zero, List.nil_append] at this
  exact this
theorem eqIntS_l0 {a b : List Int} (hl : a.length = b.length) (ha : a.length ≤ 1000000000000) : ∀ (r s : List Int) (i : Nat), a.drop i = r → b.drop i = s →
    Tot (fun k => laws_eqIntS.l0 k a b i) (fun t => t = decide (r = s)) := by
  intro r
  induction r with
  | nil =>
    intro s i h h2
    have h3 := drop_nil h
    have h4 : s = [] := by rw [← h2]; exact List.drop_eq_nil_of_le (by omega)
    exact Tot.step (fun _ => laws_eqIntS.l0.eq_2 ..) (Tot.neg (by omega) (Tot.now (by simp [h4])))
  | cons x r ih =>
    intro s i h h2
    obtain ⟨h3, h4, h5⟩ := drop_cons h
    cases s with
    | nil => have := drop_nil h2; omega
    | cons y s =>
      obtain ⟨g3, g4, g5⟩ := drop_cons h2
      refine Tot.step (fun _ => laws_eqIntS.l0.eq_2 ..) ?_
      rw [rd_at h5, rd_at g5, w64s (by omega)]
      refine Tot.pos (by omega) (Tot.pos (by omega) (Tot.pos (by omega) (Tot.ite (fun e => ?_) (fun e => Tot.now (by simp [e])))))
      refine (ih s (i + 1) h4 g4).mono ?_
      rintro t rfl
      simp [e]
theorem eqIntS_tot {a b : List Int} (ha : a.length ≤ 1000000000000) : Tot (fun k => laws_eqIntS.f k a b) (fun t => t = decide (a = b)) := by
  unfold laws_eqIntS.f
  refine Tot.ite (fun h => ?_) (fun h => Tot.now ?_)
  · exact eqIntS_l0 (by omega) ha a b 0 rfl rfl
  · symm
    rw [decide_eq_false_iff_not]
    rintro rfl
    exact h rfl
theorem szIntS_eq {l : List Int} (hl : l.length ≤ maxLen) {a : Int} (ha : 0 ≤ a) (ha2 : a ≤ 1048576) : laws_szIntS.f l a = some (if a - (l.length : Int) < 0 then -1 else a - (l.length : Int)) := by
  unfold maxLen at hl
  unfold laws_szIntS.f
  rw [w64 (x := a - (l.length : Int)) (by omega) (by omega)]
  split <;> rfl
theorem szBody_eq {l : List Int} {n : Int} (hl : l.length ≤ maxLen) {a : Int} (ha : 0 ≤ a) (ha2 : a ≤ 1048576) : laws_szBody.f l n a = some (if a - (l.length : Int) < 0 then -1 else a - (l.length : Int)) := by
  unfold laws_szBody.f
  rw [szIntS_eq hl ha ha2]
  simp only [Option.bind_some]
  by_cases h : a - (l.length : Int) < 0
  · rw [if_pos h, if_pos (by omega)]
  · rw [if_neg h, if_neg h]
theorem toBody_tot {l : List Int} {n : Int} (hl : l.length ≤ 1000000000) : Tot (fun k => laws_toBody.f k l n) (fun t => t = (l, n)) := by
  unfold laws_toBody.f
  refine Tot.bind (toIntS_tot (by omega)) ?_
  rintro _ rfl
  exact Tot.now rfl
theorem eqBody_tot {l : List Int} {n : Int} (hl : l.length ≤ 1000000000) : Tot (fun k => laws_eqBody.f k l n l n) (fun t => t = true) := by
  unfold laws_eqBody.f
  refine Tot.bind (eqIntS_tot (by omega)) ?_
  rintro _ rfl
  exact Tot.pos (by simp) (Tot.pos rfl (Tot.now rfl))
theorem FnExactPasses : ∀ (ws : List Int) (need : Int) (bs : List Int) (q : Int) (s : Bool), ws.length ≤ maxLen → (∀ x ∈ ws, (Lit.int .i64 x).wf = true) → (Lit.int .i64 need).wf = true → bs.length ≤ maxLen → (∀ x ∈ bs, (Lit.int .i64 x).wf = true) → (Lit.int .i64 q).wf = true → ∃ k, laws_FnExactPasses.f k ws need bs q s = some true := by
  intro ws need bs q s hl _ _ hb _ _
  refine Tot.ends (g := fun k => laws_FnExactPasses.f k ws need bs q s) ?_
  unfold laws_FnExactPasses.f
  refine Tot.ite (fun _ => Tot.now rfl) (fun hb0 => ?_)
  rw [szBody_eq hl (by omega) (by omega)]
  by_cases h0 : (1048576 : Int) - (ws.length : Int) < 0
  · rw [if_pos h0]
    simp only [Option.bind_some]
    exact Tot.pos (by omega) (Tot.now rfl)
  rw [if_neg h0]
  simp only [Option.bind_some]
  refine Tot.neg (by omega) ?_
  refine Tot.bind (toBody_tot (by omega)) ?_
  rintro _ rfl
  dsimp only
  refine Tot.bind (toIntS_tot (by omega)) ?_
  rintro _ rfl
  refine Tot.bind (specPasses_tot (by omega) (by omega)) ?_
  rintro _ rfl
  refine Tot.bind (toBody_tot (by omega)) ?_
  rintro _ rfl
  dsimp only
  refine Tot.bind (toIntS_tot (by omega)) ?_
  rintro _ rfl
  refine Tot.bind (implPasses_tot (by omega) (by omega)) ?_
  rintro _ rfl
  refine Tot.neg (by simp) ?_
  refine Tot.bind (toBody_tot (by omega)) ?_
  rintro _ rfl
  dsimp only
  refine Tot.bind (eqBody_tot (by omega)) ?_
  rintro _ rfl
  refine Tot.pos rfl ?_
  refine Tot.bind (toIntS_tot (by omega)) ?_
  rintro _ rfl
  refine Tot.bind (eqIntS_tot (by omega)) ?_
  rintro _ rfl
  exact Tot.pos (by simp) (Tot.now rfl)
end Go.Proofs.Ythlgmdlnfkmnhaa.Pure
