/- FnExactWinnerOf: for all arguments WinnerOf of the program and of the reference agree, and the arguments are left as they were. No condition beyond the statement's own. -/
import Derived.Test.YtdcapmgebjifpaaQFnExactWinnerOfx3
import Derived.Test.YtdcapmgebjifpaaCore
namespace Go.Proofs.Ytdcapmgebjifpaa.Pure
open Go.RowKit Go.Proofs.Ytdcapmgebjifpaa.PFnExactWinnerOf Go.Proofs.YtdcapmgebjifpaaW.PrintWords
set_option linter.unusedSimpArgs false
set_option linter.unusedVariables false

def sumL : List Int → Int
  | [] => 0
  | x :: r => x + sumL r
theorem sumL_bound {l : List Int} (h : ∀ x ∈ l, 0 ≤ x ∧ x ≤ 1000000) : 0 ≤ sumL l ∧ sumL l ≤ 1000000 * l.length := by
  induction l with
  | nil => simp [sumL]
  | cons x r ih =>
    have h1 := ih (fun y hy => h y (List.mem_cons_of_mem _ hy))
    have h2 := h x (by simp)
    simp only [sumL, List.length_cons]
    omega
/-- A valid body. -/
def VB (ws : List Int) (need : Int) : Prop := (1 ≤ ws.length ∧ ws.length ≤ 12) ∧ (∀ w ∈ ws, 0 ≤ w ∧ w ≤ 100) ∧ 1 ≤ need ∧ need ≤ sumL ws
instance (ws : List Int) (need : Int) : Decidable (VB ws need) := inferInstanceAs (Decidable ((1 ≤ ws.length ∧ ws.length ≤ 12) ∧ (∀ w ∈ ws, 0 ≤ w ∧ w ≤ 100) ∧ 1 ≤ need ∧ need ≤ sumL ws))
theorem dfalse {p : Prop} {i : Decidable p} (h : ¬ p) : false = @decide p i := by
  symm; rw [decide_eq_false_iff_not]; exact h
theorem dtrue {p : Prop} {i : Decidable p} (h : p) : true = @decide p i := by
  symm; rw [decide_eq_true_iff]; exact h
theorem pot_range {n p : Int} (h0 : 1 ≤ n) (h1 : n ≤ 12) (h2 : 0 ≤ p) (h3 : p ≤ 10000) : 0 ≤ n * p ∧ n * p ≤ 120000 := by
  refine ⟨Int.mul_nonneg (by omega) h2, ?_⟩
  have := Int.mul_le_mul h1 h3 h2 (by omega)
  omega
theorem potOf_eq (n p : Int) : impl_PotOf.f n p = some (if (1 ≤ n ∧ n ≤ 12) ∧ 0 ≤ p ∧ p ≤ 10000 then n * p else -1) := by
  unfold impl_PotOf.f
  by_cases h1 : n < 1
  · rw [if_pos h1, if_neg (by omega)]
  by_cases h2 : n > 12
  · rw [if_neg h1, if_pos h2, if_neg (by omega)]
  by_cases h3 : p < 0
  · rw [if_neg h1, if_neg h2, if_pos h3, if_neg (by omega)]
  by_cases h4 : p > 10000
  · rw [if_neg h1, if_neg h2, if_neg h3, if_pos h4, if_neg (by omega)]
  have h5 := pot_range (n := n) (p := p) (by omega) (by omega) (by omega) (by omega)
  rw [if_neg h1, if_neg h2, if_neg h3, if_neg h4, if_pos (by omega), w64 (by omega) (by omega)]
theorem allWithin_l0 {xs : List Int} {lo hi : Int} (hl : xs.length ≤ 1000000000000) : ∀ (r : List Int) (i : Nat), xs.drop i = r →
    Tot (fun k => impl_allWithin.l0 k lo hi xs xs.length i) (fun t => t = decide (∀ x ∈ r, lo ≤ x ∧ x ≤ hi)) := by
  intro r
  induction r with
  | nil =>
    intro i h
    have := drop_nil h
    exact Tot.step (fun _ => impl_allWithin.l0.eq_2 ..) (Tot.neg (by omega) (Tot.now (by simp)))
  | cons x r ih =>
    intro i h
    obtain ⟨h1, h2, h3⟩ := drop_cons h
    refine Tot.step (fun _ => impl_allWithin.l0.eq_2 ..) ?_
    rw [rd_at h3, w64s (by omega)]
    refine Tot.pos (by omega) (Tot.pos (by omega) (Tot.pos (by omega) (Tot.ite (fun h4 => Tot.now ?_) (fun h4 => Tot.ite (fun h5 => Tot.now ?_) (fun h5 => ?_)))))
    · symm
      rw [decide_eq_false_iff_not]
      exact fun h => by have := h x (by simp); omega
    · symm
      rw [decide_eq_false_iff_not]
      exact fun h => by have := h x (by simp); omega
    · refine (ih (i + 1) h2).mono ?_
      rintro t rfl
      rw [decide_eq_decide]
      simp only [List.mem_cons, forall_eq_or_imp]
      exact ⟨fun h => ⟨⟨by omega, by omega⟩, h⟩, fun h => h.2⟩
theorem allWithin_tot {xs : List Int} {lo hi : Int} (hl : xs.length ≤ 1000000000000) : Tot (fun k => impl_allWithin.f k xs lo hi) (fun t => t = decide (∀ x ∈ xs, lo ≤ x ∧ x ≤ hi)) := by
  unfold impl_allWithin.f
  exact allWithin_l0 hl xs 0 rfl
theorem inRange_eq (a b c : Int) : spec_inRange.f a b c = some (decide (b ≤ a ∧ a ≤ c)) := by
  unfold spec_inRange.f
  by_cases h : b ≤ a
  · rw [if_pos h]; simp [h]
  · rw [if_neg h]; simp [h]
theorem allIn_l0 {xs : List Int} {lo hi : Int} (hl : xs.length ≤ 1000000000000) : ∀ (r : List Int) (i : Nat), xs.drop i = r →
    Tot (fun k => spec_allIn.l0 k xs lo hi i) (fun t => t = decide (∀ x ∈ r, lo ≤ x ∧ x ≤ hi)) := by
  intro r
  induction r with
  | nil =>
    intro i h
    have := drop_nil h
    exact Tot.step (fun _ => spec_allIn.l0.eq_2 ..) (Tot.neg (by omega) (Tot.now (by simp)))
  | cons x r ih =>
    intro i h
    obtain ⟨h1, h2, h3⟩ := drop_cons h
    refine Tot.step (fun _ => spec_allIn.l0.eq_2 ..) ?_
    rw [rd_at h3, w64s (by omega), inRange_eq]
    simp only [Option.bind_some, decide_eq_true_eq]
    refine Tot.pos (by omega) (Tot.pos (by omega) (Tot.ite (fun h4 => ?_) (fun h4 => Tot.now ?_)))
    · refine (ih (i + 1) h2).mono ?_
      rintro t rfl
      rw [decide_eq_decide]
      simp only [List.mem_cons, forall_eq_or_imp]
      exact ⟨fun h => ⟨h4, h⟩, fun h => h.2⟩
    · symm
      rw [decide_eq_false_iff_not]
      exact fun h => h4 (h x (by simp))
theorem allIn_tot {xs : List Int} {lo hi : Int} (hl : xs.length ≤ 1000000000000) : Tot (fun k => spec_allIn.f k xs lo hi) (fun t => t = decide (∀ x ∈ xs, lo ≤ x ∧ x ≤ hi)) := by
  unfold spec_allIn.f
  exact allIn_l0 hl xs 0 rfl
theorem index_l0 {xs : List Int} {v : Int} (hl : xs.length ≤ 1000000000000) : ∀ (r : List Int) (i : Nat), xs.drop i = r →
    Tot (fun k => slices_Index_int_int.l0 k xs v xs.length i) (fun t => t = posFrom r v i) := by
  intro r
  induction r with
  | nil =>
    intro i h
    have := drop_nil h
    exact Tot.step (fun _ => slices_Index_int_int.l0.eq_2 ..) (Tot.neg (by omega) (Tot.now rfl))
  | cons x r ih =>
    intro i h
    obtain ⟨h1, h2, h3⟩ := drop_cons h
    refine Tot.step (fun _ => slices_Index_int_int.l0.eq_2 ..) ?_
    rw [rd_at h3, w64s (by omega), posFrom]
    refine Tot.pos (by omega) (Tot.pos (by omega) (Tot.pos (by omega) (Tot.ite (fun h4 => ?_) (fun h4 => ?_))))
    · rw [if_pos h4.symm]; exact Tot.now rfl
    · rw [if_neg (fun e => h4 e.symm)]; exact ih (i + 1) h2
theorem index_tot {xs : List Int} {v : Int} (hl : xs.length ≤ 1000000000000) : Tot (fun k => slices_Index_int_int.f k xs v) (fun t => t = posFrom xs v 0) := by
  unfold slices_Index_int_int.f
  exact index_l0 hl xs 0 rfl
theorem placeIn_l0 {xs : List Int} {v : Int} (hl : xs.length ≤ 1000000000000) : ∀ (r : List Int) (i : Nat), xs.drop i = r →
    Tot (fun k => spec_placeIn.l0 k xs v i) (fun t => t = posFrom r v i) := by
  intro r
  induction r with
  | nil =>
    intro i h
    have := drop_nil h
    exact Tot.step (fun _ => spec_placeIn.l0.eq_2 ..) (Tot.neg (by omega) (Tot.now rfl))
  | cons x r ih =>
    intro i h
    obtain ⟨h1, h2, h3⟩ := drop_cons h
    refine Tot.step (fun _ => spec_placeIn.l0.eq_2 ..) ?_
    rw [rd_at h3, w64s (by omega), posFrom]
    refine Tot.pos (by omega) (Tot.pos (by omega) (Tot.ite (fun h4 => ?_) (fun h4 => ?_)))
    · rw [if_pos h4]; exact Tot.now rfl
    · rw [if_neg h4]; exact ih (i + 1) h2
theorem placeIn_tot {xs : List Int} {v : Int} (hl : xs.length ≤ 1000000000000) : Tot (fun k => spec_placeIn.f k xs v) (fun t => t = posFrom xs v 0) := by
  unfold spec_placeIn.f
  exact placeIn_l0 hl xs 0 rfl
theorem getD_set_true {s : List Bool} {a b : Nat} (ha : a < s.length) : (s.set a true).getD b false = false ↔ b ≠ a ∧ s.getD b false = false := by
  simp only [List.getD_eq_getElem?_getD, List.getElem?_set]
  by_cases h : a = b
  · subst h; simp [ha]
  · rw [if_neg h]
    constructor
    · intro h2; exact ⟨fun e => h e.symm, h2⟩
    · intro h2; exact h2.2
theorem differentBelow_l0 {xs : List Int} {n : Int} (hl : xs.length ≤ 1000000000000) : ∀ (r : List Int) (i : Nat) (s : List Bool), xs.drop i = r → (s.length : Int) = n →
    Tot (fun k => impl_differentBelow.l0 k n s xs xs.length i) (fun t => t = decide ((∀ x ∈ r, (0 ≤ x ∧ x < n) ∧ s.getD x.toNat false = false) ∧ r.Nodup)) := by
  intro r
  induction r with
  | nil =>
    intro i s h hs
    have := drop_nil h
    exact Tot.step (fun _ => impl_differentBelow.l0.eq_2 ..) (Tot.neg (by omega) (Tot.now (by simp)))
  | cons x r ih =>
    intro i s h hs
    obtain ⟨h1, h2, h3⟩ := drop_cons h
    refine Tot.step (fun _ => impl_differentBelow.l0.eq_2 ..) ?_
    rw [rd_at h3, w64s (by omega)]
    refine Tot.pos (by omega) (Tot.pos (by omega) (Tot.pos (by omega) (Tot.ite (fun h4 => Tot.now ?_) (fun h4 => Tot.ite (fun h5 => Tot.now ?_) (fun h5 => Tot.pos (by omega) (Tot.pos (by omega) (Tot.ite (fun h6 => Tot.now ?_) (fun h6 => ?_))))))))
    · symm
      rw [decide_eq_false_iff_not]
      intro h7
      have := (h7.1 x (by simp)).1
      omega
    · symm
      rw [decide_eq_false_iff_not]
      intro h7
      have := (h7.1 x (by simp)).1
      omega
    · symm
      rw [decide_eq_false_iff_not]
      intro h7
      have h8 := (h7.1 x (by simp)).2
      rw [rdOf, h8] at h6
      cases h6
    · have h6' : s.getD x.toNat false = false := by
        rw [rdOf] at h6
        simpa using h6
      have hx : x.toNat < s.length := by omega
      refine (ih (i + 1) (s.set x.toNat true) h2 (by simp; omega)).mono ?_
      rintro t rfl
      rw [decide_eq_decide]
      constructor
      · rintro ⟨h9, h10⟩
        refine ⟨fun y hy => ?_, List.nodup_cons.2 ⟨fun hx2 => ?_, h10⟩⟩
        · rcases List.mem_cons.1 hy with rfl | hy
          · exact ⟨⟨by omega, by omega⟩, h6'⟩
          · exact ⟨(h9 y hy).1, ((getD_set_true hx).1 (h9 y hy).2).2⟩
        · exact ((getD_set_true hx).1 (h9 x hx2).2).1 rfl
      · rintro ⟨h9, h10⟩
        obtain ⟨h11, h12⟩ := List.nodup_cons.1 h10
        refine ⟨fun y hy => ⟨(h9 y (List.mem_cons_of_mem _ hy)).1, (getD_set_true hx).2 ⟨fun h13 => ?_, (h9 y (List.mem_cons_of_mem _ hy)).2⟩⟩, h12⟩
        have h14 := (h9 y (List.mem_cons_of_mem _ hy)).1
        have h15 : y = x := by omega
        exact h11 (h15 ▸ hy)
theorem differentBelow_tot {xs : List Int} {n : Int} (hl : xs.length ≤ 1000000000000) (hn : 0 ≤ n) (hn2 : n ≤ 1000000000000) : Tot (fun k => impl_differentBelow.f k xs n) (fun t => t = decide (DB xs n)) := by
  unfold impl_differentBelow.f
  refine Tot.ite (fun h => Tot.now ?_) (fun h => Tot.pos hn (Tot.pos (by omega) ?_))
  · symm
    rw [decide_eq_false_iff_not]
    intro h2
    have := h2.le hn
    omega
  · refine (differentBelow_l0 hl xs 0 _ rfl (by simp; omega)).mono ?_
    rintro t rfl
    rw [decide_eq_decide]
    have : ∀ j, (List.replicate n.toNat false).getD j false = false := by
      intro j
      simp only [List.getD_eq_getElem?_getD, List.getElem?_replicate]
      split <;> rfl
    simp only [this, and_true]
    exact Iff.rfl
theorem validMembers_l0 {xs : List Int} {n : Int} (hl : xs.length ≤ 1000000000000) (hn : 0 ≤ n) (hn2 : n ≤ 1000000000000) : ∀ (r : List Int) (i : Nat), xs.drop i = r →
    Tot (fun k => spec_validMembers.l0 k xs n i) (fun t => t = decide ((∀ x ∈ r, (0 ≤ x ∧ x < n) ∧ x ∉ xs.take i) ∧ r.Nodup)) := by
  intro r
  induction r with
  | nil =>
    intro i h
    have := drop_nil h
    exact Tot.step (fun _ => spec_validMembers.l0.eq_2 ..) (Tot.neg (by omega) (Tot.now (by simp)))
  | cons x r ih =>
    intro i h
    obtain ⟨h1, h2, h3⟩ := drop_cons h
    refine Tot.step (fun _ => spec_validMembers.l0.eq_2 ..) ?_
    rw [rd_at h3, w64s (by omega), w64 (x := n - 1) (by omega) (by omega), inRange_eq]
    simp only [Option.bind_some, decide_eq_true_eq]
    refine Tot.pos (by omega) (Tot.pos (by omega) (Tot.ite (fun h4 => Tot.pos (by omega) ?_) (fun h4 => Tot.now ?_)))
    · rw [Int.toNat_natCast]
      refine Tot.bind (placeIn_tot (by simp; omega)) ?_
      rintro t rfl
      refine Tot.ite (fun h5 => Tot.now ?_) (fun h5 => ?_)
      · have h6 := (posFrom_ge (l := xs.take i) (v := x) (Int.le_refl 0)).1 h5
        symm
        rw [decide_eq_false_iff_not]
        intro h7
        exact (h7.1 x (by simp)).2 h6
      · have h6 : x ∉ xs.take i := fun h7 => h5 ((posFrom_ge (l := xs.take i) (v := x) (Int.le_refl 0)).2 h7)
        refine (ih (i + 1) h2).mono ?_
        rintro t rfl
        have h8 : xs.take (i + 1) = xs.take i ++ [x] := by rw [List.take_add_one, h3]; rfl
        rw [h8, decide_eq_decide]
        constructor
        · rintro ⟨h9, h10⟩
          refine ⟨fun y hy => ?_, List.nodup_cons.2 ⟨fun hx => ?_, h10⟩⟩
          · rcases List.mem_cons.1 hy with rfl | hy
            · exact ⟨⟨h4.1, by omega⟩, h6⟩
            · exact ⟨(h9 y hy).1, fun h11 => (h9 y hy).2 (List.mem_append_left _ h11)⟩
          · exact (h9 x hx).2 (by simp)
        · rintro ⟨h9, h10⟩
          obtain ⟨h11, h12⟩ := List.nodup_cons.1 h10
          refine ⟨fun y hy => ⟨(h9 y (List.mem_cons_of_mem _ hy)).1, fun h13 => ?_⟩, h12⟩
          rcases List.mem_append.1 h13 with h13 | h13
          · exact (h9 y (List.mem_cons_of_mem _ hy)).2 h13
          · rw [List.mem_singleton] at h13
            exact h11 (h13 ▸ hy)
    · symm
      rw [decide_eq_false_iff_not]
      intro h7
      have := (h7.1 x (by simp)).1
      omega
theorem validMembers_tot {xs : List Int} {n : Int} (hl : xs.length ≤ 1000000000000) (hn : 0 ≤ n) (hn2 : n ≤ 1000000000000) : Tot (fun k => spec_validMembers.f k xs n) (fun t => t = decide (DB xs n)) := by
  unfold spec_validMembers.f
  refine (validMembers_l0 hl hn hn2 xs 0 rfl).mono ?_
  rintro t rfl
  rw [decide_eq_decide]
  simp [DB]
def VBid (bids : List Int) (p : Int) : Prop := ((1 ≤ (bids.length : Int) ∧ (bids.length : Int) ≤ 12) ∧ 0 ≤ p ∧ p ≤ 10000) ∧ ∀ x ∈ bids, -1 ≤ x ∧ x ≤ (bids.length : Int) * p
instance (bids : List Int) (p : Int) : Decidable (VBid bids p) := inferInstanceAs (Decidable (((1 ≤ (bids.length : Int) ∧ (bids.length : Int) ≤ 12) ∧ 0 ≤ p ∧ p ≤ 10000) ∧ ∀ x ∈ bids, -1 ≤ x ∧ x ≤ (bids.length : Int) * p))
def win (bids done : List Int) : List Int → Nat → Int → Int
  | [], _, b => b
  | x :: r, i, b => if (i : Int) ∈ done then win bids done r (i + 1) b else if b < 0 then win bids done r (i + 1) i else if x > rd bids b then win bids done r (i + 1) i else win bids done r (i + 1) b
theorem implVBid_tot {bids : List Int} {p : Int} (hl : bids.length ≤ 1000000000) : Tot (fun k => impl_validBids.f k bids p) (fun t => t = decide (VBid bids p)) := by
  unfold impl_validBids.f
  rw [potOf_eq]
  simp only [Option.bind_some]
  by_cases h : (1 ≤ (bids.length : Int) ∧ (bids.length : Int) ≤ 12) ∧ 0 ≤ p ∧ p ≤ 10000
  · have hr := pot_range h.1.1 h.1.2 h.2.1 h.2.2
    rw [if_pos h]
    refine Tot.pos hr.1 ?_
    refine Tot.bind (allWithin_tot (by omega)) ?_
    rintro _ rfl
    refine Tot.now ?_
    rw [decide_eq_decide]
    exact ⟨fun h2 => ⟨h, h2⟩, fun h2 => h2.2⟩
  · rw [if_neg h]
    exact Tot.neg (by omega) (Tot.now (dfalse fun h2 => h h2.1))
theorem specVBid_tot {bids : List Int} {p : Int} (hl : bids.length ≤ 1000000000) : Tot (fun k => spec_validBids.f k bids p) (fun t => t = decide (VBid bids p)) := by
  unfold spec_validBids.f
  simp only [inRange_eq, Option.bind_some, decide_eq_true_eq]
  refine Tot.ite (fun h1 => Tot.ite (fun h2 => ?_) (fun h2 => Tot.now (dfalse fun h3 => h2 h3.1.2))) (fun h1 => Tot.now (dfalse fun h3 => h1 h3.1.1))
  have hr := pot_range h1.1 h1.2 h2.1 h2.2
  rw [w64 (x := (bids.length : Int) * p) (by omega) (by omega)]
  refine Tot.bind (allIn_tot (by omega)) ?_
  rintro _ rfl
  refine Tot.now ?_
  rw [decide_eq_decide]
  exact ⟨fun h3 => ⟨⟨h1, h2⟩, h3⟩, fun h3 => h3.2⟩
theorem implWin_l0 {bids done : List Int} (hl : bids.length ≤ 12) (hd : done.length ≤ 1000000000) : ∀ (r : List Int) (i : Nat) (b : Int), bids.drop i = r → -1 ≤ b → b < i →
    Tot (fun k => impl_WinnerOf.l0 k bids done b bids bids.length i) (fun t => t = win bids done r i b) := by
  intro r
  induction r with
  | nil =>
    intro i b h _ _
    have := drop_nil h
    exact Tot.step (fun _ => impl_WinnerOf.l0.eq_2 ..) (Tot.neg (by omega) (Tot.now rfl))
  | cons x r ih =>
    intro i b h hb hb2
    obtain ⟨h1, h2, h3⟩ := drop_cons h
    refine Tot.step (fun _ => impl_WinnerOf.l0.eq_2 ..) ?_
    rw [rd_at h3, w64s (by omega), win]
    refine Tot.pos (by omega) (Tot.pos (by omega) (Tot.pos (by omega) ?_))
    unfold slices_Contains_int_int.f
    refine Tot.bind (P := fun t => t = decide ((i : Int) ∈ done)) (Tot.bind (index_tot (by omega)) ?_) ?_
    · rintro _ rfl
      refine Tot.now ?_
      rw [decide_eq_decide]
      exact posFrom_ge (Int.le_refl 0)
    rintro _ rfl
    simp only [decide_eq_true_eq]
    refine Tot.ite (fun g => ?_) (fun g => Tot.ite (fun g2 => ?_) (fun g2 => Tot.pos (by omega) (Tot.pos (by omega) (Tot.ite (fun g3 => ?_) (fun g3 => ?_)))))
    · rw [if_pos g]; exact ih (i + 1) b h2 hb (by omega)
    · rw [if_neg g, if_pos g2]; exact ih (i + 1) i h2 (by omega) (by omega)
    · rw [if_neg g, if_neg g2, if_pos g3]; exact ih (i + 1) i h2 (by omega) (by omega)
    · rw [if_neg g, if_neg g2, if_neg g3]; exact ih (i + 1) b h2 hb (by omega)
theorem specWin_l0 {bids done : List Int} (hl : bids.length ≤ 12) (hd : done.length ≤ 1000000000) : ∀ (r : List Int) (i : Nat) (b : Int), bids.drop i = r → -1 ≤ b → b < i →
    Tot (fun k => spec_winner.l0 k bids done b i) (fun t => t = win bids done r i b) := by
  intro r
  induction r with
  | nil =>
    intro i b h _ _
    have := drop_nil h
    exact Tot.step (fun _ => spec_winner.l0.eq_2 ..) (Tot.neg (by omega) (Tot.now rfl))
  | cons x r ih =>
    intro i b h hb hb2
    obtain ⟨h1, h2, h3⟩ := drop_cons h
    refine Tot.step (fun _ => spec_winner.l0.eq_2 ..) ?_
    rw [rd_at h3, w64s (by omega), win]
    refine Tot.pos (by omega) ?_
    refine Tot.bind (placeIn_tot (by omega)) ?_
    rintro _ rfl
    have hp := posFrom_ge (l := done) (v := (i : Int)) (Int.le_refl 0)
    refine Tot.ite (fun g => Tot.ite (fun g2 => ?_) (fun g2 => Tot.pos (by omega) (Tot.pos (by omega) (Tot.pos (by omega) (Tot.ite (fun g3 => ?_) (fun g3 => ?_)))))) (fun g => ?_)
    · have g' : ¬ (i : Int) ∈ done := fun h4 => by have := hp.2 h4; omega
      rw [if_neg g', if_pos g2]; exact ih (i + 1) i h2 (by omega) (by omega)
    · have g' : ¬ (i : Int) ∈ done := fun h4 => by have := hp.2 h4; omega
      rw [if_neg g', if_neg g2, if_pos g3]; exact ih (i + 1) i h2 (by omega) (by omega)
    · have g' : ¬ (i : Int) ∈ done := fun h4 => by have := hp.2 h4; omega
      rw [if_neg g', if_neg g2, if_neg g3]; exact ih (i + 1) b h2 hb (by omega)
    · rw [if_pos (hp.1 (by omega))]; exact ih (i + 1) b h2 hb (by omega)
theorem implWinnerOf_tot {bids done : List Int} {p : Int} (hl : bids.length ≤ 1000000000) (hd : done.length ≤ 1000000000) : Tot (fun k => impl_WinnerOf.f k bids p done) (fun t => t = if VBid bids p ∧ DB done bids.length then win bids done bids 0 (-1) else -1) := by
  unfold impl_WinnerOf.f
  refine Tot.bind (implVBid_tot hl) ?_
  rintro _ rfl
  simp only [decide_eq_true_eq]
  refine Tot.ite (fun h => ?_) (fun h => Tot.step (fun _ => impl_WinnerOf.j0.eq_2 ..) (Tot.pos rfl ?_))
  · refine Tot.bind (differentBelow_tot (by omega) (by omega) (by omega)) ?_
    rintro _ rfl
    refine Tot.step (fun _ => impl_WinnerOf.j0.eq_2 ..) ?_
    by_cases h2 : DB done bids.length
    · rw [if_pos ⟨h, h2⟩]
      have := h.1.1.2
      exact Tot.neg (by simp [h2]) (implWin_l0 (by omega) hd bids 0 (-1) rfl (by omega) (by omega))
    · rw [if_neg (fun h3 => h2 h3.2)]
      exact Tot.pos (by simp [h2]) (Tot.now rfl)
  · rw [if_neg (fun h3 => h h3.1)]; exact Tot.now rfl
theorem specWinnerOf_tot {bids done : List Int} {p : Int} (hl : bids.length ≤ 1000000000) (hd : done.length ≤ 1000000000) : Tot (fun k => spec_WinnerOf.f k bids p done) (fun t => t = if VBid bids p ∧ DB done bids.length then win bids done bids 0 (-1) else -1) := by
  unfold spec_WinnerOf.f
  refine Tot.bind (specVBid_tot hl) ?_
  rintro _ rfl
  simp only [decide_eq_true_eq]
  refine Tot.ite (fun h => ?_) (fun h => ?_)
  · refine Tot.bind (validMembers_tot (by omega) (by omega) (by omega)) ?_
    rintro _ rfl
    simp only [decide_eq_true_eq]
    refine Tot.ite (fun h2 => ?_) (fun h2 => ?_)
    · rw [if_pos ⟨h, h2⟩]
      have := h.1.1.2
      unfold spec_winner.f
      refine Tot.bind (specWin_l0 (by omega) hd bids 0 (-1) rfl (by omega) (by omega)) ?_
      rintro _ rfl
      exact Tot.now rfl
    · rw [if_neg (fun h3 => h2 h3.2)]; exact Tot.now rfl
  · rw [if_neg (fun h3 => h h3.1)]; exact Tot.now rfl
theorem toIntS_l0 {xs : List Int} (hl : xs.length ≤ 1000000000000) : ∀ (d i : Nat), i + d = xs.length →
    Tot (fun k => laws_toIntS.l0 k xs (xs.take i ++ List.replicate d 0) i) (fun t => t = xs) := by
  intro d
  induction d with
  | zero =>
    intro i hi
    exact Tot.step (fun _ => laws_toIntS.l0.eq_2 ..) (Tot.neg (by omega) (Tot.now (by rw [List.replicate_zero, List.append_nil]; exact List.take_of_length_le (by omega))))
  | succ d ih =>
    intro i hi
    refine Tot.step (fun _ => laws_toIntS.l0.eq_2 ..) ?_
    rw [rd_get (by omega), w64s (by omega), Int.toNat_natCast, set_fill (by omega)]
    exact Tot.pos (by omega) (Tot.pos (by omega) (Tot.pos (by rw [List.length_append, List.length_replicate, List.length_take]; omega) (ih (i + 1) (by omega))))
theorem toIntS_tot {xs : List Int} (hl : xs.length ≤ 1000000000000) : Tot (fun k => laws_toIntS.f k xs) (fun t => t = xs) := by
  unfold laws_toIntS.f
  refine Tot.pos (by omega) (Tot.pos (by omega) ?_)
  rw [Int.toNat_natCast]
  have := toIntS_l0 hl xs.length 0 (by omega)
  rw [List.take_zero, List.nil_append] at this
  exact this
theorem eqIntS_l0 {a b : List Int} (hl : a.length = b.length) (ha : a.length ≤ 1000000000000) : ∀ (r s : List Int) (i : Nat), a.drop i = r → b.drop i = s →
    Tot (fun k => laws_eqIntS.l0 k a b i) (fun t => t = decide (r = s)) := by
  intro r
  induction r with
  | nil =>
    intro s i h h2
    have h3 := drop_nil h
    have h4 : s = [] := by rw [← h2]; exact List.drop_eq_nil_of_le (by omega)
    exact Tot.step (fun _ => laws_eqIntS.l0.eq_2 ..) (Tot.neg (by omega) (Tot.now (by simp [h4])))
  | cons x r ih =>
    intro s i h h2
    obtain ⟨h3, h4, h5⟩ := drop_cons h
    cases s with
    | nil => have := drop_nil h2; omega
    | cons y s =>
      obtain ⟨g3, g4, g5⟩ := drop_cons h2
      refine Tot.step (fun _ => laws_eqIntS.l0.eq_2 ..) ?_
      rw [rd_at h5, rd_at g5, w64s (by omega)]
      refine Tot.pos (by omega) (Tot.pos (by omega) (Tot.pos (by omega) (Tot.ite (fun e => ?_) (fun e => Tot.now (by simp [e])))))
      refine (ih s (i + 1) h4 g4).mono ?_
      rintro t rfl
      simp [e]
theorem eqIntS_tot {a b : List Int} (ha : a.length ≤ 1000000000000) : Tot (fun k => laws_eqIntS.f k a b) (fun t => t = decide (a = b)) := by
  unfold laws_eqIntS.f
  refine Tot.ite (fun h => ?_) (fun h => Tot.now ?_)
  · exact eqIntS_l0 (by omega) ha a b 0 rfl rfl
  · symm
    rw [decide_eq_false_iff_not]
    rintro rfl
    exact h rfl
theorem FnExactWinnerOf : laws_FnExactWinnerOf.Pure := by
  intro l p d hl hl2 hw hp hd hd2 hw2
  refine Tot.ends (g := fun k => laws_FnExactWinnerOf.f k l p d) ?_
  unfold laws_FnExactWinnerOf.f
  refine Tot.ite (fun _ => Tot.now rfl) (fun h0 => Tot.ite (fun _ => Tot.now rfl) (fun h1 => ?_))
  refine Tot.bind (toIntS_tot (by omega)) ?_
  rintro _ rfl
  refine Tot.bind (toIntS_tot (by omega)) ?_
  rintro _ rfl
  refine Tot.bind (specWinnerOf_tot (by omega) (by omega)) ?_
  rintro _ rfl
  refine Tot.bind (toIntS_tot (by omega)) ?_
  rintro _ rfl
  refine Tot.bind (toIntS_tot (by omega)) ?_
  rintro _ rfl
  refine Tot.bind (implWinnerOf_tot (by omega) (by omega)) ?_
  rintro _ rfl
  refine Tot.pos rfl ?_
  refine Tot.bind (toIntS_tot (by omega)) ?_
  rintro _ rfl
  refine Tot.bind (eqIntS_tot (by omega)) ?_
  rintro _ rfl
  refine Tot.pos (by simp) ?_
  refine Tot.bind (toIntS_tot (by omega)) ?_
  rintro _ rfl
  refine Tot.bind (eqIntS_tot (by omega)) ?_
  rintro _ rfl
  exact Tot.pos (by simp) (Tot.now rfl)
end Go.Proofs.Ytdcapmgebjifpaa.Pure
