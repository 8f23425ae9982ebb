/- FnExactValidLoans: for all arguments ValidLoans of the program and of the reference agree, and the arguments are left as they were. No condition beyond the statement's own. -/
import Derived.Test.YtdcapmgebjifpaaQFnExactValidLoansx4
import Derived.Test.YtdcapmgebjifpaaCore
namespace Go.Proofs.Ytdcapmgebjifpaa.Pure
open Go.RowKit Go.Proofs.Ytdcapmgebjifpaa.PFnExactValidLoans Go.Proofs.YtdcapmgebjifpaaW.PrintWords
set_option linter.unusedSimpArgs false
set_option linter.unusedVariables false

def sumL : List Int → Int
  | [] => 0
  | x :: r => x + sumL r
theorem sumL_bound {l : List Int} (h : ∀ x ∈ l, 0 ≤ x ∧ x ≤ 1000000) : 0 ≤ sumL l ∧ sumL l ≤ 1000000 * l.length := by
  induction l with
  | nil => simp [sumL]
  | cons x r ih =>
    have h1 := ih (fun y hy => h y (List.mem_cons_of_mem _ hy))
    have h2 := h x (by simp)
    simp only [sumL, List.length_cons]
    omega
/-- A valid body. -/
def VB (ws : List Int) (need : Int) : Prop := (1 ≤ ws.length ∧ ws.length ≤ 12) ∧ (∀ w ∈ ws, 0 ≤ w ∧ w ≤ 100) ∧ 1 ≤ need ∧ need ≤ sumL ws
instance (ws : List Int) (need : Int) : Decidable (VB ws need) := inferInstanceAs (Decidable ((1 ≤ ws.length ∧ ws.length ≤ 12) ∧ (∀ w ∈ ws, 0 ≤ w ∧ w ≤ 100) ∧ 1 ≤ need ∧ need ≤ sumL ws))
theorem dfalse {p : Prop} {i : Decidable p} (h : ¬ p) : false = @decide p i := by
  symm; rw [decide_eq_false_iff_not]; exact h
theorem dtrue {p : Prop} {i : Decidable p} (h : p) : true = @decide p i := by
  symm; rw [decide_eq_true_iff]; exact h
/-! loans -/
abbrev Ln := S92
def LO (n : Int) (e : Ln) : Prop := (0 ≤ e.f0 ∧ e.f0 < n) ∧ (1 ≤ e.f1 ∧ e.f1 ≤ 100000) ∧ 1 ≤ e.f2.length ∧ DB e.f2 n ∧ e.f0 ∉ e.f2
instance (n : Int) (e : Ln) : Decidable (LO n e) := inferInstanceAs (Decidable ((0 ≤ e.f0 ∧ e.f0 < n) ∧ (1 ≤ e.f1 ∧ e.f1 ≤ 100000) ∧ 1 ≤ e.f2.length ∧ DB e.f2 n ∧ e.f0 ∉ e.f2))
def LV (l : List Ln) (n : Int) : Prop := ((l.length : Int) ≤ 16 ∧ 1 ≤ n ∧ n ≤ 12) ∧ ∀ e ∈ l, LO n e
instance (l : List Ln) (n : Int) : Decidable (LV l n) := inferInstanceAs (Decidable (((l.length : Int) ≤ 16 ∧ 1 ≤ n ∧ n ≤ 12) ∧ ∀ e ∈ l, LO n e))
theorem rdLn_at {l : List Ln} {i : Nat} {r : Ln} (h : l[i]? = some r) : rd_T92 l (i : Int) = r := by
  simp [rd_T92, List.getD_eq_getElem?_getD, h]
theorem inRange_eq (a b c : Int) : spec_inRange.f a b c = some (decide (b ≤ a ∧ a ≤ c)) := by
  unfold spec_inRange.f
  by_cases h : b ≤ a
  · rw [if_pos h]; simp [h]
  · rw [if_neg h]; simp [h]
theorem placeIn_l0 {xs : List Int} {v : Int} (hl : xs.length ≤ 1000000000000) : ∀ (r : List Int) (i : Nat), xs.drop i = r →
    Tot (fun k => spec_placeIn.l0 k xs v i) (fun t => t = posFrom r v i) := by
  intro r
  induction r with
  | nil =>
    intro i h
    have := drop_nil h
    exact Tot.step (fun _ => spec_placeIn.l0.eq_2 ..) (Tot.neg (by omega) (Tot.now rfl))
  | cons x r ih =>
    intro i h
    obtain ⟨h1, h2, h3⟩ := drop_cons h
    refine Tot.step (fun _ => spec_placeIn.l0.eq_2 ..) ?_
    rw [rd_at h3, w64s (by omega), posFrom]
    refine Tot.pos (by omega) (Tot.pos (by omega) (Tot.ite (fun h4 => ?_) (fun h4 => ?_)))
    · rw [if_pos h4]; exact Tot.now rfl
    · rw [if_neg h4]; exact ih (i + 1) h2
theorem placeIn_tot {xs : List Int} {v : Int} (hl : xs.length ≤ 1000000000000) : Tot (fun k => spec_placeIn.f k xs v) (fun t => t = posFrom xs v 0) := by
  unfold spec_placeIn.f
  exact placeIn_l0 hl xs 0 rfl
theorem validMembers_l0 {xs : List Int} {n : Int} (hl : xs.length ≤ 1000000000000) (hn : 0 ≤ n) (hn2 : n ≤ 1000000000000) : ∀ (r : List Int) (i : Nat), xs.drop i = r →
    Tot (fun k => spec_validMembers.l0 k xs n i) (fun t => t = decide ((∀ x ∈ r, (0 ≤ x ∧ x < n) ∧ x ∉ xs.take i) ∧ r.Nodup)) := by
  intro r
  induction r with
  | nil =>
    intro i h
    have := drop_nil h
    exact Tot.step (fun _ => spec_validMembers.l0.eq_2 ..) (Tot.neg (by omega) (Tot.now (by simp)))
  | cons x r ih =>
    intro i h
    obtain ⟨h1, h2, h3⟩ := drop_cons h
    refine Tot.step (fun _ => spec_validMembers.l0.eq_2 ..) ?_
    rw [rd_at h3, w64s (by omega), w64 (x := n - 1) (by omega) (by omega), inRange_eq]
    simp only [Option.bind_some, decide_eq_true_eq]
    refine Tot.pos (by omega) (Tot.pos (by omega) (Tot.ite (fun h4 => Tot.pos (by omega) ?_) (fun h4 => Tot.now ?_)))
    · rw [Int.toNat_natCast]
      refine Tot.bind (placeIn_tot (by simp; omega)) ?_
      rintro t rfl
      refine Tot.ite (fun h5 => Tot.now ?_) (fun h5 => ?_)
      · have h6 := (posFrom_ge (l := xs.take i) (v := x) (Int.le_refl 0)).1 h5
        symm
        rw [decide_eq_false_iff_not]
        intro h7
        exact (h7.1 x (by simp)).2 h6
      · have h6 : x ∉ xs.take i := fun h7 => h5 ((posFrom_ge (l := xs.take i) (v := x) (Int.le_refl 0)).2 h7)
        refine (ih (i + 1) h2).mono ?_
        rintro t rfl
        have h8 : xs.take (i + 1) = xs.take i ++ [x] := by rw [List.take_add_one, h3]; rfl
        rw [h8, decide_eq_decide]
        constructor
        · rintro ⟨h9, h10⟩
          refine ⟨fun y hy => ?_, List.nodup_cons.2 ⟨fun hx => ?_, h10⟩⟩
          · rcases List.mem_cons.1 hy with rfl | hy
            · exact ⟨⟨h4.1, by omega⟩, h6⟩
            · exact ⟨(h9 y hy).1, fun h11 => (h9 y hy).2 (List.mem_append_left _ h11)⟩
          · exact (h9 x hx).2 (by simp)
        · rintro ⟨h9, h10⟩
          obtain ⟨h11, h12⟩ := List.nodup_cons.1 h10
          refine ⟨fun y hy => ⟨(h9 y (List.mem_cons_of_mem _ hy)).1, fun h13 => ?_⟩, h12⟩
          rcases List.mem_append.1 h13 with h13 | h13
          · exact (h9 y (List.mem_cons_of_mem _ hy)).2 h13
          · rw [List.mem_singleton] at h13
            exact h11 (h13 ▸ hy)
    · symm
      rw [decide_eq_false_iff_not]
      intro h7
      have := (h7.1 x (by simp)).1
      omega
theorem validMembers_tot {xs : List Int} {n : Int} (hl : xs.length ≤ 1000000000000) (hn : 0 ≤ n) (hn2 : n ≤ 1000000000000) : Tot (fun k => spec_validMembers.f k xs n) (fun t => t = decide (DB xs n)) := by
  unfold spec_validMembers.f
  refine (validMembers_l0 hl hn hn2 xs 0 rfl).mono ?_
  rintro t rfl
  rw [decide_eq_decide]
  simp [DB]
theorem Tot.bindv {α β : Type} {g : Nat → Option α} {F : Nat → α → Option β} {v : α} {Q : β → Prop} (h : Tot g (fun t => t = v)) (h2 : Tot (fun k => F k v) Q) : Tot (fun k => (g k).bind (F k)) Q :=
  Tot.bind h (fun a ha => by rw [ha]; exact h2)
theorem validMembers_any {xs : List Int} {n : Int} (hl : xs.length ≤ 1000000000000) : ∀ (r : List Int) (i : Nat), xs.drop i = r → Tot (fun k => spec_validMembers.l0 k xs n i) (fun _ => True) := by
  intro r
  induction r with
  | nil =>
    intro i h
    have := drop_nil h
    exact Tot.step (fun _ => spec_validMembers.l0.eq_2 ..) (Tot.neg (by omega) (Tot.now trivial))
  | cons x r ih =>
    intro i h
    obtain ⟨h1, h2, h3⟩ := drop_cons h
    refine Tot.step (fun _ => spec_validMembers.l0.eq_2 ..) ?_
    rw [rd_at h3, inRange_eq, w64s (by omega)]
    refine Tot.pos (by omega) (Tot.pos (by omega) (Tot.known (Tot.ite (fun _ => Tot.pos (by omega) (Tot.bindv (placeIn_tot (by rw [List.length_take]; omega)) (Tot.ite (fun _ => Tot.now trivial) (fun _ => ih (i + 1) h2)))) (fun _ => Tot.now trivial))))
theorem specLoans_l0 {l : List Ln} {n : Int} (hl : l.length ≤ 1048576) (hw : ∀ e ∈ l, e.f2.length ≤ 1048576) (hn : 1 ≤ n ∧ n ≤ 12) : ∀ (r : List Ln) (i : Nat), l.drop i = r →
    Tot (fun k => spec_validLoans.l0 k l n i) (fun t => t = decide (((l.length : Int) ≤ 16 ∧ 1 ≤ n ∧ n ≤ 12) ∧ ∀ e ∈ r, LO n e)) := by
  intro r
  induction r with
  | nil =>
    intro i h
    have := drop_nil h
    refine Tot.step (fun _ => spec_validLoans.l0.eq_2 ..) (Tot.neg (by omega) (Tot.ite (fun h1 => ?_) (fun h1 => Tot.now (dfalse fun h2 => h1 h2.1.1))))
    rw [inRange_eq]
    refine Tot.known (Tot.now ?_)
    rw [decide_eq_decide]
    exact ⟨fun h => ⟨⟨h1, h⟩, fun x hx => by cases hx⟩, fun h => h.1.2⟩
  | cons e r ih =>
    intro i h
    obtain ⟨h1, h2, h3⟩ := drop_cons h
    have hx := hw e (List.mem_of_getElem? h3)
    refine Tot.step (fun _ => spec_validLoans.l0.eq_2 ..) ?_
    rw [rdLn_at h3, w64s (by omega), w64 (x := n - 1) (by omega) (by omega), inRange_eq, inRange_eq]
    have no : ∀ {p : Prop}, (LO n e → p) → ¬ p → Tot (fun _ : Nat => some false) (fun t => t = decide (((l.length : Int) ≤ 16 ∧ 1 ≤ n ∧ n ≤ 12) ∧ ∀ x ∈ e :: r, LO n x)) := fun h hp => Tot.now (dfalse fun h2 => hp (h (h2.2 e (by simp))))
    refine Tot.pos (by omega) (Tot.pos (by omega) (Tot.known (Tot.ite (fun a1 => ?_) (fun a1 => no (fun h => (show 0 ≤ e.f0 ∧ e.f0 ≤ n - 1 by have := h.1; omega)) (by simpa using a1)))))
    refine Tot.known (Tot.ite (fun a2 => ?_) (fun a2 => no (fun h => h.2.1) (by simpa using a2)))
    refine Tot.ite (fun a3 => no (fun h => h.2.2.1) (by omega)) (fun a3 => ?_)
    refine Tot.bindv (validMembers_tot (by omega) (by omega) (by omega)) (Tot.ite (fun a4 => ?_) (fun a4 => no (fun h => h.2.2.2.1) (by simpa using a4)))
    refine Tot.bindv (placeIn_tot (by omega)) (Tot.ite (fun a5 => no (fun h => h.2.2.2.2) (fun hn => hn ((posFrom_ge (by omega)).1 a5))) (fun a5 => ?_))
    have a1 := of_decide_eq_true a1
    have hLO : LO n e := ⟨by omega, of_decide_eq_true a2, by omega, of_decide_eq_true a4, fun hm => a5 ((posFrom_ge (by omega)).2 hm)⟩
    refine (ih (i + 1) h2).mono ?_
    rintro t rfl
    rw [decide_eq_decide]
    simp only [List.mem_cons, forall_eq_or_imp]
    exact ⟨fun h => ⟨h.1, hLO, h.2⟩, fun h => ⟨h.1, h.2.2⟩⟩
theorem specLoans_bad {l : List Ln} {n : Int} (hl : l.length ≤ 1048576) (hw : ∀ e ∈ l, e.f2.length ≤ 1048576) (hn : ¬ (1 ≤ n ∧ n ≤ 12)) : ∀ (r : List Ln) (i : Nat), l.drop i = r →
    Tot (fun k => spec_validLoans.l0 k l n i) (fun t => t = false) := by
  intro r
  induction r with
  | nil =>
    intro i h
    have := drop_nil h
    refine Tot.step (fun _ => spec_validLoans.l0.eq_2 ..) (Tot.neg (by omega) (Tot.ite (fun h1 => ?_) (fun h1 => Tot.now rfl)))
    rw [inRange_eq]
    exact Tot.known (Tot.now (decide_eq_false hn))
  | cons e r ih =>
    intro i h
    obtain ⟨h1, h2, h3⟩ := drop_cons h
    have hx := hw e (List.mem_of_getElem? h3)
    refine Tot.step (fun _ => spec_validLoans.l0.eq_2 ..) ?_
    rw [rdLn_at h3, w64s (by omega), inRange_eq, inRange_eq]
    refine Tot.pos (by omega) (Tot.pos (by omega) (Tot.known (Tot.ite (fun a1 => Tot.known (Tot.ite (fun a2 => Tot.ite (fun a3 => Tot.now rfl) (fun a3 => ?_)) (fun a2 => Tot.now rfl))) (fun a1 => Tot.now rfl))))
    refine Tot.bind (P := fun _ => True) (by unfold spec_validMembers.f; exact validMembers_any (by omega) e.f2 0 rfl) ?_
    intro t _
    exact Tot.ite (fun _ => Tot.bindv (placeIn_tot (by omega)) (Tot.ite (fun _ => Tot.now rfl) (fun _ => ih (i + 1) h2))) (fun _ => Tot.now rfl)
theorem specLoans_tot {l : List Ln} {n : Int} (hl : l.length ≤ 1048576) (hw : ∀ e ∈ l, e.f2.length ≤ 1048576) : Tot (fun k => spec_validLoans.f k l n) (fun t => t = decide (LV l n)) := by
  unfold spec_validLoans.f
  by_cases hn : 1 ≤ n ∧ n ≤ 12
  · exact specLoans_l0 hl hw hn l 0 rfl
  · refine (specLoans_bad hl hw hn l 0 rfl).mono ?_
    rintro t rfl
    exact dfalse fun h => hn h.1.2
theorem getD_set_true {s : List Bool} {a b : Nat} (ha : a < s.length) : (s.set a true).getD b false = false ↔ b ≠ a ∧ s.getD b false = false := by
  simp only [List.getD_eq_getElem?_getD, List.getElem?_set]
  by_cases h : a = b
  · subst h; simp [ha]
  · rw [if_neg h]
    constructor
    · intro h2; exact ⟨fun e => h e.symm, h2⟩
    · intro h2; exact h2.2
theorem differentBelow_l0 {xs : List Int} {n : Int} (hl : xs.length ≤ 1000000000000) : ∀ (r : List Int) (i : Nat) (s : List Bool), xs.drop i = r → (s.length : Int) = n →
    Tot (fun k => impl_differentBelow.l0 k n s xs xs.length i) (fun t => t = decide ((∀ x ∈ r, (0 ≤ x ∧ x < n) ∧ s.getD x.toNat false = false) ∧ r.Nodup)) := by
  intro r
  induction r with
  | nil =>
    intro i s h hs
    have := drop_nil h
    exact Tot.step (fun _ => impl_differentBelow.l0.eq_2 ..) (Tot.neg (by omega) (Tot.now (by simp)))
  | cons x r ih =>
    intro i s h hs
    obtain ⟨h1, h2, h3⟩ := drop_cons h
    refine Tot.step (fun _ => impl_differentBelow.l0.eq_2 ..) ?_
    rw [rd_at h3, w64s (by omega)]
    refine Tot.pos (by omega) (Tot.pos (by omega) (Tot.pos (by omega) (Tot.ite (fun h4 => Tot.now ?_) (fun h4 => Tot.ite (fun h5 => Tot.now ?_) (fun h5 => Tot.pos (by omega) (Tot.pos (by omega) (Tot.ite (fun h6 => Tot.now ?_) (fun h6 => ?_))))))))
    · symm
      rw [decide_eq_false_iff_not]
      intro h7
      have := (h7.1 x (by simp)).1
      omega
    · symm
      rw [decide_eq_false_iff_not]
      intro h7
      have := (h7.1 x (by simp)).1
      omega
    · symm
      rw [decide_eq_false_iff_not]
      intro h7
      have h8 := (h7.1 x (by simp)).2
      rw [rdOf, h8] at h6
      cases h6
    · have h6' : s.getD x.toNat false = false := by
        rw [rdOf] at h6
        simpa using h6
      have hx : x.toNat < s.length := by omega
      refine (ih (i + 1) (s.set x.toNat true) h2 (by simp; omega)).mono ?_
      rintro t rfl
      rw [decide_eq_decide]
      constructor
      · rintro ⟨h9, h10⟩
        refine ⟨fun y hy => ?_, List.nodup_cons.2 ⟨fun hx2 => ?_, h10⟩⟩
        · rcases List.mem_cons.1 hy with rfl | hy
          · exact ⟨⟨by omega, by omega⟩, h6'⟩
          · exact ⟨(h9 y hy).1, ((getD_set_true hx).1 (h9 y hy).2).2⟩
        · exact ((getD_set_true hx).1 (h9 x hx2).2).1 rfl
      · rintro ⟨h9, h10⟩
        obtain ⟨h11, h12⟩ := List.nodup_cons.1 h10
        refine ⟨fun y hy => ⟨(h9 y (List.mem_cons_of_mem _ hy)).1, (getD_set_true hx).2 ⟨fun h13 => ?_, (h9 y (List.mem_cons_of_mem _ hy)).2⟩⟩, h12⟩
        have h14 := (h9 y (List.mem_cons_of_mem _ hy)).1
        have h15 : y = x := by omega
        exact h11 (h15 ▸ hy)
theorem differentBelow_tot {xs : List Int} {n : Int} (hl : xs.length ≤ 1000000000000) (hn : 0 ≤ n) (hn2 : n ≤ 1000000000000) : Tot (fun k => impl_differentBelow.f k xs n) (fun t => t = decide (DB xs n)) := by
  unfold impl_differentBelow.f
  refine Tot.ite (fun h => Tot.now ?_) (fun h => Tot.pos hn (Tot.pos (by omega) ?_))
  · symm
    rw [decide_eq_false_iff_not]
    intro h2
    have := h2.le hn
    omega
  · refine (differentBelow_l0 hl xs 0 _ rfl (by simp; omega)).mono ?_
    rintro t rfl
    rw [decide_eq_decide]
    have : ∀ j, (List.replicate n.toNat false).getD j false = false := by
      intro j
      simp only [List.getD_eq_getElem?_getD, List.getElem?_replicate]
      split <;> rfl
    simp only [this, and_true]
    exact Iff.rfl
theorem index_l0 {xs : List Int} {v : Int} (hl : xs.length ≤ 1000000000000) : ∀ (r : List Int) (i : Nat), xs.drop i = r →
    Tot (fun k => slices_Index_int_int.l0 k xs v xs.length i) (fun t => t = posFrom r v i) := by
  intro r
  induction r with
  | nil =>
    intro i h
    have := drop_nil h
    exact Tot.step (fun _ => slices_Index_int_int.l0.eq_2 ..) (Tot.neg (by omega) (Tot.now rfl))
  | cons x r ih =>
    intro i h
    obtain ⟨h1, h2, h3⟩ := drop_cons h
    refine Tot.step (fun _ => slices_Index_int_int.l0.eq_2 ..) ?_
    rw [rd_at h3, w64s (by omega), posFrom]
    refine Tot.pos (by omega) (Tot.pos (by omega) (Tot.pos (by omega) (Tot.ite (fun h4 => ?_) (fun h4 => ?_))))
    · rw [if_pos h4.symm]; exact Tot.now rfl
    · rw [if_neg (fun e => h4 e.symm)]; exact ih (i + 1) h2
theorem index_tot {xs : List Int} {v : Int} (hl : xs.length ≤ 1000000000000) : Tot (fun k => slices_Index_int_int.f k xs v) (fun t => t = posFrom xs v 0) := by
  unfold slices_Index_int_int.f
  exact index_l0 hl xs 0 rfl
theorem implLoans_l0 {l : List Ln} {n : Int} (hl : l.length ≤ 1048576) (hw : ∀ e ∈ l, e.f2.length ≤ 1048576) (hn : 1 ≤ n ∧ n ≤ 12) : ∀ (r : List Ln) (i : Nat), l.drop i = r →
    Tot (fun k => impl_ValidLoans.l0 k n l l.length i) (fun t => t = decide (∀ e ∈ r, LO n e)) := by
  intro r
  induction r with
  | nil =>
    intro i h
    have := drop_nil h
    exact Tot.step (fun _ => impl_ValidLoans.l0.eq_2 ..) (Tot.neg (by omega) (Tot.now (by simp)))
  | cons e r ih =>
    intro i h
    obtain ⟨h1, h2, h3⟩ := drop_cons h
    have hx := hw e (List.mem_of_getElem? h3)
    refine Tot.step (fun _ => impl_ValidLoans.l0.eq_2 ..) ?_
    rw [rdLn_at h3]
    have bad : ¬ LO n e → Tot (fun k => impl_ValidLoans.j2 k n l l.length i true e.f0 e.f1 e.f2) (fun t => t = decide (∀ x ∈ e :: r, LO n x)) := fun hp =>
      Tot.step (fun _ => impl_ValidLoans.j2.eq_2 ..) (Tot.pos rfl (Tot.now (dfalse fun h2 => hp (h2 e (by simp)))))
    have no : ∀ {p : Prop}, (LO n e → p) → ¬ p → Tot (fun _ : Nat => some false) (fun t => t = decide (∀ x ∈ e :: r, LO n x)) := fun h hp => Tot.now (dfalse fun h2 => hp (h (h2 e (by simp))))
    refine Tot.pos (by omega) (Tot.pos (by omega) (Tot.pos (by omega) (Tot.ite (fun a1 => bad fun h => by have := h.1; omega) (fun a1 => Tot.ite (fun a2 => bad fun h => by have := h.1; omega) (fun a2 => Tot.ite (fun a3 => bad fun h => by have := h.2.1; omega) (fun a3 => ?_))))))
    by_cases a4 : e.f1 > 100000
    · rw [decide_eq_true a4]; exact bad fun h => by have := h.2.1; omega
    rw [decide_eq_false a4]
    refine Tot.step (fun _ => impl_ValidLoans.j2.eq_2 ..) (Tot.neg (by decide) (Tot.ite (fun a5 => no (fun h => h.2.2.1) (by omega)) (fun a5 => ?_)))
    rw [w64s (by omega)]
    refine Tot.bindv (differentBelow_tot (by omega) (by omega) (by omega)) (Tot.ite (fun a6 => ?_) (fun a6 => no (fun h => h.2.2.2.1) (by simpa using a6)))
    unfold slices_Contains_int_int.f
    refine Tot.bindv (v := decide (posFrom e.f2 e.f0 0 ≥ 0)) (Tot.bindv (index_tot (by omega)) (Tot.now rfl)) (Tot.ite (fun a7 => no (fun h => h.2.2.2.2) (fun hn => hn ((posFrom_ge (by omega)).1 (of_decide_eq_true a7)))) (fun a7 => ?_))
    have hLO : LO n e := ⟨by omega, by omega, by omega, of_decide_eq_true a6, fun hm => a7 (decide_eq_true ((posFrom_ge (by omega)).2 hm))⟩
    refine (ih (i + 1) h2).mono ?_
    rintro t rfl
    rw [decide_eq_decide]
    simp only [List.mem_cons, forall_eq_or_imp]
    exact ⟨fun h => ⟨hLO, h⟩, fun h => h.2⟩
theorem implLoans_tot {l : List Ln} {n : Int} (hl : l.length ≤ 1048576) (hw : ∀ e ∈ l, e.f2.length ≤ 1048576) : Tot (fun k => impl_ValidLoans.f k l n) (fun t => t = decide (LV l n)) := by
  unfold impl_ValidLoans.f
  have bad : ¬ LV l n → Tot (fun k => impl_ValidLoans.j0 k l n true) (fun t => t = decide (LV l n)) := fun h =>
    Tot.step (fun _ => impl_ValidLoans.j0.eq_2 ..) (Tot.pos rfl (Tot.now (dfalse h)))
  refine Tot.ite (fun h1 => bad fun h => by have := h.1; omega) (fun h1 => Tot.ite (fun h2 => bad fun h => by have := h.1; omega) (fun h2 => ?_))
  by_cases h3 : n > 12
  · rw [decide_eq_true h3]; exact bad fun h => by have := h.1; omega
  rw [decide_eq_false h3]
  refine Tot.step (fun _ => impl_ValidLoans.j0.eq_2 ..) (Tot.neg (by decide) ((implLoans_l0 hl hw (by omega) l 0 rfl).mono ?_))
  rintro t rfl
  rw [decide_eq_decide]
  exact ⟨fun h => ⟨by omega, h⟩, fun h => h.2⟩
theorem toIntS_l0 {xs : List Int} (hl : xs.length ≤ 1000000000000) : ∀ (d i : Nat), i + d = xs.length →
    Tot (fun k => laws_toIntS.l0 k xs (xs.take i ++ List.replicate d 0) i) (fun t => t = xs) := by
  intro d
  induction d with
  | zero =>
    intro i hi
    exact Tot.step (fun _ => laws_toIntS.l0.eq_2 ..) (Tot.neg (by omega) (Tot.now (by rw [List.replicate_zero, List.append_nil]; exact List.take_of_length_le (by omega))))
  | succ d ih =>
    intro i hi
    refine Tot.step (fun _ => laws_toIntS.l0.eq_2 ..) ?_
    rw [rd_get (by omega), w64s (by omega), Int.toNat_natCast, set_fill (by omega)]
    exact Tot.pos (by omega) (Tot.pos (by omega) (Tot.pos (by rw [List.length_append, List.length_replicate, List.length_take]; omega) (ih (i + 1) (by omega))))
theorem toIntS_tot {xs : List Int} (hl : xs.length ≤ 1000000000000) : Tot (fun k => laws_toIntS.f k xs) (fun t => t = xs) := by
  unfold laws_toIntS.f
  refine Tot.pos (by omega) (Tot.pos (by omega) ?_)
  rw [Int.toNat_natCast]
  have := toIntS_l0 hl xs.length 0 (by omega)
  rw [List.take_zero, List.nil_append] at this
  exact this
theorem eqIntS_l0 {a b : List Int} (hl : a.length = b.length) (ha : a.length ≤ 1000000000000) : ∀ (r s : List Int) (i : Nat), a.drop i = r → b.drop i = s →
    Tot (fun k => laws_eqIntS.l0 k a b i) (fun t => t = decide (r = s)) := by
  intro r
  induction r with
  | nil =>
    intro s i h h2
    have h3 := drop_nil h
    have h4 : s = [] := by rw [← h2]; exact List.drop_eq_nil_of_le (by omega)
    exact Tot.step (fun _ => laws_eqIntS.l0.eq_2 ..) (Tot.neg (by omega) (Tot.now (by simp [h4])))
  | cons x r ih =>
    intro s i h h2
    obtain ⟨h3, h4, h5⟩ := drop_cons h
    cases s with
    | nil => have := drop_nil h2; omega
    | cons y s =>
      obtain ⟨g3, g4, g5⟩ := drop_cons h2
      refine Tot.step (fun _ => laws_eqIntS.l0.eq_2 ..) ?_
      rw [rd_at h5, rd_at g5, w64s (by omega)]
      refine Tot.pos (by omega) (Tot.pos (by omega) (Tot.pos (by omega) (Tot.ite (fun e => ?_) (fun e => Tot.now (by simp [e])))))
      refine (ih s (i + 1) h4 g4).mono ?_
      rintro t rfl
      simp [e]
theorem eqIntS_tot {a b : List Int} (ha : a.length ≤ 1000000000000) : Tot (fun k => laws_eqIntS.f k a b) (fun t => t = decide (a = b)) := by
  unfold laws_eqIntS.f
  refine Tot.ite (fun h => ?_) (fun h => Tot.now ?_)
  · exact eqIntS_l0 (by omega) ha a b 0 rfl rfl
  · symm
    rw [decide_eq_false_iff_not]
    rintro rfl
    exact h rfl
abbrev L0 := S91
theorem rdL0_at {l : List L0} {i : Nat} {r : L0} (h : l[i]? = some r) : rd_T91 l (i : Int) = r := by
  simp [rd_T91, List.getD_eq_getElem?_getD, h]
def cv (e : L0) : Ln := ⟨e.f0, e.f1, e.f2⟩
theorem szLoan_eq {e : L0} (hl : e.f2.length ≤ maxLen) {a : Int} (ha : 0 ≤ a) (ha2 : a ≤ 1048576) : laws_szLoan.f e.f0 e.f1 e.f2 a = some (if a - (e.f2.length : Int) < 0 then -1 else a - (e.f2.length : Int)) := by
  unfold maxLen at hl
  unfold laws_szLoan.f laws_szIntS.f
  rw [w64 (x := a - (e.f2.length : Int)) (by omega) (by omega)]
  by_cases h : a - (e.f2.length : Int) < 0
  · rw [if_pos h, if_pos h]; rfl
  · rw [if_neg h, if_neg h, Option.bind_some, if_neg h]
theorem szLoanS_l0 {l : List L0} (hl : l.length ≤ 1048576) (hw : ∀ x ∈ l, x.f2.length ≤ maxLen) : ∀ (r : List L0) (i : Nat) (a : Int), l.drop i = r → 0 ≤ a → a ≤ 1048576 →
    Tot (fun k => laws_szLoanS.l0 k l a i) (fun t => t < 0 ∨ ((0 ≤ t ∧ t ≤ 1048576) ∧ ∀ x ∈ r, x.f2.length ≤ 1048576)) := by
  intro r
  induction r with
  | nil =>
    intro i a h ha ha2
    have := drop_nil h
    exact Tot.step (fun _ => laws_szLoanS.l0.eq_2 ..) (Tot.neg (by omega) (Tot.now (Or.inr ⟨⟨ha, ha2⟩, fun x hx => by cases hx⟩)))
  | cons x r ih =>
    intro i a h ha ha2
    obtain ⟨h1, h2, h3⟩ := drop_cons h
    refine Tot.step (fun _ => laws_szLoanS.l0.eq_2 ..) ?_
    rw [rdL0_at h3, szLoan_eq (hw x (List.mem_of_getElem? h3)) ha ha2, w64s (by omega)]
    refine Tot.pos (by omega) (Tot.pos (by omega) (Tot.known ?_))
    by_cases h4 : a - (x.f2.length : Int) < 0
    · rw [if_pos h4]
      exact Tot.pos (by omega) (Tot.now (Or.inl (by omega)))
    · rw [if_neg h4]
      refine Tot.neg (by omega) ((ih (i + 1) _ h2 (by omega) (by omega)).mono ?_)
      rintro t (h5 | ⟨h5, h6⟩)
      · exact Or.inl h5
      · refine Or.inr ⟨h5, fun y hy => ?_⟩
        rcases List.mem_cons.1 hy with rfl | hy
        · omega
        · exact h6 y hy
theorem szLoanS_tot {l : List L0} (hl : l.length ≤ maxLen) (hw : ∀ x ∈ l, x.f2.length ≤ maxLen) : Tot (fun k => laws_szLoanS.f k l 1048576) (fun t => t < 0 ∨ ((0 ≤ t ∧ t ≤ 1048576) ∧ l.length ≤ 1048576 ∧ ∀ x ∈ l, x.f2.length ≤ 1048576)) := by
  have hl0 := hl
  unfold maxLen at hl0
  unfold laws_szLoanS.f
  rw [w64 (x := 1048576 - (l.length : Int)) (by omega) (by omega)]
  refine Tot.ite (fun h => Tot.now (Or.inl (by omega))) (fun h => (szLoanS_l0 (by omega) hw l 0 _ rfl (by omega) (by omega)).mono ?_)
  rintro t (h5 | ⟨h5, h6⟩)
  · exact Or.inl h5
  · exact Or.inr ⟨h5, by omega, h6⟩
theorem toLoanS_l0 {xs : List L0} (hl : xs.length ≤ 1048576) (hw : ∀ x ∈ xs, x.f2.length ≤ 1048576) : ∀ (d i : Nat), i + d = xs.length →
    Tot (fun k => laws_toLoanS.l0 k xs ((xs.take i).map cv ++ List.replicate d z92) i) (fun t => t = xs.map cv) := by
  intro d
  induction d with
  | zero =>
    intro i hi
    exact Tot.step (fun _ => laws_toLoanS.l0.eq_2 ..) (Tot.neg (by omega) (Tot.now (by rw [List.replicate_zero, List.append_nil, List.take_of_length_le (by omega)])))
  | succ d ih =>
    intro i hi
    have hx := hw xs[i] (List.getElem_mem (by omega))
    refine Tot.step (fun _ => laws_toLoanS.l0.eq_2 ..) ?_
    rw [rdL0_at (List.getElem?_eq_getElem (show i < xs.length by omega)), w64s (by omega)]
    unfold laws_toLoan.f
    refine Tot.pos (by omega) (Tot.pos (by omega) (Tot.bindv (v := (xs[i].f0, xs[i].f1, xs[i].f2)) (Tot.bindv (toIntS_tot (by omega)) (Tot.now rfl)) ?_))
    refine Tot.pos (by rw [List.length_append, List.length_replicate, List.length_map, List.length_take]; omega) ?_
    rw [Int.toNat_natCast]
    have e := set_fill_map (xs := xs) (f := cv) (z := z92) (i := i) (d := d) (by omega)
    have := ih (i + 1) (by omega)
    rw [← e] at this
    exact this
theorem toLoanS_tot {xs : List L0} (hl : xs.length ≤ 1048576) (hw : ∀ x ∈ xs, x.f2.length ≤ 1048576) : Tot (fun k => laws_toLoanS.f k xs) (fun t => t = xs.map cv) := by
  unfold laws_toLoanS.f
  refine Tot.pos (by omega) (Tot.pos (by omega) ?_)
  rw [Int.toNat_natCast]
  have := toLoanS_l0 hl hw xs.length 0 (by omega)
  rw [List.take_zero, List.map_nil, List.nil_append] at this
  exact this
theorem eqLoanS_l0 {a : List Ln} (hl : a.length ≤ 1048576) (hw : ∀ x ∈ a, x.f2.length ≤ 1048576) : ∀ (r : List Ln) (i : Nat), a.drop i = r →
    Tot (fun k => laws_eqLoanS.l0 k a a i) (fun t => t = true) := by
  intro r
  induction r with
  | nil =>
    intro i h
    have h3 := drop_nil h
    exact Tot.step (fun _ => laws_eqLoanS.l0.eq_2 ..) (Tot.neg (by omega) (Tot.now rfl))
  | cons x r ih =>
    intro i h
    obtain ⟨h3, h4, h5⟩ := drop_cons h
    have hx := hw x (List.mem_of_getElem? h5)
    refine Tot.step (fun _ => laws_eqLoanS.l0.eq_2 ..) ?_
    rw [rdLn_at h5, w64s (by omega)]
    unfold laws_eqLoan.f
    refine Tot.pos (by omega) (Tot.pos (by omega) (Tot.pos (by omega) (Tot.bindv (v := true) (Tot.pos rfl (Tot.pos rfl (Tot.bindv (eqIntS_tot (by omega)) (Tot.pos (by simp) (Tot.now rfl))))) (Tot.pos rfl (ih (i + 1) h4)))))
theorem FnExactValidLoans : ∀ (l : List S91) (n : Int), l.length ≤ maxLen → (∀ x ∈ l, (Lit.int .i64 x.f0).wf = true ∧ (Lit.int .i64 x.f1).wf = true ∧ x.f2.length ≤ maxLen ∧ ∀ y ∈ x.f2, (Lit.int .i64 y).wf = true) → (Lit.int .i64 n).wf = true → ∃ k, laws_FnExactValidLoans.f k l n = some true := by
  intro l n hl hw _
  refine Tot.ends (g := fun k => laws_FnExactValidLoans.f k l n) ?_
  unfold laws_FnExactValidLoans.f
  refine Tot.bind (szLoanS_tot hl (fun x hx => (hw x hx).2.2.1)) ?_
  rintro t (ht | ⟨ht, hl2, hx2⟩)
  · exact Tot.pos ht (Tot.now rfl)
  have hl3 : (l.map cv).length ≤ 1048576 := by rw [List.length_map]; exact hl2
  have hx3 : ∀ e ∈ l.map cv, e.f2.length ≤ 1048576 := by
    intro e he
    rw [List.mem_map] at he
    obtain ⟨x, hx, rfl⟩ := he
    exact hx2 x hx
  refine Tot.neg (by omega) ?_
  refine Tot.bindv (toLoanS_tot hl2 hx2) (Tot.bindv (v := decide (LV (l.map cv) n)) ?_ ?_)
  · unfold spec_ValidLoans.f
    exact Tot.bindv (specLoans_tot hl3 hx3) (Tot.now rfl)
  refine Tot.bindv (toLoanS_tot hl2 hx2) (Tot.bindv (implLoans_tot hl3 hx3) (Tot.neg (by simp) (Tot.bindv (toLoanS_tot hl2 hx2) (Tot.bindv (v := true) ?_ (Tot.pos rfl (Tot.now rfl))))))
  unfold laws_eqLoanS.f
  exact Tot.pos rfl (eqLoanS_l0 hl3 hx3 _ 0 rfl)
end Go.Proofs.Ytdcapmgebjifpaa.Pure
