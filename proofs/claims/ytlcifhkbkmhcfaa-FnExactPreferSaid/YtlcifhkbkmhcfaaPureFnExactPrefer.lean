/- FnExactPrefer: for all arguments Prefer of the program and of the reference agree, and the arguments are left as they were. No condition beyond the statement's own. -/
import Derived.Test.YtlcifhkbkmhcfaaQFnExactPreferx4
import Derived.Test.YtlcifhkbkmhcfaaCore
namespace Go.Proofs.Ytlcifhkbkmhcfaa.Pure
open Go.RowKit Go.Proofs.Ytlcifhkbkmhcfaa.PFnExactPrefer Go.Proofs.YtlcifhkbkmhcfaaW.PrintWords
set_option linter.unusedSimpArgs false
set_option linter.unusedVariables false

def sumL : List Int → Int
  | [] => 0
  | x :: r => x + sumL r
theorem sumL_bound {l : List Int} (h : ∀ x ∈ l, 0 ≤ x ∧ x ≤ 1000000) : 0 ≤ sumL l ∧ sumL l ≤ 1000000 * l.length := by
  induction l with
  | nil => simp [sumL]
  | cons x r ih =>
    have h1 := ih (fun y hy => h y (List.mem_cons_of_mem _ hy))
    have h2 := h x (by simp)
    simp only [sumL, List.length_cons]
    omega
/-- A valid body. -/
def VB (ws : List Int) (need : Int) : Prop := (1 ≤ ws.length ∧ ws.length ≤ 12) ∧ (∀ w ∈ ws, 0 ≤ w ∧ w ≤ 100) ∧ 1 ≤ need ∧ need ≤ sumL ws
instance (ws : List Int) (need : Int) : Decidable (VB ws need) := inferInstanceAs (Decidable ((1 ≤ ws.length ∧ ws.length ≤ 12) ∧ (∀ w ∈ ws, 0 ≤ w ∧ w ≤ 100) ∧ 1 ≤ need ∧ need ≤ sumL ws))
theorem dfalse {p : Prop} {i : Decidable p} (h : ¬ p) : false = @decide p i := by
  symm; rw [decide_eq_false_iff_not]; exact h
theorem dtrue {p : Prop} {i : Decidable p} (h : p) : true = @decide p i := by
  symm; rw [decide_eq_true_iff]; exact h
/-! ranks -/
def RK (l : List (List Int)) : Prop := (1 ≤ (l.length : Int) ∧ (l.length : Int) ≤ 12) ∧ (1 ≤ ((rd_L1 l 0).length : Int) ∧ ((rd_L1 l 0).length : Int) ≤ 6) ∧ ∀ x ∈ l, x.length = (rd_L1 l 0).length ∧ DB x (rd_L1 l 0).length
instance (l : List (List Int)) : Decidable (RK l) := inferInstanceAs (Decidable ((1 ≤ (l.length : Int) ∧ (l.length : Int) ≤ 12) ∧ (1 ≤ ((rd_L1 l 0).length : Int) ∧ ((rd_L1 l 0).length : Int) ≤ 6) ∧ ∀ x ∈ l, x.length = (rd_L1 l 0).length ∧ DB x (rd_L1 l 0).length))
theorem inRange_eq (a b c : Int) : spec_inRange.f a b c = some (decide (b ≤ a ∧ a ≤ c)) := by
  unfold spec_inRange.f
  by_cases h : b ≤ a
  · rw [if_pos h]; simp [h]
  · rw [if_neg h]; simp [h]
theorem placeIn_l0 {xs : List Int} {v : Int} (hl : xs.length ≤ 1000000000000) : ∀ (r : List Int) (i : Nat), xs.drop i = r →
    Tot (fun k => spec_placeIn.l0 k xs v i) (fun t => t = posFrom r v i) := by
  intro r
  induction r with
  | nil =>
    intro i h
    have := drop_nil h
    exact Tot.step (fun _ => spec_placeIn.l0.eq_2 ..) (Tot.neg (by omega) (Tot.now rfl))
  | cons x r ih =>
    intro i h
    obtain ⟨h1, h2, h3⟩ := drop_cons h
    refine Tot.step (fun _ => spec_placeIn.l0.eq_2 ..) ?_
    rw [rd_at h3, w64s (by omega), posFrom]
    refine Tot.pos (by omega) (Tot.pos (by omega) (Tot.ite (fun h4 => ?_) (fun h4 => ?_)))
    · rw [if_pos h4]; exact Tot.now rfl
    · rw [if_neg h4]; exact ih (i + 1) h2
theorem placeIn_tot {xs : List Int} {v : Int} (hl : xs.length ≤ 1000000000000) : Tot (fun k => spec_placeIn.f k xs v) (fun t => t = posFrom xs v 0) := by
  unfold spec_placeIn.f
  exact placeIn_l0 hl xs 0 rfl
theorem validMembers_l0 {xs : List Int} {n : Int} (hl : xs.length ≤ 1000000000000) (hn : 0 ≤ n) (hn2 : n ≤ 1000000000000) : ∀ (r : List Int) (i : Nat), xs.drop i = r →
    Tot (fun k => spec_validMembers.l0 k xs n i) (fun t => t = decide ((∀ x ∈ r, (0 ≤ x ∧ x < n) ∧ x ∉ xs.take i) ∧ r.Nodup)) := by
  intro r
  induction r with
  | nil =>
    intro i h
    have := drop_nil h
    exact Tot.step (fun _ => spec_validMembers.l0.eq_2 ..) (Tot.neg (by omega) (Tot.now (by simp)))
  | cons x r ih =>
    intro i h
    obtain ⟨h1, h2, h3⟩ := drop_cons h
    refine Tot.step (fun _ => spec_validMembers.l0.eq_2 ..) ?_
    rw [rd_at h3, w64s (by omega), w64 (x := n - 1) (by omega) (by omega), inRange_eq]
    simp only [Option.bind_some, decide_eq_true_eq]
    refine Tot.pos (by omega) (Tot.pos (by omega) (Tot.ite (fun h4 => Tot.pos (by omega) ?_) (fun h4 => Tot.now ?_)))
    · rw [Int.toNat_natCast]
      refine Tot.bind (placeIn_tot (by simp; omega)) ?_
      rintro t rfl
      refine Tot.ite (fun h5 => Tot.now ?_) (fun h5 => ?_)
      · have h6 := (posFrom_ge (l := xs.take i) (v := x) (Int.le_refl 0)).1 h5
        symm
        rw [decide_eq_false_iff_not]
        intro h7
        exact (h7.1 x (by simp)).2 h6
      · have h6 : x ∉ xs.take i := fun h7 => h5 ((posFrom_ge (l := xs.take i) (v := x) (Int.le_refl 0)).2 h7)
        refine (ih (i + 1) h2).mono ?_
        rintro t rfl
        have h8 : xs.take (i + 1) = xs.take i ++ [x] := by rw [List.take_add_one, h3]; rfl
        rw [h8, decide_eq_decide]
        constructor
        · rintro ⟨h9, h10⟩
          refine ⟨fun y hy => ?_, List.nodup_cons.2 ⟨fun hx => ?_, h10⟩⟩
          · rcases List.mem_cons.1 hy with rfl | hy
            · exact ⟨⟨h4.1, by omega⟩, h6⟩
            · exact ⟨(h9 y hy).1, fun h11 => (h9 y hy).2 (List.mem_append_left _ h11)⟩
          · exact (h9 x hx).2 (by simp)
        · rintro ⟨h9, h10⟩
          obtain ⟨h11, h12⟩ := List.nodup_cons.1 h10
          refine ⟨fun y hy => ⟨(h9 y (List.mem_cons_of_mem _ hy)).1, fun h13 => ?_⟩, h12⟩
          rcases List.mem_append.1 h13 with h13 | h13
          · exact (h9 y (List.mem_cons_of_mem _ hy)).2 h13
          · rw [List.mem_singleton] at h13
            exact h11 (h13 ▸ hy)
    · symm
      rw [decide_eq_false_iff_not]
      intro h7
      have := (h7.1 x (by simp)).1
      omega
theorem validMembers_tot {xs : List Int} {n : Int} (hl : xs.length ≤ 1000000000000) (hn : 0 ≤ n) (hn2 : n ≤ 1000000000000) : Tot (fun k => spec_validMembers.f k xs n) (fun t => t = decide (DB xs n)) := by
  unfold spec_validMembers.f
  refine (validMembers_l0 hl hn hn2 xs 0 rfl).mono ?_
  rintro t rfl
  rw [decide_eq_decide]
  simp [DB]
theorem rd1_at' {l : List (List Int)} {i : Nat} {r : List Int} (h : l[i]? = some r) : rd_L1 l (i : Int) = r := by
  simp [rd_L1, List.getD_eq_getElem?_getD, h]
theorem rd1_len {l : List (List Int)} {n : Nat} (hw : ∀ x ∈ l, x.length ≤ n) : (rd_L1 l 0).length ≤ n := by
  cases l with
  | nil => simp [rd_L1]
  | cons x r => exact hw x (by simp)
theorem specRanks_l0 {l : List (List Int)} (hl : l.length ≤ 1048576) (hw : ∀ x ∈ l, x.length ≤ 1048576) (h0 : (rd_L1 l 0).length ≤ 1048576) : ∀ (r : List (List Int)) (i : Nat), l.drop i = r →
    Tot (fun k => spec_validRanks.l0 k l i) (fun t => t = decide ((1 ≤ (l.length : Int) ∧ (l.length : Int) ≤ 12) ∧ (1 ≤ ((rd_L1 l 0).length : Int) ∧ ((rd_L1 l 0).length : Int) ≤ 6) ∧ ∀ x ∈ r, x.length = (rd_L1 l 0).length ∧ DB x (rd_L1 l 0).length)) := by
  intro r
  induction r with
  | nil =>
    intro i h
    have := drop_nil h
    refine Tot.step (fun _ => spec_validRanks.l0.eq_2 ..) (Tot.neg (by omega) ?_)
    rw [inRange_eq]
    refine Tot.known (Tot.ite (fun h1 => ?_) (fun h1 => Tot.now (dfalse fun h2 => h1 (decide_eq_true h2.1))))
    have h1 := of_decide_eq_true h1
    refine Tot.pos (by omega) ?_
    rw [inRange_eq]
    refine Tot.known (Tot.now ?_)
    rw [decide_eq_decide]
    exact ⟨fun h => ⟨h1, h, fun x hx => by cases hx⟩, fun h => h.2.1⟩
  | cons x r ih =>
    intro i h
    obtain ⟨h1, h2, h3⟩ := drop_cons h
    have hx := hw x (List.mem_of_getElem? h3)
    refine Tot.step (fun _ => spec_validRanks.l0.eq_2 ..) ?_
    rw [rd1_at' h3, w64s (by omega)]
    refine Tot.pos (by omega) (Tot.pos (by omega) (Tot.pos (by omega) (Tot.ite (fun h4 => ?_) (fun h4 => Tot.now (dfalse fun h5 => h4 (by have := (h5.2.2 x (by simp)).1; omega))))))
    refine Tot.bind (validMembers_tot (by omega) (by omega) (by omega)) ?_
    rintro _ rfl
    refine Tot.ite (fun h5 => (ih (i + 1) h2).mono ?_) (fun h5 => Tot.now (dfalse fun h6 => h5 (decide_eq_true (h6.2.2 x (by simp)).2)))
    rintro t rfl
    rw [decide_eq_decide]
    simp only [List.mem_cons, forall_eq_or_imp]
    exact ⟨fun h => ⟨h.1, h.2.1, ⟨by omega, of_decide_eq_true h5⟩, h.2.2⟩, fun h => ⟨h.1, h.2.1, h.2.2.2⟩⟩
theorem specRanks_tot {l : List (List Int)} (hl : l.length ≤ 1048576) (hw : ∀ x ∈ l, x.length ≤ 1048576) : Tot (fun k => spec_validRanks.f k l) (fun t => t = decide (RK l)) := by
  unfold spec_validRanks.f
  exact specRanks_l0 hl hw (rd1_len hw) l 0 rfl
theorem getD_set_true {s : List Bool} {a b : Nat} (ha : a < s.length) : (s.set a true).getD b false = false ↔ b ≠ a ∧ s.getD b false = false := by
  simp only [List.getD_eq_getElem?_getD, List.getElem?_set]
  by_cases h : a = b
  · subst h; simp [ha]
  · rw [if_neg h]
    constructor
    · intro h2; exact ⟨fun e => h e.symm, h2⟩
    · intro h2; exact h2.2
theorem differentBelow_l0 {xs : List Int} {n : Int} (hl : xs.length ≤ 1000000000000) : ∀ (r : List Int) (i : Nat) (s : List Bool), xs.drop i = r → (s.length : Int) = n →
    Tot (fun k => impl_differentBelow.l0 k n s xs xs.length i) (fun t => t = decide ((∀ x ∈ r, (0 ≤ x ∧ x < n) ∧ s.getD x.toNat false = false) ∧ r.Nodup)) := by
  intro r
  induction r with
  | nil =>
    intro i s h hs
    have := drop_nil h
    exact Tot.step (fun _ => impl_differentBelow.l0.eq_2 ..) (Tot.neg (by omega) (Tot.now (by simp)))
  | cons x r ih =>
    intro i s h hs
    obtain ⟨h1, h2, h3⟩ := drop_cons h
    refine Tot.step (fun _ => impl_differentBelow.l0.eq_2 ..) ?_
    rw [rd_at h3, w64s (by omega)]
    refine Tot.pos (by omega) (Tot.pos (by omega) (Tot.pos (by omega) (Tot.ite (fun h4 => Tot.now ?_) (fun h4 => Tot.ite (fun h5 => Tot.now ?_) (fun h5 => Tot.pos (by omega) (Tot.pos (by omega) (Tot.ite (fun h6 => Tot.now ?_) (fun h6 => ?_))))))))
    · symm
      rw [decide_eq_false_iff_not]
      intro h7
      have := (h7.1 x (by simp)).1
      omega
    · symm
      rw [decide_eq_false_iff_not]
      intro h7
      have := (h7.1 x (by simp)).1
      omega
    · symm
      rw [decide_eq_false_iff_not]
      intro h7
      have h8 := (h7.1 x (by simp)).2
      rw [rdOf, h8] at h6
      cases h6
    · have h6' : s.getD x.toNat false = false := by
        rw [rdOf] at h6
        simpa using h6
      have hx : x.toNat < s.length := by omega
      refine (ih (i + 1) (s.set x.toNat true) h2 (by simp; omega)).mono ?_
      rintro t rfl
      rw [decide_eq_decide]
      constructor
      · rintro ⟨h9, h10⟩
        refine ⟨fun y hy => ?_, List.nodup_cons.2 ⟨fun hx2 => ?_, h10⟩⟩
        · rcases List.mem_cons.1 hy with rfl | hy
          · exact ⟨⟨by omega, by omega⟩, h6'⟩
          · exact ⟨(h9 y hy).1, ((getD_set_true hx).1 (h9 y hy).2).2⟩
        · exact ((getD_set_true hx).1 (h9 x hx2).2).1 rfl
      · rintro ⟨h9, h10⟩
        obtain ⟨h11, h12⟩ := List.nodup_cons.1 h10
        refine ⟨fun y hy => ⟨(h9 y (List.mem_cons_of_mem _ hy)).1, (getD_set_true hx).2 ⟨fun h13 => ?_, (h9 y (List.mem_cons_of_mem _ hy)).2⟩⟩, h12⟩
        have h14 := (h9 y (List.mem_cons_of_mem _ hy)).1
        have h15 : y = x := by omega
        exact h11 (h15 ▸ hy)
theorem differentBelow_tot {xs : List Int} {n : Int} (hl : xs.length ≤ 1000000000000) (hn : 0 ≤ n) (hn2 : n ≤ 1000000000000) : Tot (fun k => impl_differentBelow.f k xs n) (fun t => t = decide (DB xs n)) := by
  unfold impl_differentBelow.f
  refine Tot.ite (fun h => Tot.now ?_) (fun h => Tot.pos hn (Tot.pos (by omega) ?_))
  · symm
    rw [decide_eq_false_iff_not]
    intro h2
    have := h2.le hn
    omega
  · refine (differentBelow_l0 hl xs 0 _ rfl (by simp; omega)).mono ?_
    rintro t rfl
    rw [decide_eq_decide]
    have : ∀ j, (List.replicate n.toNat false).getD j false = false := by
      intro j
      simp only [List.getD_eq_getElem?_getD, List.getElem?_replicate]
      split <;> rfl
    simp only [this, and_true]
    exact Iff.rfl
theorem implRanks_l0 {l : List (List Int)} (hl : l.length ≤ 1048576) (hw : ∀ x ∈ l, x.length ≤ 1048576) {n : Nat} (hn : n ≤ 1048576) : ∀ (r : List (List Int)) (i : Nat), l.drop i = r →
    Tot (fun k => impl_ValidRanks.l0 k n l l.length i) (fun t => t = decide (∀ x ∈ r, x.length = n ∧ DB x n)) := by
  intro r
  induction r with
  | nil =>
    intro i h
    have := drop_nil h
    exact Tot.step (fun _ => impl_ValidRanks.l0.eq_2 ..) (Tot.neg (by omega) (Tot.now (by simp)))
  | cons x r ih =>
    intro i h
    obtain ⟨h1, h2, h3⟩ := drop_cons h
    have hx := hw x (List.mem_of_getElem? h3)
    refine Tot.step (fun _ => impl_ValidRanks.l0.eq_2 ..) ?_
    rw [rd1_at' h3, w64s (by omega)]
    refine Tot.pos (by omega) (Tot.pos (by omega) (Tot.pos (by omega) (Tot.ite (fun h4 => ?_) (fun h4 => Tot.now (dfalse fun h5 => h4 (by have := (h5 x (by simp)).1; omega))))))
    refine Tot.bind (differentBelow_tot (by omega) (by omega) (by omega)) ?_
    rintro _ rfl
    refine Tot.ite (fun h5 => (ih (i + 1) h2).mono ?_) (fun h5 => Tot.now (dfalse fun h6 => h5 (decide_eq_true (h6 x (by simp)).2)))
    rintro t rfl
    rw [decide_eq_decide]
    simp only [List.mem_cons, forall_eq_or_imp]
    exact ⟨fun h => ⟨⟨by omega, of_decide_eq_true h5⟩, h⟩, fun h => h.2⟩
theorem implRanks_tot {l : List (List Int)} (hl : l.length ≤ 1048576) (hw : ∀ x ∈ l, x.length ≤ 1048576) : Tot (fun k => impl_ValidRanks.f k l) (fun t => t = decide (RK l)) := by
  unfold impl_ValidRanks.f
  have h0 := rd1_len hw
  have bad : ¬ RK l → Tot (fun k => impl_ValidRanks.j0 k l true) (fun t => t = decide (RK l)) := fun h =>
    Tot.step (fun _ => impl_ValidRanks.j0.eq_2 ..) (Tot.pos rfl (Tot.now (dfalse h)))
  have bad2 : ¬ RK l → Tot (fun k => impl_ValidRanks.j1 k l (rd_L1 l 0).length true) (fun t => t = decide (RK l)) := fun h =>
    Tot.step (fun _ => impl_ValidRanks.j1.eq_2 ..) (Tot.pos rfl (Tot.now (dfalse h)))
  refine Tot.ite (fun h1 => bad fun h => by have := h.1; omega) (fun h1 => ?_)
  by_cases h2 : (l.length : Int) > 12
  · rw [decide_eq_true h2]; exact bad fun h => by have := h.1; omega
  rw [decide_eq_false h2]
  refine Tot.step (fun _ => impl_ValidRanks.j0.eq_2 ..) (Tot.neg (by decide) (Tot.pos (by omega) (Tot.ite (fun h3 => bad2 fun h => by have := h.2.1; omega) (fun h3 => ?_))))
  by_cases h4 : ((rd_L1 l 0).length : Int) > 6
  · rw [decide_eq_true h4]; exact bad2 fun h => by have := h.2.1; omega
  rw [decide_eq_false h4]
  refine Tot.step (fun _ => impl_ValidRanks.j1.eq_2 ..) (Tot.neg (by decide) ((implRanks_l0 hl hw h0 l 0 rfl).mono ?_))
  rintro t rfl
  rw [decide_eq_decide]
  exact ⟨fun h => ⟨by omega, by omega, h⟩, fun h => h.2.2⟩
theorem index_l0 {xs : List Int} {v : Int} (hl : xs.length ≤ 1000000000000) : ∀ (r : List Int) (i : Nat), xs.drop i = r →
    Tot (fun k => slices_Index_int_int.l0 k xs v xs.length i) (fun t => t = posFrom r v i) := by
  intro r
  induction r with
  | nil =>
    intro i h
    have := drop_nil h
    exact Tot.step (fun _ => slices_Index_int_int.l0.eq_2 ..) (Tot.neg (by omega) (Tot.now rfl))
  | cons x r ih =>
    intro i h
    obtain ⟨h1, h2, h3⟩ := drop_cons h
    refine Tot.step (fun _ => slices_Index_int_int.l0.eq_2 ..) ?_
    rw [rd_at h3, w64s (by omega), posFrom]
    refine Tot.pos (by omega) (Tot.pos (by omega) (Tot.pos (by omega) (Tot.ite (fun h4 => ?_) (fun h4 => ?_))))
    · rw [if_pos h4.symm]; exact Tot.now rfl
    · rw [if_neg (fun e => h4 e.symm)]; exact ih (i + 1) h2
theorem index_tot {xs : List Int} {v : Int} (hl : xs.length ≤ 1000000000000) : Tot (fun k => slices_Index_int_int.f k xs v) (fun t => t = posFrom xs v 0) := by
  unfold slices_Index_int_int.f
  exact index_l0 hl xs 0 rfl
theorem Tot.bindv {α β : Type} {g : Nat → Option α} {F : Nat → α → Option β} {v : α} {Q : β → Prop} (h : Tot g (fun t => t = v)) (h2 : Tot (fun k => F k v) Q) : Tot (fun k => (g k).bind (F k)) Q :=
  Tot.bind h (fun a ha => by rw [ha]; exact h2)
/-- How many lists have a ahead of b. -/
def pf (a b : Int) : List (List Int) → Int
  | [] => 0
  | x :: r => (if posFrom x a 0 < posFrom x b 0 then 1 else 0) + pf a b r
theorem specBeats_l0 {l : List (List Int)} {a b : Int} (hl : l.length ≤ 1048576) (hw : ∀ x ∈ l, x.length ≤ 1048576) : ∀ (r : List (List Int)) (i : Nat) (c : Int), l.drop i = r → 0 ≤ c → c ≤ i →
    Tot (fun k => spec_beats.l0 k l a b c i) (fun t => t = c + pf a b r) := by
  intro r
  induction r with
  | nil =>
    intro i c h hc hc2
    have := drop_nil h
    exact Tot.step (fun _ => spec_beats.l0.eq_2 ..) (Tot.neg (by omega) (Tot.now (by rw [pf]; omega)))
  | cons x r ih =>
    intro i c h hc hc2
    obtain ⟨h1, h2, h3⟩ := drop_cons h
    have hx := hw x (List.mem_of_getElem? h3)
    refine Tot.step (fun _ => spec_beats.l0.eq_2 ..) ?_
    rw [rd1_at' h3, w64s (by omega), w64 (x := c + 1) (by omega) (by omega)]
    refine Tot.pos (by omega) (Tot.pos (by omega) (Tot.bindv (placeIn_tot (by omega)) (Tot.bindv (placeIn_tot (by omega)) (Tot.ite (fun g => ?_) (fun g => ?_)))))
    · refine (ih (i + 1) _ h2 (by omega) (by omega)).mono ?_
      rintro t rfl
      rw [pf, if_pos g]; omega
    · refine (ih (i + 1) _ h2 (by omega) (by omega)).mono ?_
      rintro t rfl
      rw [pf, if_neg g]; omega
theorem implPrefer_l0 {l : List (List Int)} {a b : Int} (hl : l.length ≤ 1048576) (hw : ∀ x ∈ l, x.length ≤ 1048576) : ∀ (r : List (List Int)) (i : Nat) (c : Int), l.drop i = r → 0 ≤ c → c ≤ i →
    Tot (fun k => impl_Prefer.l0 k a b c l l.length i) (fun t => t = c + pf a b r) := by
  intro r
  induction r with
  | nil =>
    intro i c h hc hc2
    have := drop_nil h
    exact Tot.step (fun _ => impl_Prefer.l0.eq_2 ..) (Tot.neg (by omega) (Tot.now (by rw [pf]; omega)))
  | cons x r ih =>
    intro i c h hc hc2
    obtain ⟨h1, h2, h3⟩ := drop_cons h
    have hx := hw x (List.mem_of_getElem? h3)
    refine Tot.step (fun _ => impl_Prefer.l0.eq_2 ..) ?_
    rw [rd1_at' h3, w64s (by omega), w64 (x := c + 1) (by omega) (by omega)]
    refine Tot.pos (by omega) (Tot.pos (by omega) (Tot.pos (by omega) (Tot.bindv (index_tot (by omega)) (Tot.bindv (index_tot (by omega)) (Tot.ite (fun g => ?_) (fun g => ?_))))))
    · refine (ih (i + 1) _ h2 (by omega) (by omega)).mono ?_
      rintro t rfl
      rw [pf, if_pos g]; omega
    · refine (ih (i + 1) _ h2 (by omega) (by omega)).mono ?_
      rintro t rfl
      rw [pf, if_neg g]; omega
def OKP (l : List (List Int)) (a b : Int) : Prop := RK l ∧ DB [a, b] (rd_L1 l 0).length
instance (l : List (List Int)) (a b : Int) : Decidable (OKP l a b) := inferInstanceAs (Decidable (RK l ∧ DB [a, b] (rd_L1 l 0).length))
theorem specPrefer_tot {l : List (List Int)} {a b : Int} (hl : l.length ≤ 1048576) (hw : ∀ x ∈ l, x.length ≤ 1048576) : Tot (fun k => spec_Prefer.f k l a b) (fun t => t = if OKP l a b then pf a b l else -1) := by
  unfold spec_Prefer.f
  refine Tot.bindv (specRanks_tot hl hw) (Tot.ite (fun h1 => ?_) (fun h1 => Tot.now (by rw [if_neg (fun h => h1 (decide_eq_true h.1))])))
  have h1 := of_decide_eq_true h1
  have h2 := h1.1
  have h3 := h1.2.1
  refine Tot.pos (by omega) (Tot.bindv (validMembers_tot (by simp) (by omega) (by omega)) (Tot.ite (fun h4 => ?_) (fun h4 => Tot.now (by rw [if_neg (fun h => h4 (decide_eq_true h.2))]))))
  rw [if_pos ⟨h1, of_decide_eq_true h4⟩]
  unfold spec_beats.f
  refine Tot.bindv (v := pf a b l) ((specBeats_l0 hl hw l 0 0 rfl (by omega) (by omega)).mono ?_) (Tot.now rfl)
  rintro t rfl
  omega
theorem implPrefer_tot {l : List (List Int)} {a b : Int} (hl : l.length ≤ 1048576) (hw : ∀ x ∈ l, x.length ≤ 1048576) : Tot (fun k => impl_Prefer.f k l a b) (fun t => t = if OKP l a b then pf a b l else -1) := by
  unfold impl_Prefer.f
  have bad : ¬ OKP l a b → Tot (fun k => impl_Prefer.j0 k l a b true) (fun t => t = if OKP l a b then pf a b l else -1) := fun h =>
    Tot.step (fun _ => impl_Prefer.j0.eq_2 ..) (Tot.pos rfl (Tot.now (by rw [if_neg h])))
  refine Tot.bindv (implRanks_tot hl hw) (Tot.ite (fun h1 => ?_) (fun h1 => bad fun h => h1 (decide_eq_true h.1)))
  have h1 := of_decide_eq_true h1
  have h2 := h1.1
  have h3 := h1.2.1
  refine Tot.ite (fun h4 => bad fun h => ?_) (fun h4 => ?_)
  · have := (List.nodup_cons.1 h.2.2).1
    exact this (by simp [h4])
  refine Tot.pos (by omega) (Tot.bindv (differentBelow_tot (by simp) (by omega) (by omega)) ?_)
  by_cases h5 : DB [a, b] (rd_L1 l 0).length
  · rw [decide_eq_true h5, if_pos ⟨h1, h5⟩]
    refine Tot.step (fun _ => impl_Prefer.j0.eq_2 ..) (Tot.neg (by decide) ((implPrefer_l0 hl hw l 0 0 rfl (by omega) (by omega)).mono ?_))
    rintro t rfl
    omega
  · rw [decide_eq_false h5]
    exact bad fun h => h5 h.2
theorem toIntS_l0 {xs : List Int} (hl : xs.length ≤ 1000000000000) : ∀ (d i : Nat), i + d = xs.length →
    Tot (fun k => laws_toIntS.l0 k xs (xs.take i ++ List.replicate d 0) i) (fun t => t = xs) := by
  intro d
  induction d with
  | zero =>
    intro i hi
    exact Tot.step (fun _ => laws_toIntS.l0.eq_2 ..) (Tot.neg (by omega) (Tot.now (by rw [List.replicate_zero, List.append_nil]; exact List.take_of_length_le (by omega))))
  | succ d ih =>
    intro i hi
    refine Tot.step (fun _ => laws_toIntS.l0.eq_2 ..) ?_
    rw [rd_get (by omega), w64s (by omega), Int.toNat_natCast, set_fill (by omega)]
    exact Tot.pos (by omega) (Tot.pos (by omega) (Tot.pos (by rw [List.length_append, List.length_replicate, List.length_take]; omega) (ih (i + 1) (by omega))))
theorem toIntS_tot {xs : List Int} (hl : xs.length ≤ 1000000000000) : Tot (fun k => laws_toIntS.f k xs) (fun t => t = xs) := by
  unfold laws_toIntS.f
  refine Tot.pos (by omega) (Tot.pos (by omega) ?_)
  rw [Int.toNat_natCast]
  have := toIntS_l0 hl xs.length 0 (by omega)
  rw [List.take_zero, List.nil_append] at this
  exact this
theorem eqIntS_l0 {a b : List Int} (hl : a.length = b.length) (ha : a.length ≤ 1000000000000) : ∀ (r s : List Int) (i : Nat), a.drop i = r → b.drop i = s →
    Tot (fun k => laws_eqIntS.l0 k a b i) (fun t => t = decide (r = s)) := by
  intro r
  induction r with
  | nil =>
    intro s i h h2
    have h3 := drop_nil h
    have h4 : s = [] := by rw [← h2]; exact List.drop_eq_nil_of_le (by omega)
    exact Tot.step (fun _ => laws_eqIntS.l0.eq_2 ..) (Tot.neg (by omega) (Tot.now (by simp [h4])))
  | cons x r ih =>
    intro s i h h2
    obtain ⟨h3, h4, h5⟩ := drop_cons h
    cases s with
    | nil => have := drop_nil h2; omega
    | cons y s =>
      obtain ⟨g3, g4, g5⟩ := drop_cons h2
      refine Tot.step (fun _ => laws_eqIntS.l0.eq_2 ..) ?_
      rw [rd_at h5, rd_at g5, w64s (by omega)]
      refine Tot.pos (by omega) (Tot.pos (by omega) (Tot.pos (by omega) (Tot.ite (fun e => ?_) (fun e => Tot.now (by simp [e])))))
      refine (ih s (i + 1) h4 g4).mono ?_
      rintro t rfl
      simp [e]
theorem eqIntS_tot {a b : List Int} (ha : a.length ≤ 1000000000000) : Tot (fun k => laws_eqIntS.f k a b) (fun t => t = decide (a = b)) := by
  unfold laws_eqIntS.f
  refine Tot.ite (fun h => ?_) (fun h => Tot.now ?_)
  · exact eqIntS_l0 (by omega) ha a b 0 rfl rfl
  · symm
    rw [decide_eq_false_iff_not]
    rintro rfl
    exact h rfl
theorem rd1_at {l : List (List Int)} {i : Nat} {r : List Int} (h : l[i]? = some r) : rd_L1 l (i : Int) = r := by
  simp [rd_L1, List.getD_eq_getElem?_getD, h]
theorem rd1_get {l : List (List Int)} {i : Nat} (h : i < l.length) : rd_L1 l (i : Int) = l[i] := rd1_at (List.getElem?_eq_getElem h)
theorem szIntS1_eq {l : List Int} (hl : l.length ≤ maxLen) {a : Int} (ha : 0 ≤ a) (ha2 : a ≤ 1048576) : laws_szIntS.f l a = some (if a - (l.length : Int) < 0 then -1 else a - (l.length : Int)) := by
  unfold maxLen at hl
  unfold laws_szIntS.f
  rw [w64 (x := a - (l.length : Int)) (by omega) (by omega)]
  split <;> rfl
theorem szIntSS_l0 {l : List (List Int)} (hl : l.length ≤ 1048576) (hw : ∀ x ∈ l, x.length ≤ maxLen) : ∀ (r : List (List Int)) (i : Nat) (a : Int), l.drop i = r → 0 ≤ a → a ≤ 1048576 →
    Tot (fun k => laws_szIntSS.l0 k l a i) (fun t => t < 0 ∨ ((0 ≤ t ∧ t ≤ 1048576) ∧ ∀ x ∈ r, x.length ≤ 1048576)) := by
  intro r
  induction r with
  | nil =>
    intro i a h ha ha2
    have := drop_nil h
    exact Tot.step (fun _ => laws_szIntSS.l0.eq_2 ..) (Tot.neg (by omega) (Tot.now (Or.inr ⟨⟨ha, ha2⟩, fun x hx => by cases hx⟩)))
  | cons x r ih =>
    intro i a h ha ha2
    obtain ⟨h1, h2, h3⟩ := drop_cons h
    refine Tot.step (fun _ => laws_szIntSS.l0.eq_2 ..) ?_
    rw [rd1_at h3, szIntS1_eq (hw x (List.mem_of_getElem? h3)) ha ha2, w64s (by omega)]
    refine Tot.pos (by omega) (Tot.pos (by omega) (Tot.known ?_))
    by_cases h4 : a - (x.length : Int) < 0
    · rw [if_pos h4]
      exact Tot.pos (by omega) (Tot.now (Or.inl (by omega)))
    · rw [if_neg h4]
      refine Tot.neg (by omega) ((ih (i + 1) _ h2 (by omega) (by omega)).mono ?_)
      rintro t (h5 | ⟨h5, h6⟩)
      · exact Or.inl h5
      · refine Or.inr ⟨h5, fun y hy => ?_⟩
        rcases List.mem_cons.1 hy with rfl | hy
        · omega
        · exact h6 y hy
theorem szIntSS_tot {l : List (List Int)} (hl : l.length ≤ maxLen) (hw : ∀ x ∈ l, x.length ≤ maxLen) : Tot (fun k => laws_szIntSS.f k l 1048576) (fun t => t < 0 ∨ ((0 ≤ t ∧ t ≤ 1048576) ∧ l.length ≤ 1048576 ∧ ∀ x ∈ l, x.length ≤ 1048576)) := by
  have hl0 := hl
  unfold maxLen at hl0
  unfold laws_szIntSS.f
  rw [w64 (x := 1048576 - (l.length : Int)) (by omega) (by omega)]
  refine Tot.ite (fun h => Tot.now (Or.inl (by omega))) (fun h => (szIntSS_l0 (by omega) hw l 0 _ rfl (by omega) (by omega)).mono ?_)
  rintro t (h5 | ⟨h5, h6⟩)
  · exact Or.inl h5
  · exact Or.inr ⟨h5, by omega, h6⟩
theorem toIntSS_l0 {xs : List (List Int)} (hl : xs.length ≤ 1048576) (hw : ∀ x ∈ xs, x.length ≤ 1048576) : ∀ (d i : Nat), i + d = xs.length →
    Tot (fun k => laws_toIntSS.l0 k xs (xs.take i ++ List.replicate d []) i) (fun t => t = xs) := by
  intro d
  induction d with
  | zero =>
    intro i hi
    exact Tot.step (fun _ => laws_toIntSS.l0.eq_2 ..) (Tot.neg (by omega) (Tot.now (by rw [List.replicate_zero, List.append_nil]; exact List.take_of_length_le (by omega))))
  | succ d ih =>
    intro i hi
    refine Tot.step (fun _ => laws_toIntSS.l0.eq_2 ..) ?_
    have hx := hw xs[i] (List.getElem_mem (by omega))
    rw [rd1_get (by omega), w64s (by omega)]
    refine Tot.pos (by omega) (Tot.pos (by omega) (Tot.bind (toIntS_tot (by omega)) ?_))
    rintro _ rfl
    refine Tot.pos (by rw [List.length_append, List.length_replicate, List.length_take]; omega) ?_
    rw [Int.toNat_natCast, set_fill (by omega)]
    exact ih (i + 1) (by omega)
theorem toIntSS_tot {xs : List (List Int)} (hl : xs.length ≤ 1048576) (hw : ∀ x ∈ xs, x.length ≤ 1048576) : Tot (fun k => laws_toIntSS.f k xs) (fun t => t = xs) := by
  unfold laws_toIntSS.f
  refine Tot.pos (by omega) (Tot.pos (by omega) ?_)
  rw [Int.toNat_natCast]
  have := toIntSS_l0 hl hw xs.length 0 (by omega)
  rw [List.take_zero, List.nil_append] at this
  exact this
theorem eqIntSS_l0 {a : List (List Int)} (hl : a.length ≤ 1048576) (hw : ∀ x ∈ a, x.length ≤ 1048576) : ∀ (r : List (List Int)) (i : Nat), a.drop i = r →
    Tot (fun k => laws_eqIntSS.l0 k a a i) (fun t => t = true) := by
  intro r
  induction r with
  | nil =>
    intro i h
    have h3 := drop_nil h
    exact Tot.step (fun _ => laws_eqIntSS.l0.eq_2 ..) (Tot.neg (by omega) (Tot.now rfl))
  | cons x r ih =>
    intro i h
    obtain ⟨h3, h4, h5⟩ := drop_cons h
    have hx := hw x (List.mem_of_getElem? h5)
    refine Tot.step (fun _ => laws_eqIntSS.l0.eq_2 ..) ?_
    rw [rd1_at h5, w64s (by omega)]
    refine Tot.pos (by omega) (Tot.pos (by omega) (Tot.pos (by omega) (Tot.bind (eqIntS_tot (by omega)) ?_)))
    rintro _ rfl
    exact Tot.pos (by simp) (ih (i + 1) h4)
theorem eqIntSS_tot {a : List (List Int)} (hl : a.length ≤ 1048576) (hw : ∀ x ∈ a, x.length ≤ 1048576) : Tot (fun k => laws_eqIntSS.f k a a) (fun t => t = true) := by
  unfold laws_eqIntSS.f
  exact Tot.pos rfl (eqIntSS_l0 hl hw a 0 rfl)
theorem FnExactPrefer : ∀ (l : List (List Int)) (a b : Int), l.length ≤ maxLen → (∀ x ∈ l, x.length ≤ maxLen ∧ ∀ y ∈ x, (Lit.int .i64 y).wf = true) → (Lit.int .i64 a).wf = true → (Lit.int .i64 b).wf = true → ∃ k, laws_FnExactPrefer.f k l a b = some true := by
  intro l a b hl hw _ _
  refine Tot.ends (g := fun k => laws_FnExactPrefer.f k l a b) ?_
  unfold laws_FnExactPrefer.f
  refine Tot.bind (szIntSS_tot hl (fun x hx => (hw x hx).1)) ?_
  rintro t (ht | ⟨ht, hl2, hx2⟩)
  · exact Tot.pos ht (Tot.now rfl)
  refine Tot.neg (by omega) ?_
  refine Tot.bindv (toIntSS_tot hl2 hx2) ?_
  refine Tot.bindv (specPrefer_tot hl2 hx2) ?_
  refine Tot.bindv (toIntSS_tot hl2 hx2) ?_
  refine Tot.bindv (implPrefer_tot hl2 hx2) ?_
  refine Tot.pos rfl ?_
  refine Tot.bindv (toIntSS_tot hl2 hx2) ?_
  refine Tot.bindv (eqIntSS_tot hl2 hx2) ?_
  exact Tot.pos rfl (Tot.now rfl)
end Go.Proofs.Ytlcifhkbkmhcfaa.Pure
