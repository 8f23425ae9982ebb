/- FnExactValidShares: for all arguments ValidShares of the program and of the reference agree, and the arguments are left as they were. No condition beyond the statement's own. -/
import Derived.Test.YtlkcblhagcgboaaQFnExactValidSharesx4
import Derived.Test.YtlkcblhagcgboaaCore
namespace Go.Proofs.Ytlkcblhagcgboaa.Pure
open Go.RowKit Go.Proofs.Ytlkcblhagcgboaa.PFnExactValidShares Go.Proofs.YtlkcblhagcgboaaW.PrintWords
set_option linter.unusedSimpArgs false
set_option linter.unusedVariables false

def sumL : List Int → Int
  | [] => 0
  | x :: r => x + sumL r
theorem sumL_bound {l : List Int} (h : ∀ x ∈ l, 0 ≤ x ∧ x ≤ 1000000) : 0 ≤ sumL l ∧ sumL l ≤ 1000000 * l.length := by
  induction l with
  | nil => simp [sumL]
  | cons x r ih =>
    have h1 := ih (fun y hy => h y (List.mem_cons_of_mem _ hy))
    have h2 := h x (by simp)
    simp only [sumL, List.length_cons]
    omega
/-- A valid body. -/
def VB (ws : List Int) (need : Int) : Prop := (1 ≤ ws.length ∧ ws.length ≤ 12) ∧ (∀ w ∈ ws, 0 ≤ w ∧ w ≤ 100) ∧ 1 ≤ need ∧ need ≤ sumL ws
instance (ws : List Int) (need : Int) : Decidable (VB ws need) := inferInstanceAs (Decidable ((1 ≤ ws.length ∧ ws.length ≤ 12) ∧ (∀ w ∈ ws, 0 ≤ w ∧ w ≤ 100) ∧ 1 ≤ need ∧ need ≤ sumL ws))
theorem dfalse {p : Prop} {i : Decidable p} (h : ¬ p) : false = @decide p i := by
  symm; rw [decide_eq_false_iff_not]; exact h
theorem dtrue {p : Prop} {i : Decidable p} (h : p) : true = @decide p i := by
  symm; rw [decide_eq_true_iff]; exact h
theorem getD_set_true {s : List Bool} {a b : Nat} (ha : a < s.length) : (s.set a true).getD b false = false ↔ b ≠ a ∧ s.getD b false = false := by
  simp only [List.getD_eq_getElem?_getD, List.getElem?_set]
  by_cases h : a = b
  · subst h; simp [ha]
  · rw [if_neg h]
    constructor
    · intro h2; exact ⟨fun e => h e.symm, h2⟩
    · intro h2; exact h2.2
theorem differentBelow_l0 {xs : List Int} {n : Int} (hl : xs.length ≤ 1000000000000) : ∀ (r : List Int) (i : Nat) (s : List Bool), xs.drop i = r → (s.length : Int) = n →
    Tot (fun k => impl_differentBelow.l0 k n s xs xs.length i) (fun t => t = decide ((∀ x ∈ r, (0 ≤ x ∧ x < n) ∧ s.getD x.toNat false = false) ∧ r.Nodup)) := by
  intro r
  induction r with
  | nil =>
    intro i s h hs
    have := drop_nil h
    exact Tot.step (fun _ => impl_differentBelow.l0.eq_2 ..) (Tot.neg (by omega) (Tot.now (by simp)))
  | cons x r ih =>
    intro i s h hs
    obtain ⟨h1, h2, h3⟩ := drop_cons h
    refine Tot.step (fun _ => impl_differentBelow.l0.eq_2 ..) ?_
    rw [rd_at h3, w64s (by omega)]
    refine Tot.pos (by omega) (Tot.pos (by omega) (Tot.pos (by omega) (Tot.ite (fun h4 => Tot.now ?_) (fun h4 => Tot.ite (fun h5 => Tot.now ?_) (fun h5 => Tot.pos (by omega) (Tot.pos (by omega) (Tot.ite (fun h6 => Tot.now ?_) (fun h6 => ?_))))))))
    · symm
      rw [decide_eq_false_iff_not]
      intro h7
      have := (h7.1 x (by simp)).1
      omega
    · symm
      rw [decide_eq_false_iff_not]
      intro h7
      have := (h7.1 x (by simp)).1
      omega
    · symm
      rw [decide_eq_false_iff_not]
      intro h7
      have h8 := (h7.1 x (by simp)).2
      rw [rdOf, h8] at h6
      cases h6
    · have h6' : s.getD x.toNat false = false := by
        rw [rdOf] at h6
        simpa using h6
      have hx : x.toNat < s.length := by omega
      refine (ih (i + 1) (s.set x.toNat true) h2 (by simp; omega)).mono ?_
      rintro t rfl
      rw [decide_eq_decide]
      constructor
      · rintro ⟨h9, h10⟩
        refine ⟨fun y hy => ?_, List.nodup_cons.2 ⟨fun hx2 => ?_, h10⟩⟩
        · rcases List.mem_cons.1 hy with rfl | hy
          · exact ⟨⟨by omega, by omega⟩, h6'⟩
          · exact ⟨(h9 y hy).1, ((getD_set_true hx).1 (h9 y hy).2).2⟩
        · exact ((getD_set_true hx).1 (h9 x hx2).2).1 rfl
      · rintro ⟨h9, h10⟩
        obtain ⟨h11, h12⟩ := List.nodup_cons.1 h10
        refine ⟨fun y hy => ⟨(h9 y (List.mem_cons_of_mem _ hy)).1, (getD_set_true hx).2 ⟨fun h13 => ?_, (h9 y (List.mem_cons_of_mem _ hy)).2⟩⟩, h12⟩
        have h14 := (h9 y (List.mem_cons_of_mem _ hy)).1
        have h15 : y = x := by omega
        exact h11 (h15 ▸ hy)
theorem differentBelow_tot {xs : List Int} {n : Int} (hl : xs.length ≤ 1000000000000) (hn : 0 ≤ n) (hn2 : n ≤ 1000000000000) : Tot (fun k => impl_differentBelow.f k xs n) (fun t => t = decide (DB xs n)) := by
  unfold impl_differentBelow.f
  refine Tot.ite (fun h => Tot.now ?_) (fun h => Tot.pos hn (Tot.pos (by omega) ?_))
  · symm
    rw [decide_eq_false_iff_not]
    intro h2
    have := h2.le hn
    omega
  · refine (differentBelow_l0 hl xs 0 _ rfl (by simp; omega)).mono ?_
    rintro t rfl
    rw [decide_eq_decide]
    have : ∀ j, (List.replicate n.toNat false).getD j false = false := by
      intro j
      simp only [List.getD_eq_getElem?_getD, List.getElem?_replicate]
      split <;> rfl
    simp only [this, and_true]
    exact Iff.rfl
theorem allWithin_l0 {xs : List Int} {lo hi : Int} (hl : xs.length ≤ 1000000000000) : ∀ (r : List Int) (i : Nat), xs.drop i = r →
    Tot (fun k => impl_allWithin.l0 k lo hi xs xs.length i) (fun t => t = decide (∀ x ∈ r, lo ≤ x ∧ x ≤ hi)) := by
  intro r
  induction r with
  | nil =>
    intro i h
    have := drop_nil h
    exact Tot.step (fun _ => impl_allWithin.l0.eq_2 ..) (Tot.neg (by omega) (Tot.now (by simp)))
  | cons x r ih =>
    intro i h
    obtain ⟨h1, h2, h3⟩ := drop_cons h
    refine Tot.step (fun _ => impl_allWithin.l0.eq_2 ..) ?_
    rw [rd_at h3, w64s (by omega)]
    refine Tot.pos (by omega) (Tot.pos (by omega) (Tot.pos (by omega) (Tot.ite (fun h4 => Tot.now ?_) (fun h4 => Tot.ite (fun h5 => Tot.now ?_) (fun h5 => ?_)))))
    · symm
      rw [decide_eq_false_iff_not]
      exact fun h => by have := h x (by simp); omega
    · symm
      rw [decide_eq_false_iff_not]
      exact fun h => by have := h x (by simp); omega
    · refine (ih (i + 1) h2).mono ?_
      rintro t rfl
      rw [decide_eq_decide]
      simp only [List.mem_cons, forall_eq_or_imp]
      exact ⟨fun h => ⟨⟨by omega, by omega⟩, h⟩, fun h => h.2⟩
theorem allWithin_tot {xs : List Int} {lo hi : Int} (hl : xs.length ≤ 1000000000000) : Tot (fun k => impl_allWithin.f k xs lo hi) (fun t => t = decide (∀ x ∈ xs, lo ≤ x ∧ x ≤ hi)) := by
  unfold impl_allWithin.f
  exact allWithin_l0 hl xs 0 rfl
theorem inRange_eq (a b c : Int) : spec_inRange.f a b c = some (decide (b ≤ a ∧ a ≤ c)) := by
  unfold spec_inRange.f
  by_cases h : b ≤ a
  · rw [if_pos h]; simp [h]
  · rw [if_neg h]; simp [h]
theorem allIn_l0 {xs : List Int} {lo hi : Int} (hl : xs.length ≤ 1000000000000) : ∀ (r : List Int) (i : Nat), xs.drop i = r →
    Tot (fun k => spec_allIn.l0 k xs lo hi i) (fun t => t = decide (∀ x ∈ r, lo ≤ x ∧ x ≤ hi)) := by
  intro r
  induction r with
  | nil =>
    intro i h
    have := drop_nil h
    exact Tot.step (fun _ => spec_allIn.l0.eq_2 ..) (Tot.neg (by omega) (Tot.now (by simp)))
  | cons x r ih =>
    intro i h
    obtain ⟨h1, h2, h3⟩ := drop_cons h
    refine Tot.step (fun _ => spec_allIn.l0.eq_2 ..) ?_
    rw [rd_at h3, w64s (by omega), inRange_eq]
    simp only [Option.bind_some, decide_eq_true_eq]
    refine Tot.pos (by omega) (Tot.pos (by omega) (Tot.ite (fun h4 => ?_) (fun h4 => Tot.now ?_)))
    · refine (ih (i + 1) h2).mono ?_
      rintro t rfl
      rw [decide_eq_decide]
      simp only [List.mem_cons, forall_eq_or_imp]
      exact ⟨fun h => ⟨h4, h⟩, fun h => h.2⟩
    · symm
      rw [decide_eq_false_iff_not]
      exact fun h => h4 (h x (by simp))
theorem allIn_tot {xs : List Int} {lo hi : Int} (hl : xs.length ≤ 1000000000000) : Tot (fun k => spec_allIn.f k xs lo hi) (fun t => t = decide (∀ x ∈ xs, lo ≤ x ∧ x ≤ hi)) := by
  unfold spec_allIn.f
  exact allIn_l0 hl xs 0 rfl
theorem placeIn_l0 {xs : List Int} {v : Int} (hl : xs.length ≤ 1000000000000) : ∀ (r : List Int) (i : Nat), xs.drop i = r →
    Tot (fun k => spec_placeIn.l0 k xs v i) (fun t => t = posFrom r v i) := by
  intro r
  induction r with
  | nil =>
    intro i h
    have := drop_nil h
    exact Tot.step (fun _ => spec_placeIn.l0.eq_2 ..) (Tot.neg (by omega) (Tot.now rfl))
  | cons x r ih =>
    intro i h
    obtain ⟨h1, h2, h3⟩ := drop_cons h
    refine Tot.step (fun _ => spec_placeIn.l0.eq_2 ..) ?_
    rw [rd_at h3, w64s (by omega), posFrom]
    refine Tot.pos (by omega) (Tot.pos (by omega) (Tot.ite (fun h4 => ?_) (fun h4 => ?_)))
    · rw [if_pos h4]; exact Tot.now rfl
    · rw [if_neg h4]; exact ih (i + 1) h2
theorem placeIn_tot {xs : List Int} {v : Int} (hl : xs.length ≤ 1000000000000) : Tot (fun k => spec_placeIn.f k xs v) (fun t => t = posFrom xs v 0) := by
  unfold spec_placeIn.f
  exact placeIn_l0 hl xs 0 rfl
/-! shares -/
abbrev Sh := S86
def okS (s : Sh) : Prop := (1 ≤ s.f0 ∧ s.f0 ≤ 250) ∧ 0 ≤ s.f1 ∧ s.f1 ≤ 250
instance (s : Sh) : Decidable (okS s) := inferInstanceAs (Decidable ((1 ≤ s.f0 ∧ s.f0 ≤ 250) ∧ 0 ≤ s.f1 ∧ s.f1 ≤ 250))
def SV (l : List Sh) : Prop := l.length ≤ 12 ∧ (∀ s ∈ l, okS s) ∧ (l.map (fun s => s.f0)).Nodup
instance (l : List Sh) : Decidable (SV l) := inferInstanceAs (Decidable (l.length ≤ 12 ∧ (∀ s ∈ l, okS s) ∧ (l.map (fun s => s.f0)).Nodup))
theorem rdSh_at {l : List Sh} {i : Nat} {r : Sh} (h : l[i]? = some r) : rd_T86 l (i : Int) = r := by
  simp [rd_T86, List.getD_eq_getElem?_getD, h]
theorem implShares_l0 {l : List Sh} (hl : l.length ≤ 12) : ∀ (d i : Nat), i + d = l.length →
    Tot (fun k => impl_ValidShares.l0 k ((l.take i).map (fun s => s.f0)) ((l.take i).map (fun s => s.f1)) l l.length i) (fun t => t = decide (SV l)) := by
  intro d
  induction d with
  | zero =>
    intro i hi
    refine Tot.step (fun _ => impl_ValidShares.l0.eq_2 ..) (Tot.neg (by omega) ?_)
    rw [List.take_of_length_le (by omega)]
    refine Tot.bind (allWithin_tot (by simp; omega)) ?_
    rintro _ rfl
    simp only [decide_eq_true_eq]
    refine Tot.ite (fun h1 => ?_) (fun h1 => Tot.now (dfalse fun h => h1 ?_))
    · refine Tot.bind (differentBelow_tot (by simp; omega) (by omega) (by omega)) ?_
      rintro _ rfl
      simp only [decide_eq_true_eq]
      refine Tot.ite (fun h2 => ?_) (fun h2 => Tot.now (dfalse fun h => h2 ⟨?_, h.2.2⟩))
      · refine Tot.bind (allWithin_tot (by simp; omega)) ?_
        rintro _ rfl
        refine Tot.now ?_
        rw [decide_eq_decide]
        constructor
        · intro h3
          exact ⟨hl, fun s hs => ⟨h1 _ (List.mem_map.2 ⟨s, hs, rfl⟩), h3 _ (List.mem_map.2 ⟨s, hs, rfl⟩)⟩, h2.2⟩
        · intro h3 x hx
          obtain ⟨s, hs, rfl⟩ := List.mem_map.1 hx
          exact (h3.2.1 s hs).2
      · intro x hx
        have := h1 x hx
        omega
    · intro x hx
      obtain ⟨s, hs, rfl⟩ := List.mem_map.1 hx
      exact (h.2.1 s hs).1
  | succ d ih =>
    intro i hi
    have hg : l[i]? = some l[i] := List.getElem?_eq_getElem (by omega)
    refine Tot.step (fun _ => impl_ValidShares.l0.eq_2 ..) ?_
    rw [rdSh_at hg, w64s (by omega)]
    refine Tot.pos (by omega) (Tot.pos (by omega) (Tot.pos (by omega) (Tot.known ?_)))
    refine Tot.pos (by rw [List.length_map, List.length_take]; show min i l.length + 1 < _; omega) (Tot.known ?_)
    refine Tot.pos (by rw [List.length_map, List.length_take]; show min i l.length + 1 < _; omega) ?_
    have h := ih (i + 1) (by omega)
    rw [List.take_succ_eq_append_getElem (show i < l.length by omega), List.map_append, List.map_append] at h
    exact h
theorem implValidShares_tot {l : List Sh} (hl : l.length ≤ 1000000000) : Tot (fun k => impl_ValidShares.f k l) (fun t => t = decide (SV l)) := by
  unfold impl_ValidShares.f
  exact Tot.ite (fun h => Tot.now (dfalse fun h2 => by have := h2.1; omega)) (fun h => implShares_l0 (by omega) l.length 0 (by omega))
theorem validPlaces_l0 {xs : List Int} (hl : xs.length ≤ 1000000000000) : ∀ (r : List Int) (i : Nat), xs.drop i = r →
    Tot (fun k => spec_validPlaces.l0 k xs i) (fun t => t = decide (((∀ x ∈ r, x ∉ xs.take i) ∧ r.Nodup) ∧ xs.length ≤ 12 ∧ ∀ x ∈ xs, 1 ≤ x ∧ x ≤ 250)) := by
  intro r
  induction r with
  | nil =>
    intro i h
    have := drop_nil h
    refine Tot.step (fun _ => spec_validPlaces.l0.eq_2 ..) (Tot.neg (by omega) (Tot.ite (fun h1 => ?_) (fun h1 => Tot.now (dfalse fun h2 => by have := h2.2.1; omega))))
    refine Tot.bind (allIn_tot (by omega)) ?_
    rintro _ rfl
    refine Tot.now ?_
    rw [decide_eq_decide]
    exact ⟨fun h2 => ⟨⟨fun x hx => by simp at hx, List.nodup_nil⟩, by omega, h2⟩, fun h2 => h2.2.2⟩
  | cons x r ih =>
    intro i h
    obtain ⟨h1, h2, h3⟩ := drop_cons h
    refine Tot.step (fun _ => spec_validPlaces.l0.eq_2 ..) ?_
    rw [rd_at h3, w64s (by omega), Int.toNat_natCast]
    refine Tot.pos (by omega) (Tot.pos (by omega) (Tot.pos (by omega) ?_))
    refine Tot.bind (placeIn_tot (by simp; omega)) ?_
    rintro t rfl
    refine Tot.ite (fun h5 => Tot.now (dfalse fun h7 => ?_)) (fun h5 => ?_)
    · exact h7.1.1 x (by simp) ((posFrom_ge (l := xs.take i) (v := x) (Int.le_refl 0)).1 h5)
    · have h6 : x ∉ xs.take i := fun h7 => h5 ((posFrom_ge (l := xs.take i) (v := x) (Int.le_refl 0)).2 h7)
      refine (ih (i + 1) h2).mono ?_
      rintro t rfl
      have h8 : xs.take (i + 1) = xs.take i ++ [x] := by rw [List.take_add_one, h3]; rfl
      rw [h8, decide_eq_decide]
      constructor
      · rintro ⟨⟨h9, h10⟩, h11⟩
        refine ⟨⟨fun y hy => ?_, List.nodup_cons.2 ⟨fun hx => ?_, h10⟩⟩, h11⟩
        · rcases List.mem_cons.1 hy with rfl | hy
          · exact h6
          · exact fun h12 => h9 y hy (List.mem_append_left _ h12)
        · exact h9 x hx (by simp)
      · rintro ⟨⟨h9, h10⟩, h11⟩
        obtain ⟨h12, h13⟩ := List.nodup_cons.1 h10
        refine ⟨⟨fun y hy h14 => ?_, h13⟩, h11⟩
        rcases List.mem_append.1 h14 with h14 | h14
        · exact h9 y (List.mem_cons_of_mem _ hy) h14
        · rw [List.mem_singleton] at h14
          exact h12 (h14 ▸ hy)
theorem validPlaces_tot {xs : List Int} (hl : xs.length ≤ 1000000000000) : Tot (fun k => spec_validPlaces.f k xs) (fun t => t = decide (xs.Nodup ∧ xs.length ≤ 12 ∧ ∀ x ∈ xs, 1 ≤ x ∧ x ≤ 250)) := by
  unfold spec_validPlaces.f
  refine (validPlaces_l0 hl xs 0 rfl).mono ?_
  rintro t rfl
  rw [decide_eq_decide]
  simp
theorem specShares_l0 {l : List Sh} (hl : l.length ≤ 1000000000) : ∀ (d i : Nat), i + d = l.length → (∀ s ∈ l.take i, 0 ≤ s.f1 ∧ s.f1 ≤ 250) →
    Tot (fun k => spec_validShares.l0 k l ((l.take i).map (fun s => s.f0)) i) (fun t => t = decide (SV l)) := by
  intro d
  induction d with
  | zero =>
    intro i hi hok
    refine Tot.step (fun _ => spec_validShares.l0.eq_2 ..) (Tot.neg (by omega) ?_)
    rw [List.take_of_length_le (by omega)] at hok ⊢
    refine Tot.bind (validPlaces_tot (by simp; omega)) ?_
    rintro _ rfl
    refine Tot.now ?_
    rw [decide_eq_decide]
    constructor
    · rintro ⟨h1, h2, h3⟩
      exact ⟨by simpa using h2, fun s hs => ⟨h3 _ (List.mem_map.2 ⟨s, hs, rfl⟩), hok s hs⟩, h1⟩
    · rintro ⟨h1, h2, h3⟩
      refine ⟨h3, by simpa using h1, fun x hx => ?_⟩
      obtain ⟨s, hs, rfl⟩ := List.mem_map.1 hx
      exact (h2 s hs).1
  | succ d ih =>
    intro i hi hok
    have hg : l[i]? = some l[i] := List.getElem?_eq_getElem (by omega)
    refine Tot.step (fun _ => spec_validShares.l0.eq_2 ..) ?_
    rw [rdSh_at hg, w64s (by omega)]
    unfold spec_validRest.f
    simp only [inRange_eq, Option.bind_some, decide_eq_true_eq]
    refine Tot.pos (by omega) (Tot.pos (by omega) (Tot.ite (fun h1 => Tot.pos (by rw [List.length_map, List.length_take]; omega) ?_) (fun h1 => Tot.now (dfalse fun h2 => h1 (h2.2.1 _ (List.mem_of_getElem? hg)).2))))
    have h := ih (i + 1) (by omega) (by
      intro s hs
      rw [List.take_succ_eq_append_getElem (show i < l.length by omega)] at hs
      rcases List.mem_append.1 hs with hs | hs
      · exact hok s hs
      · rw [List.mem_singleton] at hs; rw [hs]; exact h1)
    rw [List.take_succ_eq_append_getElem (show i < l.length by omega), List.map_append] at h
    exact h
theorem specValidShares_tot {l : List Sh} (hl : l.length ≤ 1000000000) : Tot (fun k => spec_ValidShares.f k l) (fun t => t = decide (SV l)) := by
  unfold spec_ValidShares.f spec_validShares.f
  refine Tot.bind (specShares_l0 hl l.length 0 (by omega) (by simp)) ?_
  rintro _ rfl
  exact Tot.now rfl
/-! the mirror of Share -/
def convShare (r : S88) : S86 := ⟨r.f0, r.f1⟩
theorem rdLShare_at {l : List S88} {i : Nat} {r : S88} (h : l[i]? = some r) : rd_T88 l (i : Int) = r := by
  simp [rd_T88, List.getD_eq_getElem?_getD, h]
theorem rdIShare_at {l : List S86} {i : Nat} {r : S86} (h : l[i]? = some r) : rd_T86 l (i : Int) = r := by
  simp [rd_T86, List.getD_eq_getElem?_getD, h]
theorem szShare_eq {l : List S88} (hl : l.length ≤ maxLen) {a : Int} (ha : 0 ≤ a) (ha2 : a ≤ 1048576) : laws_szShareS.f l a = some (if a - (l.length : Int) < 0 then -1 else a - (l.length : Int)) := by
  unfold maxLen at hl
  unfold laws_szShareS.f
  rw [w64 (x := a - (l.length : Int)) (by omega) (by omega)]
  split <;> rfl
theorem toShare_l0 {xs : List S88} (hl : xs.length ≤ 1000000000) : ∀ (d i : Nat), i + d = xs.length →
    Tot (fun k => laws_toShareS.l0 k xs ((xs.take i).map convShare ++ List.replicate d z86) i) (fun t => t = xs.map convShare) := by
  intro d
  induction d with
  | zero =>
    intro i hi
    exact Tot.step (fun _ => laws_toShareS.l0.eq_2 ..) (Tot.neg (by omega) (Tot.now (by rw [List.replicate_zero, List.append_nil, List.take_of_length_le (by omega)])))
  | succ d ih =>
    intro i hi
    refine Tot.step (fun _ => laws_toShareS.l0.eq_2 ..) ?_
    have hg : xs[i]? = some xs[i] := List.getElem?_eq_getElem (by omega)
    rw [rdLShare_at hg, w64s (by omega), Int.toNat_natCast]
    refine Tot.pos (by omega) (Tot.pos (by omega) ?_)
    refine Tot.known (F := fun k (t : Int × Int) => if (i : Int) < (((xs.take i).map convShare ++ List.replicate (d + 1) z86).length : Int) then laws_toShareS.l0 k xs (((xs.take i).map convShare ++ List.replicate (d + 1) z86).set i (⟨t.1, t.2⟩ : S86)) ((i + 1 : Nat) : Int) else none) ?_
    refine Tot.pos (by rw [List.length_append, List.length_replicate, List.length_map, List.length_take]; omega) ?_
    have h := ih (i + 1) (by omega)
    rw [← set_fill_map (z := z86) (d := d) (show i < xs.length by omega)] at h
    exact h
theorem toShare_tot {xs : List S88} (hl : xs.length ≤ 1000000000) : Tot (fun k => laws_toShareS.f k xs) (fun t => t = xs.map convShare) := by
  unfold laws_toShareS.f
  refine Tot.pos (by omega) (Tot.pos (by omega) ?_)
  rw [Int.toNat_natCast]
  exact toShare_l0 hl xs.length 0 (by omega)
theorem eqShare_l0 {xs : List S86} (hl : xs.length ≤ 1000000000) : ∀ (d i : Nat), i + d = xs.length → Tot (fun k => laws_eqShareS.l0 k xs xs i) (fun t => t = true) := by
  intro d
  induction d with
  | zero =>
    intro i hi
    exact Tot.step (fun _ => laws_eqShareS.l0.eq_2 ..) (Tot.neg (by omega) (Tot.now rfl))
  | succ d ih =>
    intro i hi
    refine Tot.step (fun _ => laws_eqShareS.l0.eq_2 ..) ?_
    have hg : xs[i]? = some xs[i] := List.getElem?_eq_getElem (by omega)
    have he : ∀ r : S86, laws_eqShare.f r.f0 r.f1 r.f0 r.f1 = some true := fun r => by simp [laws_eqShare.f]
    rw [rdIShare_at hg, w64s (by omega), he]
    refine Tot.pos (by omega) (Tot.pos (by omega) (Tot.pos (by omega) ?_))
    refine Tot.known (F := fun k (t : Bool) => if t = true then laws_eqShareS.l0 k xs xs ((i + 1 : Nat) : Int) else some false) ?_
    exact Tot.pos rfl (ih (i + 1) (by omega))
theorem eqShare_tot {xs : List S86} (hl : xs.length ≤ 1000000000) : Tot (fun k => laws_eqShareS.f k xs xs) (fun t => t = true) := by
  unfold laws_eqShareS.f
  exact Tot.pos rfl (eqShare_l0 hl xs.length 0 (by omega))

theorem FnExactValidShares : ∀ (l : List S88), l.length ≤ maxLen → (∀ x ∈ l, (Lit.int .i64 x.f0).wf = true ∧ (Lit.int .i64 x.f1).wf = true) → ∃ k, laws_FnExactValidShares.f k l = some true := by
  intro l hl hw
  refine Tot.ends (g := fun k => laws_FnExactValidShares.f k l) ?_
  unfold laws_FnExactValidShares.f
  rw [szShare_eq hl (by omega) (by omega)]
  by_cases h0 : (1048576 : Int) - (l.length : Int) < 0
  · rw [if_pos h0]
    simp only [Option.bind_some]
    exact Tot.pos (by omega) (Tot.now rfl)
  rw [if_neg h0]
  simp only [Option.bind_some]
  refine Tot.neg (by omega) ?_
  refine Tot.bind (toShare_tot (by omega)) ?_
  rintro _ rfl
  have hm : (l.map convShare).length = l.length := List.length_map _
  refine Tot.bind (specValidShares_tot (by omega)) ?_
  rintro _ rfl
  refine Tot.bind (toShare_tot (by omega)) ?_
  rintro _ rfl
  refine Tot.bind (implValidShares_tot (by omega)) ?_
  rintro _ rfl
  refine Tot.neg (by simp) ?_
  refine Tot.bind (toShare_tot (by omega)) ?_
  rintro _ rfl
  refine Tot.bind (eqShare_tot (by omega)) ?_
  rintro _ rfl
  exact Tot.pos rfl (Tot.now rfl)
end Go.Proofs.Ytlkcblhagcgboaa.Pure
