/- FnValidShares: for every code, valid shares are valid without any one of them. No condition beyond the statement's own. -/
import Derived.Test.YtmgfjelhgkihfaaQFnValidSharesx4
import Derived.Test.YtmgfjelhgkihfaaCore
namespace Go.Proofs.Ytmgfjelhgkihfaa.Pure
open Go.RowKit Go.Proofs.Ytmgfjelhgkihfaa.PFnValidShares Go.Proofs.YtmgfjelhgkihfaaW.PrintWords
set_option linter.unusedSimpArgs false
set_option linter.unusedVariables false

/-! the reader -/
theorem pick_tot {b : List Int} (hb : ∀ x ∈ b, 0 ≤ x ∧ x < 256) {p n : Int} (hp : 0 ≤ p) (hp2 : p ≤ 1000000000) (hn : n ≤ 1000000000000) :
    Tot (fun k => spec_reader_pick.f k b p n) (fun r => r.2 = p + 1 ∧ 0 ≤ r.1 ∧ (r.1 < n ∨ r.1 = 0)) := by
  have e1 : wrap64 (p + 1) = p + 1 := w64 (by omega) (by omega)
  have e2 : wrap64 (p + 1 - 1) = p := by rw [w64 (by omega) (by omega)]; omega
  have main : ∀ t : Bool, (t = false → 1 ≤ n ∧ b.length ≠ 0) → Tot (fun k => spec_reader_pick.j0 k n t b (p + 1)) (fun r => r.2 = p + 1 ∧ 0 ≤ r.1 ∧ (r.1 < n ∨ r.1 = 0)) := by
    intro t ht
    refine Tot.step (fun _ => spec_reader_pick.j0.eq_2 ..) ?_
    simp only [e2]
    cases t with
    | true => exact Tot.pos rfl (Tot.now ⟨rfl, Int.le_refl _, .inr rfl⟩)
    | false =>
      obtain ⟨hn1, hne⟩ := ht rfl
      refine Tot.neg (by simp) ?_
      by_cases hlt : p < (b.length : Int)
      · refine Tot.pos hlt (Tot.pos hp (Tot.neg (by omega) ?_))
        have hr := hb _ (rd_mem hp hlt)
        rw [w64 (x := rd b p) (by omega) (by omega), tmod_nn hr.1]
        exact Tot.now ⟨rfl, Int.emod_nonneg _ (by omega), .inl (Int.emod_lt_of_pos _ (by omega))⟩
      · refine Tot.neg hlt (Tot.neg (by omega) ?_)
        have hlen : 0 < (b.length : Int) := by omega
        have i1 : 0 ≤ Int.tmod p b.length ∧ Int.tmod p b.length < b.length := by
          rw [tmod_nn hp]; exact ⟨Int.emod_nonneg _ (by omega), Int.emod_lt_of_pos _ hlen⟩
        have e3 : wrap64 (wrap64 (p * 7) + 3) = p * 7 + 3 := by
          rw [w64 (x := p * 7) (by omega) (by omega)]; exact w64 (by omega) (by omega)
        rw [e3]
        have i2 : 0 ≤ Int.tmod (p * 7 + 3) b.length ∧ Int.tmod (p * 7 + 3) b.length < b.length := by
          rw [tmod_nn (by omega)]; exact ⟨Int.emod_nonneg _ (by omega), Int.emod_lt_of_pos _ hlen⟩
        refine Tot.pos i1.1 (Tot.pos i1.2 (Tot.pos i2.1 (Tot.pos i2.2 (Tot.neg (by omega) ?_))))
        have hu := hb _ (rd_mem i1.1 i1.2)
        have hv := hb _ (rd_mem i2.1 i2.2)
        have hq : 0 ≤ Int.tdiv p b.length ∧ Int.tdiv p b.length ≤ p := by
          rw [tdiv_nn hp]
          exact ⟨Int.ediv_nonneg hp (by omega), Int.ediv_le_self _ hp⟩
        generalize rd b (Int.tmod p b.length) = u at hu ⊢
        generalize rd b (Int.tmod (p * 7 + 3) b.length) = v at hv ⊢
        generalize Int.tdiv p b.length = q at hq ⊢
        rw [w64 (x := u) (by omega) (by omega), w64 (x := v) (by omega) (by omega), w64 (x := q) (by omega) (by omega), w64 (x := u * 131) (by omega) (by omega), w64 (x := v * 1117) (by omega) (by omega), w64 (x := p * 29) (by omega) (by omega), w64 (x := q * 53) (by omega) (by omega),
          w64 (x := u * 131 + v * 1117) (by omega) (by omega), w64 (x := u * 131 + v * 1117 + p * 29) (by omega) (by omega), w64 (x := u * 131 + v * 1117 + p * 29 + q * 53) (by omega) (by omega)]
        have hx : 0 ≤ u * 131 + v * 1117 + p * 29 + q * 53 ∧ u * 131 + v * 1117 + p * 29 + q * 53 < 4611686018427387904 := by omega
        generalize u * 131 + v * 1117 + p * 29 + q * 53 = x at hx ⊢
        rw [tdiv_nn hx.1, w64 (x := x / 64) (by omega) (by omega)]
        have hz := xor_nn hx.1 hx.2 (b := x / 64) (by omega) (by omega)
        rw [tmod_nn hz]
        exact Tot.now ⟨rfl, Int.emod_nonneg _ (by omega), .inl (Int.emod_lt_of_pos _ (by omega))⟩
  unfold spec_reader_pick.f
  rw [e1]
  refine Tot.ite (fun _ => main true (fun h => by cases h)) (fun h => main _ (fun h2 => ⟨by omega, fun h3 => ?_⟩))
  rw [h3] at h2
  simp at h2
theorem one_tot {b : List Int} (hb : ∀ x ∈ b, 0 ≤ x ∧ x < 256) {p : Int} (hp : 0 ≤ p) (hp2 : p ≤ 1000000000) {l : List Int} (hl : 0 < l.length) (hl2 : l.length ≤ 1000) :
    Tot (fun k => spec_reader_one.f k b p l) (fun r => r.2 = p + 1 ∧ r.1 ∈ l) := by
  unfold spec_reader_one.f
  refine Tot.bind (pick_tot hb hp hp2 (by omega)) ?_
  rintro ⟨v, q⟩ ⟨h1, h2, h3⟩
  simp only at h1 h2 h3 ⊢
  have h4 : v < (l.length : Int) := by omega
  exact Tot.pos h2 (Tot.pos h4 (Tot.now ⟨h1, rd_mem h2 h4⟩))
theorem newReader_tot {l : List Int} (h : ∀ x ∈ l, (Lit.int .u8 x).wf = true) : ∃ b, spec_newReader.f l = some (b, 0) ∧ b.length ≤ 2000 ∧ ∀ x ∈ b, 0 ≤ x ∧ x < 256 := by
  unfold spec_newReader.f
  by_cases h1 : (l.length : Int) > 2000
  · rw [if_pos h1, if_pos (by omega)]
    exact ⟨_, rfl, by simp; omega, fun x hx => wf_u8 (h x (List.mem_of_mem_take hx))⟩
  · rw [if_neg h1]
    exact ⟨_, rfl, by omega, fun x hx => wf_u8 (h x hx)⟩
def sumL : List Int → Int
  | [] => 0
  | x :: r => x + sumL r
theorem sumL_bound {l : List Int} (h : ∀ x ∈ l, 0 ≤ x ∧ x ≤ 1000000) : 0 ≤ sumL l ∧ sumL l ≤ 1000000 * l.length := by
  induction l with
  | nil => simp [sumL]
  | cons x r ih =>
    have h1 := ih (fun y hy => h y (List.mem_cons_of_mem _ hy))
    have h2 := h x (by simp)
    simp only [sumL, List.length_cons]
    omega
/-- A valid body. -/
def VB (ws : List Int) (need : Int) : Prop := (1 ≤ ws.length ∧ ws.length ≤ 12) ∧ (∀ w ∈ ws, 0 ≤ w ∧ w ≤ 100) ∧ 1 ≤ need ∧ need ≤ sumL ws
instance (ws : List Int) (need : Int) : Decidable (VB ws need) := inferInstanceAs (Decidable ((1 ≤ ws.length ∧ ws.length ≤ 12) ∧ (∀ w ∈ ws, 0 ≤ w ∧ w ≤ 100) ∧ 1 ≤ need ∧ need ≤ sumL ws))
theorem dfalse {p : Prop} {i : Decidable p} (h : ¬ p) : false = @decide p i := by
  symm; rw [decide_eq_false_iff_not]; exact h
theorem dtrue {p : Prop} {i : Decidable p} (h : p) : true = @decide p i := by
  symm; rw [decide_eq_true_iff]; exact h
theorem getD_set_true {s : List Bool} {a b : Nat} (ha : a < s.length) : (s.set a true).getD b false = false ↔ b ≠ a ∧ s.getD b false = false := by
  simp only [List.getD_eq_getElem?_getD, List.getElem?_set]
  by_cases h : a = b
  · subst h; simp [ha]
  · rw [if_neg h]
    constructor
    · intro h2; exact ⟨fun e => h e.symm, h2⟩
    · intro h2; exact h2.2
theorem differentBelow_l0 {xs : List Int} {n : Int} (hl : xs.length ≤ 1000000000000) : ∀ (r : List Int) (i : Nat) (s : List Bool), xs.drop i = r → (s.length : Int) = n →
    Tot (fun k => impl_differentBelow.l0 k n s xs xs.length i) (fun t => t = decide ((∀ x ∈ r, (0 ≤ x ∧ x < n) ∧ s.getD x.toNat false = false) ∧ r.Nodup)) := by
  intro r
  induction r with
  | nil =>
    intro i s h hs
    have := drop_nil h
    exact Tot.step (fun _ => impl_differentBelow.l0.eq_2 ..) (Tot.neg (by omega) (Tot.now (by simp)))
  | cons x r ih =>
    intro i s h hs
    obtain ⟨h1, h2, h3⟩ := drop_cons h
    refine Tot.step (fun _ => impl_differentBelow.l0.eq_2 ..) ?_
    rw [rd_at h3, w64s (by omega)]
    refine Tot.pos (by omega) (Tot.pos (by omega) (Tot.pos (by omega) (Tot.ite (fun h4 => Tot.now ?_) (fun h4 => Tot.ite (fun h5 => Tot.now ?_) (fun h5 => Tot.pos (by omega) (Tot.pos (by omega) (Tot.ite (fun h6 => Tot.now ?_) (fun h6 => ?_))))))))
    · symm
      rw [decide_eq_false_iff_not]
      intro h7
      have := (h7.1 x (by simp)).1
      omega
    · symm
      rw [decide_eq_false_iff_not]
      intro h7
      have := (h7.1 x (by simp)).1
      omega
    · symm
      rw [decide_eq_false_iff_not]
      intro h7
      have h8 := (h7.1 x (by simp)).2
      rw [rdOf, h8] at h6
      cases h6
    · have h6' : s.getD x.toNat false = false := by
        rw [rdOf] at h6
        simpa using h6
      have hx : x.toNat < s.length := by omega
      refine (ih (i + 1) (s.set x.toNat true) h2 (by simp; omega)).mono ?_
      rintro t rfl
      rw [decide_eq_decide]
      constructor
      · rintro ⟨h9, h10⟩
        refine ⟨fun y hy => ?_, List.nodup_cons.2 ⟨fun hx2 => ?_, h10⟩⟩
        · rcases List.mem_cons.1 hy with rfl | hy
          · exact ⟨⟨by omega, by omega⟩, h6'⟩
          · exact ⟨(h9 y hy).1, ((getD_set_true hx).1 (h9 y hy).2).2⟩
        · exact ((getD_set_true hx).1 (h9 x hx2).2).1 rfl
      · rintro ⟨h9, h10⟩
        obtain ⟨h11, h12⟩ := List.nodup_cons.1 h10
        refine ⟨fun y hy => ⟨(h9 y (List.mem_cons_of_mem _ hy)).1, (getD_set_true hx).2 ⟨fun h13 => ?_, (h9 y (List.mem_cons_of_mem _ hy)).2⟩⟩, h12⟩
        have h14 := (h9 y (List.mem_cons_of_mem _ hy)).1
        have h15 : y = x := by omega
        exact h11 (h15 ▸ hy)
theorem differentBelow_tot {xs : List Int} {n : Int} (hl : xs.length ≤ 1000000000000) (hn : 0 ≤ n) (hn2 : n ≤ 1000000000000) : Tot (fun k => impl_differentBelow.f k xs n) (fun t => t = decide (DB xs n)) := by
  unfold impl_differentBelow.f
  refine Tot.ite (fun h => Tot.now ?_) (fun h => Tot.pos hn (Tot.pos (by omega) ?_))
  · symm
    rw [decide_eq_false_iff_not]
    intro h2
    have := h2.le hn
    omega
  · refine (differentBelow_l0 hl xs 0 _ rfl (by simp; omega)).mono ?_
    rintro t rfl
    rw [decide_eq_decide]
    have : ∀ j, (List.replicate n.toNat false).getD j false = false := by
      intro j
      simp only [List.getD_eq_getElem?_getD, List.getElem?_replicate]
      split <;> rfl
    simp only [this, and_true]
    exact Iff.rfl
theorem allWithin_l0 {xs : List Int} {lo hi : Int} (hl : xs.length ≤ 1000000000000) : ∀ (r : List Int) (i : Nat), xs.drop i = r →
    Tot (fun k => impl_allWithin.l0 k lo hi xs xs.length i) (fun t => t = decide (∀ x ∈ r, lo ≤ x ∧ x ≤ hi)) := by
  intro r
  induction r with
  | nil =>
    intro i h
    have := drop_nil h
    exact Tot.step (fun _ => impl_allWithin.l0.eq_2 ..) (Tot.neg (by omega) (Tot.now (by simp)))
  | cons x r ih =>
    intro i h
    obtain ⟨h1, h2, h3⟩ := drop_cons h
    refine Tot.step (fun _ => impl_allWithin.l0.eq_2 ..) ?_
    rw [rd_at h3, w64s (by omega)]
    refine Tot.pos (by omega) (Tot.pos (by omega) (Tot.pos (by omega) (Tot.ite (fun h4 => Tot.now ?_) (fun h4 => Tot.ite (fun h5 => Tot.now ?_) (fun h5 => ?_)))))
    · symm
      rw [decide_eq_false_iff_not]
      exact fun h => by have := h x (by simp); omega
    · symm
      rw [decide_eq_false_iff_not]
      exact fun h => by have := h x (by simp); omega
    · refine (ih (i + 1) h2).mono ?_
      rintro t rfl
      rw [decide_eq_decide]
      simp only [List.mem_cons, forall_eq_or_imp]
      exact ⟨fun h => ⟨⟨by omega, by omega⟩, h⟩, fun h => h.2⟩
theorem allWithin_tot {xs : List Int} {lo hi : Int} (hl : xs.length ≤ 1000000000000) : Tot (fun k => impl_allWithin.f k xs lo hi) (fun t => t = decide (∀ x ∈ xs, lo ≤ x ∧ x ≤ hi)) := by
  unfold impl_allWithin.f
  exact allWithin_l0 hl xs 0 rfl
theorem inRange_eq (a b c : Int) : spec_inRange.f a b c = some (decide (b ≤ a ∧ a ≤ c)) := by
  unfold spec_inRange.f
  by_cases h : b ≤ a
  · rw [if_pos h]; simp [h]
  · rw [if_neg h]; simp [h]
theorem allIn_l0 {xs : List Int} {lo hi : Int} (hl : xs.length ≤ 1000000000000) : ∀ (r : List Int) (i : Nat), xs.drop i = r →
    Tot (fun k => spec_allIn.l0 k xs lo hi i) (fun t => t = decide (∀ x ∈ r, lo ≤ x ∧ x ≤ hi)) := by
  intro r
  induction r with
  | nil =>
    intro i h
    have := drop_nil h
    exact Tot.step (fun _ => spec_allIn.l0.eq_2 ..) (Tot.neg (by omega) (Tot.now (by simp)))
  | cons x r ih =>
    intro i h
    obtain ⟨h1, h2, h3⟩ := drop_cons h
    refine Tot.step (fun _ => spec_allIn.l0.eq_2 ..) ?_
    rw [rd_at h3, w64s (by omega), inRange_eq]
    simp only [Option.bind_some, decide_eq_true_eq]
    refine Tot.pos (by omega) (Tot.pos (by omega) (Tot.ite (fun h4 => ?_) (fun h4 => Tot.now ?_)))
    · refine (ih (i + 1) h2).mono ?_
      rintro t rfl
      rw [decide_eq_decide]
      simp only [List.mem_cons, forall_eq_or_imp]
      exact ⟨fun h => ⟨h4, h⟩, fun h => h.2⟩
    · symm
      rw [decide_eq_false_iff_not]
      exact fun h => h4 (h x (by simp))
theorem allIn_tot {xs : List Int} {lo hi : Int} (hl : xs.length ≤ 1000000000000) : Tot (fun k => spec_allIn.f k xs lo hi) (fun t => t = decide (∀ x ∈ xs, lo ≤ x ∧ x ≤ hi)) := by
  unfold spec_allIn.f
  exact allIn_l0 hl xs 0 rfl
theorem placeIn_l0 {xs : List Int} {v : Int} (hl : xs.length ≤ 1000000000000) : ∀ (r : List Int) (i : Nat), xs.drop i = r →
    Tot (fun k => spec_placeIn.l0 k xs v i) (fun t => t = posFrom r v i) := by
  intro r
  induction r with
  | nil =>
    intro i h
    have := drop_nil h
    exact Tot.step (fun _ => spec_placeIn.l0.eq_2 ..) (Tot.neg (by omega) (Tot.now rfl))
  | cons x r ih =>
    intro i h
    obtain ⟨h1, h2, h3⟩ := drop_cons h
    refine Tot.step (fun _ => spec_placeIn.l0.eq_2 ..) ?_
    rw [rd_at h3, w64s (by omega), posFrom]
    refine Tot.pos (by omega) (Tot.pos (by omega) (Tot.ite (fun h4 => ?_) (fun h4 => ?_)))
    · rw [if_pos h4]; exact Tot.now rfl
    · rw [if_neg h4]; exact ih (i + 1) h2
theorem placeIn_tot {xs : List Int} {v : Int} (hl : xs.length ≤ 1000000000000) : Tot (fun k => spec_placeIn.f k xs v) (fun t => t = posFrom xs v 0) := by
  unfold spec_placeIn.f
  exact placeIn_l0 hl xs 0 rfl
/-! shares -/
abbrev Sh := S103
def okS (s : Sh) : Prop := (1 ≤ s.f0 ∧ s.f0 ≤ 250) ∧ 0 ≤ s.f1 ∧ s.f1 ≤ 250
instance (s : Sh) : Decidable (okS s) := inferInstanceAs (Decidable ((1 ≤ s.f0 ∧ s.f0 ≤ 250) ∧ 0 ≤ s.f1 ∧ s.f1 ≤ 250))
def SV (l : List Sh) : Prop := l.length ≤ 12 ∧ (∀ s ∈ l, okS s) ∧ (l.map (fun s => s.f0)).Nodup
instance (l : List Sh) : Decidable (SV l) := inferInstanceAs (Decidable (l.length ≤ 12 ∧ (∀ s ∈ l, okS s) ∧ (l.map (fun s => s.f0)).Nodup))
theorem rdSh_at {l : List Sh} {i : Nat} {r : Sh} (h : l[i]? = some r) : rd_T103 l (i : Int) = r := by
  simp [rd_T103, List.getD_eq_getElem?_getD, h]
theorem implShares_l0 {l : List Sh} (hl : l.length ≤ 12) : ∀ (d i : Nat), i + d = l.length →
    Tot (fun k => impl_ValidShares.l0 k ((l.take i).map (fun s => s.f0)) ((l.take i).map (fun s => s.f1)) l l.length i) (fun t => t = decide (SV l)) := by
  intro d
  induction d with
  | zero =>
    intro i hi
    refine Tot.step (fun _ => impl_ValidShares.l0.eq_2 ..) (Tot.neg (by omega) ?_)
    rw [List.take_of_length_le (by omega)]
    refine Tot.bind (allWithin_tot (by simp; omega)) ?_
    rintro _ rfl
    simp only [decide_eq_true_eq]
    refine Tot.ite (fun h1 => ?_) (fun h1 => Tot.now (dfalse fun h => h1 ?_))
    · refine Tot.bind (differentBelow_tot (by simp; omega) (by omega) (by omega)) ?_
      rintro _ rfl
      simp only [decide_eq_true_eq]
      refine Tot.ite (fun h2 => ?_) (fun h2 => Tot.now (dfalse fun h => h2 ⟨?_, h.2.2⟩))
      · refine Tot.bind (allWithin_tot (by simp; omega)) ?_
        rintro _ rfl
        refine Tot.now ?_
        rw [decide_eq_decide]
        constructor
        · intro h3
          exact ⟨hl, fun s hs => ⟨h1 _ (List.mem_map.2 ⟨s, hs, rfl⟩), h3 _ (List.mem_map.2 ⟨s, hs, rfl⟩)⟩, h2.2⟩
        · intro h3 x hx
          obtain ⟨s, hs, rfl⟩ := List.mem_map.1 hx
          exact (h3.2.1 s hs).2
      · intro x hx
        have := h1 x hx
        omega
    · intro x hx
      obtain ⟨s, hs, rfl⟩ := List.mem_map.1 hx
      exact (h.2.1 s hs).1
  | succ d ih =>
    intro i hi
    have hg : l[i]? = some l[i] := List.getElem?_eq_getElem (by omega)
    refine Tot.step (fun _ => impl_ValidShares.l0.eq_2 ..) ?_
    rw [rdSh_at hg, w64s (by omega)]
    refine Tot.pos (by omega) (Tot.pos (by omega) (Tot.pos (by omega) (Tot.known ?_)))
    refine Tot.pos (by rw [List.length_map, List.length_take]; show min i l.length + 1 < _; omega) (Tot.known ?_)
    refine Tot.pos (by rw [List.length_map, List.length_take]; show min i l.length + 1 < _; omega) ?_
    have h := ih (i + 1) (by omega)
    rw [List.take_succ_eq_append_getElem (show i < l.length by omega), List.map_append, List.map_append] at h
    exact h
theorem implValidShares_tot {l : List Sh} (hl : l.length ≤ 1000000000) : Tot (fun k => impl_ValidShares.f k l) (fun t => t = decide (SV l)) := by
  unfold impl_ValidShares.f
  exact Tot.ite (fun h => Tot.now (dfalse fun h2 => by have := h2.1; omega)) (fun h => implShares_l0 (by omega) l.length 0 (by omega))
theorem validPlaces_l0 {xs : List Int} (hl : xs.length ≤ 1000000000000) : ∀ (r : List Int) (i : Nat), xs.drop i = r →
    Tot (fun k => spec_validPlaces.l0 k xs i) (fun t => t = decide (((∀ x ∈ r, x ∉ xs.take i) ∧ r.Nodup) ∧ xs.length ≤ 12 ∧ ∀ x ∈ xs, 1 ≤ x ∧ x ≤ 250)) := by
  intro r
  induction r with
  | nil =>
    intro i h
    have := drop_nil h
    refine Tot.step (fun _ => spec_validPlaces.l0.eq_2 ..) (Tot.neg (by omega) (Tot.ite (fun h1 => ?_) (fun h1 => Tot.now (dfalse fun h2 => by have := h2.2.1; omega))))
    refine Tot.bind (allIn_tot (by omega)) ?_
    rintro _ rfl
    refine Tot.now ?_
    rw [decide_eq_decide]
    exact ⟨fun h2 => ⟨⟨fun x hx => by simp at hx, List.nodup_nil⟩, by omega, h2⟩, fun h2 => h2.2.2⟩
  | cons x r ih =>
    intro i h
    obtain ⟨h1, h2, h3⟩ := drop_cons h
    refine Tot.step (fun _ => spec_validPlaces.l0.eq_2 ..) ?_
    rw [rd_at h3, w64s (by omega), Int.toNat_natCast]
    refine Tot.pos (by omega) (Tot.pos (by omega) (Tot.pos (by omega) ?_))
    refine Tot.bind (placeIn_tot (by simp; omega)) ?_
    rintro t rfl
    refine Tot.ite (fun h5 => Tot.now (dfalse fun h7 => ?_)) (fun h5 => ?_)
    · exact h7.1.1 x (by simp) ((posFrom_ge (l := xs.take i) (v := x) (Int.le_refl 0)).1 h5)
    · have h6 : x ∉ xs.take i := fun h7 => h5 ((posFrom_ge (l := xs.take i) (v := x) (Int.le_refl 0)).2 h7)
      refine (ih (i + 1) h2).mono ?_
      rintro t rfl
      have h8 : xs.take (i + 1) = xs.take i ++ [x] := by rw [List.take_add_one, h3]; rfl
      rw [h8, decide_eq_decide]
      constructor
      · rintro ⟨⟨h9, h10⟩, h11⟩
        refine ⟨⟨fun y hy => ?_, List.nodup_cons.2 ⟨fun hx => ?_, h10⟩⟩, h11⟩
        · rcases List.mem_cons.1 hy with rfl | hy
          · exact h6
          · exact fun h12 => h9 y hy (List.mem_append_left _ h12)
        · exact h9 x hx (by simp)
      · rintro ⟨⟨h9, h10⟩, h11⟩
        obtain ⟨h12, h13⟩ := List.nodup_cons.1 h10
        refine ⟨⟨fun y hy h14 => ?_, h13⟩, h11⟩
        rcases List.mem_append.1 h14 with h14 | h14
        · exact h9 y (List.mem_cons_of_mem _ hy) h14
        · rw [List.mem_singleton] at h14
          exact h12 (h14 ▸ hy)
theorem validPlaces_tot {xs : List Int} (hl : xs.length ≤ 1000000000000) : Tot (fun k => spec_validPlaces.f k xs) (fun t => t = decide (xs.Nodup ∧ xs.length ≤ 12 ∧ ∀ x ∈ xs, 1 ≤ x ∧ x ≤ 250)) := by
  unfold spec_validPlaces.f
  refine (validPlaces_l0 hl xs 0 rfl).mono ?_
  rintro t rfl
  rw [decide_eq_decide]
  simp
theorem specShares_l0 {l : List Sh} (hl : l.length ≤ 1000000000) : ∀ (d i : Nat), i + d = l.length → (∀ s ∈ l.take i, 0 ≤ s.f1 ∧ s.f1 ≤ 250) →
    Tot (fun k => spec_validShares.l0 k l ((l.take i).map (fun s => s.f0)) i) (fun t => t = decide (SV l)) := by
  intro d
  induction d with
  | zero =>
    intro i hi hok
    refine Tot.step (fun _ => spec_validShares.l0.eq_2 ..) (Tot.neg (by omega) ?_)
    rw [List.take_of_length_le (by omega)] at hok ⊢
    refine Tot.bind (validPlaces_tot (by simp; omega)) ?_
    rintro _ rfl
    refine Tot.now ?_
    rw [decide_eq_decide]
    constructor
    · rintro ⟨h1, h2, h3⟩
      exact ⟨by simpa using h2, fun s hs => ⟨h3 _ (List.mem_map.2 ⟨s, hs, rfl⟩), hok s hs⟩, h1⟩
    · rintro ⟨h1, h2, h3⟩
      refine ⟨h3, by simpa using h1, fun x hx => ?_⟩
      obtain ⟨s, hs, rfl⟩ := List.mem_map.1 hx
      exact (h2 s hs).1
  | succ d ih =>
    intro i hi hok
    have hg : l[i]? = some l[i] := List.getElem?_eq_getElem (by omega)
    refine Tot.step (fun _ => spec_validShares.l0.eq_2 ..) ?_
    rw [rdSh_at hg, w64s (by omega)]
    unfold spec_validRest.f
    simp only [inRange_eq, Option.bind_some, decide_eq_true_eq]
    refine Tot.pos (by omega) (Tot.pos (by omega) (Tot.ite (fun h1 => Tot.pos (by rw [List.length_map, List.length_take]; omega) ?_) (fun h1 => Tot.now (dfalse fun h2 => h1 (h2.2.1 _ (List.mem_of_getElem? hg)).2))))
    have h := ih (i + 1) (by omega) (by
      intro s hs
      rw [List.take_succ_eq_append_getElem (show i < l.length by omega)] at hs
      rcases List.mem_append.1 hs with hs | hs
      · exact hok s hs
      · rw [List.mem_singleton] at hs; rw [hs]; exact h1)
    rw [List.take_succ_eq_append_getElem (show i < l.length by omega), List.map_append] at h
    exact h
theorem specValidShares_tot {l : List Sh} (hl : l.length ≤ 1000000000) : Tot (fun k => spec_ValidShares.f k l) (fun t => t = decide (SV l)) := by
  unfold spec_ValidShares.f spec_validShares.f
  refine Tot.bind (specShares_l0 hl l.length 0 (by omega) (by simp)) ?_
  rintro _ rfl
  exact Tot.now rfl
theorem somePlaces_l0 {b : List Int} (hb : ∀ x ∈ b, 0 ≤ x ∧ x < 256) : ∀ (d : Nat) (out : List Int) (p : Int), 0 ≤ p → p + 2 * d ≤ 1000000 → out.length + d ≤ 1000 →
    Tot (fun k => spec_somePlaces.l0 k out d b p) (fun r => r.1.length ≤ out.length + d ∧ p ≤ r.2 ∧ r.2 ≤ p + 2 * d + 2) := by
  intro d
  induction d with
  | zero =>
    intro out p hp hp2 ho
    refine Tot.step (fun _ => spec_somePlaces.l0.eq_2 ..) (Tot.neg (by omega) (Tot.ite (fun h0 => ?_) (fun _ => Tot.now ⟨by simp, by simp, by simp; omega⟩)))
    refine Tot.bind (pick_tot hb hp (by omega) (by omega)) ?_
    rintro ⟨v1, q1⟩ ⟨h1, h2, h3⟩
    simp only at h1 h2 h3 ⊢
    rw [w64 (x := (out.length : Int) - 1) (by omega) (by omega)]
    refine Tot.ite (fun _ => Tot.pos (by omega) (Tot.pos (by omega) ?_)) (fun _ => Tot.now ⟨by simp, by simp only; omega, by simp only; omega⟩)
    refine Tot.bind (one_tot hb (by omega) (by omega) (by simp) (by simp)) ?_
    rintro ⟨v2, q2⟩ ⟨g1, g2⟩
    simp only at g1 ⊢
    exact Tot.pos (by omega) (Tot.now ⟨by simp, by simp only; omega, by simp only; omega⟩)
  | succ d ih =>
    intro out p hp hp2 ho
    refine Tot.step (fun _ => spec_somePlaces.l0.eq_2 ..) (Tot.pos (by omega) ?_)
    have e : wrap64 (((d + 1 : Nat) : Int) - 1) = (d : Int) := by rw [w64 (by omega) (by omega)]; omega
    rw [e]
    refine Tot.bind (pick_tot hb hp (by omega) (by omega)) ?_
    rintro ⟨v1, q1⟩ ⟨h1, h2, h3⟩
    simp only at h1 h2 h3 ⊢
    refine Tot.bind (one_tot hb (by omega) (by omega) (by simp) (by simp)) ?_
    rintro ⟨v2, q2⟩ ⟨g1, g2⟩
    simp only at g1 ⊢
    clear g2
    refine Tot.bind (placeIn_tot (by omega)) ?_
    rintro _ rfl
    refine Tot.ite (fun _ => Tot.pos (by omega) ?_) (fun _ => ?_)
    · refine (ih _ q2 (by omega) (by omega) (by simp; omega)).mono ?_
      rintro r ⟨z1, z2, z3⟩
      refine ⟨?_, by omega, by omega⟩
      rw [List.length_append] at z1
      simp only [List.length_cons, List.length_nil] at z1
      omega
    · refine (ih _ q2 (by omega) (by omega) (by omega)).mono ?_
      rintro r ⟨z1, z2, z3⟩
      exact ⟨by omega, by omega, by omega⟩
theorem someShares_l0 {b : List Int} (hb : ∀ x ∈ b, 0 ≤ x ∧ x < 256) {xs : List Int} (hx : xs.length ≤ 100) : ∀ (d i : Nat) (out : List Sh) (p : Int), i + d = xs.length → 0 ≤ p → p + d ≤ 1000000 → out.length = i →
    Tot (fun k => spec_someShares.l0 k out xs i b p) (fun r => r.1.length ≤ 100) := by
  intro d
  induction d with
  | zero =>
    intro i out p hi hp hp2 ho
    refine Tot.step (fun _ => spec_someShares.l0.eq_2 ..) (Tot.neg (by omega) (Tot.ite (fun h0 => ?_) (fun _ => Tot.now (by simp only; omega))))
    refine Tot.bind (pick_tot hb hp (by omega) (by omega)) ?_
    rintro ⟨v1, q1⟩ ⟨h1, h2, h3⟩
    simp only at h1 h2 h3 ⊢
    refine Tot.ite (fun _ => ?_) (fun _ => Tot.now (by simp only; omega))
    refine Tot.bind (one_tot hb (by omega) (by omega) (by simp) (by simp)) ?_
    rintro ⟨v2, q2⟩ ⟨g1, g2⟩
    simp only at g1 ⊢
    exact Tot.pos (by omega) (Tot.now (by simp only [List.length_set]; omega))
  | succ d ih =>
    intro i out p hi hp hp2 ho
    refine Tot.step (fun _ => spec_someShares.l0.eq_2 ..) (Tot.pos (by omega) (Tot.pos (by omega) ?_))
    rw [w64s (by omega)]
    refine Tot.bind (pick_tot hb hp (by omega) (by omega)) ?_
    rintro ⟨v1, q1⟩ ⟨h1, h2, h3⟩
    simp only at h1 h2 h3 ⊢
    exact Tot.pos (by omega) (ih (i + 1) _ q1 (by omega) (by omega) (by omega) (by simp; omega))
theorem drop_eq {l : List Sh} {i : Nat} (hi : i < l.length) (hl : l.length ≤ 1000) : laws_dropShare.f l i = some (l.take i ++ l.drop (i + 1)) := by
  unfold laws_dropShare.f
  rw [w64s (by omega), Int.toNat_natCast, Int.toNat_natCast]
  simp only [Option.bind_some, List.nil_append]
  rw [if_pos (by omega), if_pos (by omega), if_pos (by simp; omega), if_pos (by omega), if_pos (by omega), if_pos (by simp; omega)]
theorem sub_drop {α : Type} (l : List α) (i : Nat) : (l.take i ++ l.drop (i + 1)).Sublist l := by
  conv => rhs; rw [← List.take_append_drop i l]
  refine List.Sublist.append_left ?_ _
  rw [← List.drop_drop]
  exact List.drop_sublist _ _
theorem SV.drop {l : List Sh} (h : SV l) (i : Nat) : SV (l.take i ++ l.drop (i + 1)) := by
  have hs := sub_drop l i
  exact ⟨Nat.le_trans hs.length_le h.1, fun s hm => h.2.1 s (hs.subset hm), (hs.map _).nodup h.2.2⟩
theorem law_l0 {l : List Sh} (h : SV l) : ∀ (d i : Nat), i + d = l.length → Tot (fun k => laws_FnValidShares.l0 k l i) (fun t => t = true) := by
  have hl := h.1
  intro d
  induction d with
  | zero =>
    intro i hi
    exact Tot.step (fun _ => laws_FnValidShares.l0.eq_2 ..) (Tot.neg (by omega) (Tot.now rfl))
  | succ d ih =>
    intro i hi
    refine Tot.step (fun _ => laws_FnValidShares.l0.eq_2 ..) (Tot.pos (by omega) ?_)
    rw [drop_eq (by omega) (by omega), w64s (by omega)]
    simp only [Option.bind_some]
    refine Tot.bind (implValidShares_tot (by have := (sub_drop l i).length_le; omega)) ?_
    rintro _ rfl
    exact Tot.pos (by rw [decide_eq_true_iff]; exact h.drop i) (ih (i + 1) (by omega))
theorem FnValidShares : laws_FnValidShares.Pure := by
  intro l hl hl2 hw
  refine Tot.ends (g := fun k => laws_FnValidShares.f k l) ?_
  unfold laws_FnValidShares.f spec_DrawValidShares.f spec_someShares.f spec_somePlaces.f
  refine Tot.ite (fun _ => Tot.now rfl) (fun _ => ?_)
  obtain ⟨b, hb, hb2, hb3⟩ := newReader_tot hw
  rw [hb]
  simp only [Option.bind_some]
  refine Tot.bind (P := fun r => r.length ≤ 100) (Tot.bind (P := fun r => r.1.length ≤ 100) (Tot.bind (P := fun r => r.1.length ≤ 100 ∧ 0 ≤ r.2 ∧ r.2 ≤ 1000) (Tot.bind (one_tot hb3 (Int.le_refl _) (by omega) (by simp) (by simp)) ?_) ?_) ?_) ?_
  · rintro ⟨n, q⟩ ⟨h1, h2⟩
    simp only [List.mem_cons, List.not_mem_nil, or_false] at h1 h2 ⊢
    obtain ⟨m, rfl⟩ := Int.eq_ofNat_of_zero_le (a := n) (by omega)
    refine (somePlaces_l0 hb3 m [] q (by omega) (by omega) (by simp; omega)).mono ?_
    rintro r ⟨b1, b2, b3⟩
    simp only [List.length_nil] at b1
    exact ⟨by omega, by omega, by omega⟩
  · rintro ⟨xs, q⟩ ⟨h1, h2, h3⟩
    simp only at h1 h2 h3 ⊢
    exact someShares_l0 hb3 h1 xs.length 0 [] q (by omega) h2 (by omega) rfl
  · rintro ⟨xs, q⟩ h1
    exact Tot.now h1
  intro xs hxs
  refine Tot.bind (implValidShares_tot (by omega)) ?_
  rintro _ rfl
  refine Tot.bind (specValidShares_tot (by omega)) ?_
  rintro _ rfl
  refine Tot.neg (by simp) (Tot.step (fun _ => laws_FnValidShares.j0.eq_2 ..) ?_)
  by_cases h : SV xs
  · exact Tot.neg (by simp [h]) (law_l0 h _ 0 (Nat.zero_add _))
  · refine Tot.pos (by simp [h]) ?_
    refine Tot.bind (specValidShares_tot (by omega)) ?_
    rintro _ rfl
    exact Tot.now (by simp)
end Go.Proofs.Ytmgfjelhgkihfaa.Pure
