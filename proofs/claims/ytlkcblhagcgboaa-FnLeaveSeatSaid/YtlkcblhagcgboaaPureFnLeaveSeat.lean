/- FnLeaveSeat: for every code, LeaveSeat is a valid order of one member less, in which all others come in the same order. No condition beyond the statement's own. -/
import Derived.Test.YtlkcblhagcgboaaQFnLeaveSeatx4
import Derived.Test.YtlkcblhagcgboaaCore
namespace Go.Proofs.Ytlkcblhagcgboaa.Pure
open Go.RowKit Go.Proofs.Ytlkcblhagcgboaa.PFnLeaveSeat Go.Proofs.YtlkcblhagcgboaaW.PrintWords
set_option linter.unusedSimpArgs false
set_option linter.unusedVariables false

/-! the reader -/
theorem pick_tot {b : List Int} (hb : ∀ x ∈ b, 0 ≤ x ∧ x < 256) {p n : Int} (hp : 0 ≤ p) (hp2 : p ≤ 1000000000) (hn : n ≤ 1000000000000) :
    Tot (fun k => spec_reader_pick.f k b p n) (fun r => r.2 = p + 1 ∧ 0 ≤ r.1 ∧ (r.1 < n ∨ r.1 = 0)) := by
  have e1 : wrap64 (p + 1) = p + 1 := w64 (by omega) (by omega)
  have e2 : wrap64 (p + 1 - 1) = p := by rw [w64 (by omega) (by omega)]; omega
  have main : ∀ t : Bool, (t = false → 1 ≤ n ∧ b.length ≠ 0) → Tot (fun k => spec_reader_pick.j0 k n t b (p + 1)) (fun r => r.2 = p + 1 ∧ 0 ≤ r.1 ∧ (r.1 < n ∨ r.1 = 0)) := by
    intro t ht
    refine Tot.step (fun _ => spec_reader_pick.j0.eq_2 ..) ?_
    simp only [e2]
    cases t with
    | true => exact Tot.pos rfl (Tot.now ⟨rfl, Int.le_refl _, .inr rfl⟩)
    | false =>
      obtain ⟨hn1, hne⟩ := ht rfl
      refine Tot.neg (by simp) ?_
      by_cases hlt : p < (b.length : Int)
      · refine Tot.pos hlt (Tot.pos hp (Tot.neg (by omega) ?_))
        have hr := hb _ (rd_mem hp hlt)
        rw [w64 (x := rd b p) (by omega) (by omega), tmod_nn hr.1]
        exact Tot.now ⟨rfl, Int.emod_nonneg _ (by omega), .inl (Int.emod_lt_of_pos _ (by omega))⟩
      · refine Tot.neg hlt (Tot.neg (by omega) ?_)
        have hlen : 0 < (b.length : Int) := by omega
        have i1 : 0 ≤ Int.tmod p b.length ∧ Int.tmod p b.length < b.length := by
          rw [tmod_nn hp]; exact ⟨Int.emod_nonneg _ (by omega), Int.emod_lt_of_pos _ hlen⟩
        have e3 : wrap64 (wrap64 (p * 7) + 3) = p * 7 + 3 := by
          rw [w64 (x := p * 7) (by omega) (by omega)]; exact w64 (by omega) (by omega)
        rw [e3]
        have i2 : 0 ≤ Int.tmod (p * 7 + 3) b.length ∧ Int.tmod (p * 7 + 3) b.length < b.length := by
          rw [tmod_nn (by omega)]; exact ⟨Int.emod_nonneg _ (by omega), Int.emod_lt_of_pos _ hlen⟩
        refine Tot.pos i1.1 (Tot.pos i1.2 (Tot.pos i2.1 (Tot.pos i2.2 (Tot.neg (by omega) ?_))))
        have hu := hb _ (rd_mem i1.1 i1.2)
        have hv := hb _ (rd_mem i2.1 i2.2)
        have hq : 0 ≤ Int.tdiv p b.length ∧ Int.tdiv p b.length ≤ p := by
          rw [tdiv_nn hp]
          exact ⟨Int.ediv_nonneg hp (by omega), Int.ediv_le_self _ hp⟩
        generalize rd b (Int.tmod p b.length) = u at hu ⊢
        generalize rd b (Int.tmod (p * 7 + 3) b.length) = v at hv ⊢
        generalize Int.tdiv p b.length = q at hq ⊢
        rw [w64 (x := u) (by omega) (by omega), w64 (x := v) (by omega) (by omega), w64 (x := q) (by omega) (by omega), w64 (x := u * 131) (by omega) (by omega), w64 (x := v * 1117) (by omega) (by omega), w64 (x := p * 29) (by omega) (by omega), w64 (x := q * 53) (by omega) (by omega),
          w64 (x := u * 131 + v * 1117) (by omega) (by omega), w64 (x := u * 131 + v * 1117 + p * 29) (by omega) (by omega), w64 (x := u * 131 + v * 1117 + p * 29 + q * 53) (by omega) (by omega)]
        have hx : 0 ≤ u * 131 + v * 1117 + p * 29 + q * 53 ∧ u * 131 + v * 1117 + p * 29 + q * 53 < 4611686018427387904 := by omega
        generalize u * 131 + v * 1117 + p * 29 + q * 53 = x at hx ⊢
        rw [tdiv_nn hx.1, w64 (x := x / 64) (by omega) (by omega)]
        have hz := xor_nn hx.1 hx.2 (b := x / 64) (by omega) (by omega)
        rw [tmod_nn hz]
        exact Tot.now ⟨rfl, Int.emod_nonneg _ (by omega), .inl (Int.emod_lt_of_pos _ (by omega))⟩
  unfold spec_reader_pick.f
  rw [e1]
  refine Tot.ite (fun _ => main true (fun h => by cases h)) (fun h => main _ (fun h2 => ⟨by omega, fun h3 => ?_⟩))
  rw [h3] at h2
  simp at h2
theorem one_tot {b : List Int} (hb : ∀ x ∈ b, 0 ≤ x ∧ x < 256) {p : Int} (hp : 0 ≤ p) (hp2 : p ≤ 1000000000) {l : List Int} (hl : 0 < l.length) (hl2 : l.length ≤ 1000) :
    Tot (fun k => spec_reader_one.f k b p l) (fun r => r.2 = p + 1 ∧ r.1 ∈ l) := by
  unfold spec_reader_one.f
  refine Tot.bind (pick_tot hb hp hp2 (by omega)) ?_
  rintro ⟨v, q⟩ ⟨h1, h2, h3⟩
  simp only at h1 h2 h3 ⊢
  have h4 : v < (l.length : Int) := by omega
  exact Tot.pos h2 (Tot.pos h4 (Tot.now ⟨h1, rd_mem h2 h4⟩))
theorem newReader_tot {l : List Int} (h : ∀ x ∈ l, (Lit.int .u8 x).wf = true) : ∃ b, spec_newReader.f l = some (b, 0) ∧ b.length ≤ 2000 ∧ ∀ x ∈ b, 0 ≤ x ∧ x < 256 := by
  unfold spec_newReader.f
  by_cases h1 : (l.length : Int) > 2000
  · rw [if_pos h1, if_pos (by omega)]
    exact ⟨_, rfl, by simp; omega, fun x hx => wf_u8 (h x (List.mem_of_mem_take hx))⟩
  · rw [if_neg h1]
    exact ⟨_, rfl, by omega, fun x hx => wf_u8 (h x hx)⟩
theorem copyInts_eq {l : List Int} (h : l.length < 17592186044416) : spec_copyInts.f l = some l := by
  simp [spec_copyInts.f, h]
theorem turns_l0 {b : List Int} (hb : ∀ x ∈ b, 0 ≤ x ∧ x < 256) : ∀ (d n i : Nat) (out : List Int) (p : Int), n = i + d → out.length = i → 0 ≤ p → p + d ≤ 100000000 → n ≤ 1000 →
    Tot (fun k => spec_turns.l0 k n out i b p) (fun r => r.1.length = n ∧ r.2 = p + d) := by
  intro d
  induction d with
  | zero =>
    intro n i out p hn ho hp hp2 hn2
    refine Tot.step (fun _ => spec_turns.l0.eq_2 ..) ?_
    exact Tot.neg (by omega) (Tot.now ⟨by simp only; omega, by simp⟩)
  | succ d ih =>
    intro n i out p hn ho hp hp2 hn2
    refine Tot.step (fun _ => spec_turns.l0.eq_2 ..) ?_
    refine Tot.pos (by omega) ?_
    rw [w64s (i := i) (by omega), w64 (x := (out.length : Int) + 1) (by omega) (by omega)]
    refine Tot.bind (pick_tot hb hp (by omega) (by omega)) ?_
    rintro ⟨v, q⟩ ⟨h1, h2, h3⟩
    simp only at h1 h2 h3 ⊢
    refine Tot.pos h2 (Tot.pos (by omega) ?_)
    have hv : v.toNat ≤ out.length := by omega
    rw [copyInts_eq (by simp; omega)]
    simp only [Option.bind_some]
    have e1 : (List.take v.toNat out).length = v.toNat := by simp; omega
    have e2 : (List.take v.toNat out ++ [(i : Int)]).length = v.toNat + 1 := by simp; omega
    have e3 : (List.drop v.toNat out).length = out.length - v.toNat := by simp
    refine Tot.pos (by omega) (Tot.pos (by omega) ?_)
    subst h1
    refine (ih n (i + 1) _ (p + 1) (by omega) (by rw [List.length_append, e2, e3]; omega) (by omega) (by omega) hn2).mono ?_
    rintro r ⟨h4, h5⟩
    exact ⟨h4, by omega⟩
theorem turns_tot {b : List Int} (hb : ∀ x ∈ b, 0 ≤ x ∧ x < 256) {p n : Int} (hp : 0 ≤ p) (hp2 : p ≤ 10000000) (hn : 0 ≤ n) (hn2 : n ≤ 1000) :
    Tot (fun k => spec_turns.f k b p n) (fun r => (r.1.length : Int) = n ∧ r.2 = p + n) := by
  obtain ⟨m, rfl⟩ := Int.eq_ofNat_of_zero_le hn
  unfold spec_turns.f
  refine (turns_l0 hb m m 0 [] p (by omega) rfl hp (by omega) (by omega)).mono ?_
  rintro r ⟨h1, h2⟩
  exact ⟨by omega, h2⟩
theorem anyOrder_tot {b : List Int} (hb : ∀ x ∈ b, 0 ≤ x ∧ x < 256) {p : Int} (hp : 0 ≤ p) (hp2 : p ≤ 1000000) :
    Tot (fun k => spec_anyOrder.f k b p) (fun r => r.1.length ≤ 12 ∧ p ≤ r.2 ∧ r.2 ≤ p + 20) := by
  unfold spec_anyOrder.f
  refine Tot.bind (one_tot hb hp (by omega) (by simp) (by simp)) ?_
  rintro ⟨n, q⟩ ⟨h1, h2⟩
  simp only [List.mem_cons, List.not_mem_nil, or_false] at h1 h2 ⊢
  refine Tot.bind (turns_tot hb (by omega) (by omega) (by omega) (by omega)) ?_
  rintro ⟨o, q2⟩ ⟨h3, h4⟩
  simp only at h3 h4 ⊢
  refine Tot.bind (pick_tot hb (by omega) (by omega) (by omega)) ?_
  rintro ⟨c, q3⟩ ⟨h5, h6, h7⟩
  simp only at h5 h6 h7 ⊢
  rw [w64 (x := (o.length : Int) - 1) (by omega) (by omega)]
  refine Tot.ite (fun hc => ?_) (fun hc => Tot.ite (fun hc2 => Tot.now ⟨by simp, by simp only; omega, by simp only; omega⟩) (fun hc2 => Tot.now ⟨by simp only; omega, by simp only; omega, by simp only; omega⟩))
  refine Tot.pos (by omega) (Tot.pos (by omega) ?_)
  refine Tot.bind (one_tot hb (by omega) (by omega) (by simp) (by simp)) ?_
  rintro ⟨x, q4⟩ ⟨h8, h9⟩
  simp only at h8 h9 ⊢
  refine Tot.pos (by omega) (Tot.now ⟨by simp; omega, by simp only; omega, by simp only; omega⟩)
theorem getD_set_true {s : List Bool} {a b : Nat} (ha : a < s.length) : (s.set a true).getD b false = false ↔ b ≠ a ∧ s.getD b false = false := by
  simp only [List.getD_eq_getElem?_getD, List.getElem?_set]
  by_cases h : a = b
  · subst h; simp [ha]
  · rw [if_neg h]
    constructor
    · intro h2; exact ⟨fun e => h e.symm, h2⟩
    · intro h2; exact h2.2
theorem differentBelow_l0 {xs : List Int} {n : Int} (hl : xs.length ≤ 1000000000000) : ∀ (r : List Int) (i : Nat) (s : List Bool), xs.drop i = r → (s.length : Int) = n →
    Tot (fun k => impl_differentBelow.l0 k n s xs xs.length i) (fun t => t = decide ((∀ x ∈ r, (0 ≤ x ∧ x < n) ∧ s.getD x.toNat false = false) ∧ r.Nodup)) := by
  intro r
  induction r with
  | nil =>
    intro i s h hs
    have := drop_nil h
    exact Tot.step (fun _ => impl_differentBelow.l0.eq_2 ..) (Tot.neg (by omega) (Tot.now (by simp)))
  | cons x r ih =>
    intro i s h hs
    obtain ⟨h1, h2, h3⟩ := drop_cons h
    refine Tot.step (fun _ => impl_differentBelow.l0.eq_2 ..) ?_
    rw [rd_at h3, w64s (by omega)]
    refine Tot.pos (by omega) (Tot.pos (by omega) (Tot.pos (by omega) (Tot.ite (fun h4 => Tot.now ?_) (fun h4 => Tot.ite (fun h5 => Tot.now ?_) (fun h5 => Tot.pos (by omega) (Tot.pos (by omega) (Tot.ite (fun h6 => Tot.now ?_) (fun h6 => ?_))))))))
    · symm
      rw [decide_eq_false_iff_not]
      intro h7
      have := (h7.1 x (by simp)).1
      omega
    · symm
      rw [decide_eq_false_iff_not]
      intro h7
      have := (h7.1 x (by simp)).1
      omega
    · symm
      rw [decide_eq_false_iff_not]
      intro h7
      have h8 := (h7.1 x (by simp)).2
      rw [rdOf, h8] at h6
      cases h6
    · have h6' : s.getD x.toNat false = false := by
        rw [rdOf] at h6
        simpa using h6
      have hx : x.toNat < s.length := by omega
      refine (ih (i + 1) (s.set x.toNat true) h2 (by simp; omega)).mono ?_
      rintro t rfl
      rw [decide_eq_decide]
      constructor
      · rintro ⟨h9, h10⟩
        refine ⟨fun y hy => ?_, List.nodup_cons.2 ⟨fun hx2 => ?_, h10⟩⟩
        · rcases List.mem_cons.1 hy with rfl | hy
          · exact ⟨⟨by omega, by omega⟩, h6'⟩
          · exact ⟨(h9 y hy).1, ((getD_set_true hx).1 (h9 y hy).2).2⟩
        · exact ((getD_set_true hx).1 (h9 x hx2).2).1 rfl
      · rintro ⟨h9, h10⟩
        obtain ⟨h11, h12⟩ := List.nodup_cons.1 h10
        refine ⟨fun y hy => ⟨(h9 y (List.mem_cons_of_mem _ hy)).1, (getD_set_true hx).2 ⟨fun h13 => ?_, (h9 y (List.mem_cons_of_mem _ hy)).2⟩⟩, h12⟩
        have h14 := (h9 y (List.mem_cons_of_mem _ hy)).1
        have h15 : y = x := by omega
        exact h11 (h15 ▸ hy)
theorem differentBelow_tot {xs : List Int} {n : Int} (hl : xs.length ≤ 1000000000000) (hn : 0 ≤ n) (hn2 : n ≤ 1000000000000) : Tot (fun k => impl_differentBelow.f k xs n) (fun t => t = decide (DB xs n)) := by
  unfold impl_differentBelow.f
  refine Tot.ite (fun h => Tot.now ?_) (fun h => Tot.pos hn (Tot.pos (by omega) ?_))
  · symm
    rw [decide_eq_false_iff_not]
    intro h2
    have := h2.le hn
    omega
  · refine (differentBelow_l0 hl xs 0 _ rfl (by simp; omega)).mono ?_
    rintro t rfl
    rw [decide_eq_decide]
    have : ∀ j, (List.replicate n.toNat false).getD j false = false := by
      intro j
      simp only [List.getD_eq_getElem?_getD, List.getElem?_replicate]
      split <;> rfl
    simp only [this, and_true]
    exact Iff.rfl
theorem implValidOrder_tot {xs : List Int} (hl : xs.length ≤ 1000000000000) : Tot (fun k => impl_ValidOrder.f k xs) (fun t => t = decide (VO xs)) := by
  unfold impl_ValidOrder.f
  refine Tot.ite (fun h => Tot.ite (fun h2 => ?_) (fun h2 => Tot.now ?_)) (fun h => Tot.now ?_)
  · refine Tot.bind (differentBelow_tot hl (by omega) (by omega)) ?_
    rintro t rfl
    refine Tot.now ?_
    rw [decide_eq_decide]
    exact ⟨fun h9 => ⟨by omega, by omega, h9⟩, fun h9 => h9.2.2⟩
  · symm
    rw [decide_eq_false_iff_not]
    intro h3
    exact h2 h3.2.1
  · symm
    rw [decide_eq_false_iff_not]
    intro h3
    exact h h3.1
theorem index_l0 {xs : List Int} {v : Int} (hl : xs.length ≤ 1000000000000) : ∀ (r : List Int) (i : Nat), xs.drop i = r →
    Tot (fun k => slices_Index_int_int.l0 k xs v xs.length i) (fun t => t = posFrom r v i) := by
  intro r
  induction r with
  | nil =>
    intro i h
    have := drop_nil h
    exact Tot.step (fun _ => slices_Index_int_int.l0.eq_2 ..) (Tot.neg (by omega) (Tot.now rfl))
  | cons x r ih =>
    intro i h
    obtain ⟨h1, h2, h3⟩ := drop_cons h
    refine Tot.step (fun _ => slices_Index_int_int.l0.eq_2 ..) ?_
    rw [rd_at h3, w64s (by omega), posFrom]
    refine Tot.pos (by omega) (Tot.pos (by omega) (Tot.pos (by omega) (Tot.ite (fun h4 => ?_) (fun h4 => ?_))))
    · rw [if_pos h4.symm]; exact Tot.now rfl
    · rw [if_neg (fun e => h4 e.symm)]; exact ih (i + 1) h2
theorem index_tot {xs : List Int} {v : Int} (hl : xs.length ≤ 1000000000000) : Tot (fun k => slices_Index_int_int.f k xs v) (fun t => t = posFrom xs v 0) := by
  unfold slices_Index_int_int.f
  exact index_l0 hl xs 0 rfl
theorem turnOf_tot {xs : List Int} {v : Int} (hl : xs.length ≤ 1000000000000) : Tot (fun k => impl_TurnOf.f k xs v) (fun t => t = if VO xs then posFrom xs v 0 else -1) := by
  unfold impl_TurnOf.f
  refine Tot.bind (implValidOrder_tot hl) ?_
  rintro t rfl
  simp only [decide_eq_true_eq]
  refine Tot.ite (fun h => ?_) (fun h => ?_)
  · rw [if_pos h]
    refine Tot.bind (index_tot hl) ?_
    rintro t rfl
    exact Tot.now rfl
  · rw [if_neg h]; exact Tot.now rfl
theorem inRange_eq (a b c : Int) : spec_inRange.f a b c = some (decide (b ≤ a ∧ a ≤ c)) := by
  unfold spec_inRange.f
  by_cases h : b ≤ a
  · rw [if_pos h]; simp [h]
  · rw [if_neg h]; simp [h]
theorem placeIn_l0 {xs : List Int} {v : Int} (hl : xs.length ≤ 1000000000000) : ∀ (r : List Int) (i : Nat), xs.drop i = r →
    Tot (fun k => spec_placeIn.l0 k xs v i) (fun t => t = posFrom r v i) := by
  intro r
  induction r with
  | nil =>
    intro i h
    have := drop_nil h
    exact Tot.step (fun _ => spec_placeIn.l0.eq_2 ..) (Tot.neg (by omega) (Tot.now rfl))
  | cons x r ih =>
    intro i h
    obtain ⟨h1, h2, h3⟩ := drop_cons h
    refine Tot.step (fun _ => spec_placeIn.l0.eq_2 ..) ?_
    rw [rd_at h3, w64s (by omega), posFrom]
    refine Tot.pos (by omega) (Tot.pos (by omega) (Tot.ite (fun h4 => ?_) (fun h4 => ?_)))
    · rw [if_pos h4]; exact Tot.now rfl
    · rw [if_neg h4]; exact ih (i + 1) h2
theorem placeIn_tot {xs : List Int} {v : Int} (hl : xs.length ≤ 1000000000000) : Tot (fun k => spec_placeIn.f k xs v) (fun t => t = posFrom xs v 0) := by
  unfold spec_placeIn.f
  exact placeIn_l0 hl xs 0 rfl
theorem validMembers_l0 {xs : List Int} {n : Int} (hl : xs.length ≤ 1000000000000) (hn : 0 ≤ n) (hn2 : n ≤ 1000000000000) : ∀ (r : List Int) (i : Nat), xs.drop i = r →
    Tot (fun k => spec_validMembers.l0 k xs n i) (fun t => t = decide ((∀ x ∈ r, (0 ≤ x ∧ x < n) ∧ x ∉ xs.take i) ∧ r.Nodup)) := by
  intro r
  induction r with
  | nil =>
    intro i h
    have := drop_nil h
    exact Tot.step (fun _ => spec_validMembers.l0.eq_2 ..) (Tot.neg (by omega) (Tot.now (by simp)))
  | cons x r ih =>
    intro i h
    obtain ⟨h1, h2, h3⟩ := drop_cons h
    refine Tot.step (fun _ => spec_validMembers.l0.eq_2 ..) ?_
    rw [rd_at h3, w64s (by omega), w64 (x := n - 1) (by omega) (by omega), inRange_eq]
    simp only [Option.bind_some, decide_eq_true_eq]
    refine Tot.pos (by omega) (Tot.pos (by omega) (Tot.ite (fun h4 => Tot.pos (by omega) ?_) (fun h4 => Tot.now ?_)))
    · rw [Int.toNat_natCast]
      refine Tot.bind (placeIn_tot (by simp; omega)) ?_
      rintro t rfl
      refine Tot.ite (fun h5 => Tot.now ?_) (fun h5 => ?_)
      · have h6 := (posFrom_ge (l := xs.take i) (v := x) (Int.le_refl 0)).1 h5
        symm
        rw [decide_eq_false_iff_not]
        intro h7
        exact (h7.1 x (by simp)).2 h6
      · have h6 : x ∉ xs.take i := fun h7 => h5 ((posFrom_ge (l := xs.take i) (v := x) (Int.le_refl 0)).2 h7)
        refine (ih (i + 1) h2).mono ?_
        rintro t rfl
        have h8 : xs.take (i + 1) = xs.take i ++ [x] := by rw [List.take_add_one, h3]; rfl
        rw [h8, decide_eq_decide]
        constructor
        · rintro ⟨h9, h10⟩
          refine ⟨fun y hy => ?_, List.nodup_cons.2 ⟨fun hx => ?_, h10⟩⟩
          · rcases List.mem_cons.1 hy with rfl | hy
            · exact ⟨⟨h4.1, by omega⟩, h6⟩
            · exact ⟨(h9 y hy).1, fun h11 => (h9 y hy).2 (List.mem_append_left _ h11)⟩
          · exact (h9 x hx).2 (by simp)
        · rintro ⟨h9, h10⟩
          obtain ⟨h11, h12⟩ := List.nodup_cons.1 h10
          refine ⟨fun y hy => ⟨(h9 y (List.mem_cons_of_mem _ hy)).1, fun h13 => ?_⟩, h12⟩
          rcases List.mem_append.1 h13 with h13 | h13
          · exact (h9 y (List.mem_cons_of_mem _ hy)).2 h13
          · rw [List.mem_singleton] at h13
            exact h11 (h13 ▸ hy)
    · symm
      rw [decide_eq_false_iff_not]
      intro h7
      have := (h7.1 x (by simp)).1
      omega
theorem validMembers_tot {xs : List Int} {n : Int} (hl : xs.length ≤ 1000000000000) (hn : 0 ≤ n) (hn2 : n ≤ 1000000000000) : Tot (fun k => spec_validMembers.f k xs n) (fun t => t = decide (DB xs n)) := by
  unfold spec_validMembers.f
  refine (validMembers_l0 hl hn hn2 xs 0 rfl).mono ?_
  rintro t rfl
  rw [decide_eq_decide]
  simp [DB]
/-- An order: each number below the length once. -/
theorem specValidOrder_tot {xs : List Int} (hl : xs.length ≤ 1000000000000) : Tot (fun k => spec_validOrder.f k xs) (fun t => t = decide (VO xs)) := by
  unfold spec_validOrder.f
  rw [inRange_eq]
  simp only [Option.bind_some, decide_eq_true_eq]
  refine Tot.ite (fun h => ?_) (fun h => Tot.now ?_)
  · refine Tot.bind (validMembers_tot hl (by omega) (by omega)) ?_
    rintro t rfl
    refine Tot.now ?_
    rw [decide_eq_decide]
    exact ⟨fun h9 => ⟨by omega, by omega, h9⟩, fun h9 => h9.2.2⟩
  · symm
    rw [decide_eq_false_iff_not]
    intro h2
    exact h ⟨h2.1, h2.2.1⟩
def leave (m : Int) : List Int → List Int
  | [] => []
  | x :: r => if x > m then (x - 1) :: leave m r else if x < m then x :: leave m r else leave m r
theorem leave_length (m : Int) : ∀ l : List Int, (leave m l).length ≤ l.length := by
  intro l
  induction l with
  | nil => simp [leave]
  | cons x r ih => rw [leave]; split <;> (try split) <;> simp <;> omega
theorem implLeave_l0 {xs : List Int} {m : Int} (hl : xs.length ≤ 1000000) (hx : ∀ x ∈ xs, 0 ≤ x ∧ x < 1000000) : ∀ (r : List Int) (i : Nat) (out : List Int), xs.drop i = r → out.length ≤ i →
    Tot (fun k => impl_LeaveSeat.l0 k m out xs xs.length i) (fun t => t = out ++ leave m r) := by
  intro r
  induction r with
  | nil =>
    intro i out h ho
    have := drop_nil h
    exact Tot.step (fun _ => impl_LeaveSeat.l0.eq_2 ..) (Tot.neg (by omega) (Tot.now (by simp [leave])))
  | cons x r ih =>
    intro i out h ho
    obtain ⟨h1, h2, h3⟩ := drop_cons h
    have hx1 := hx x (List.mem_of_getElem? h3)
    refine Tot.step (fun _ => impl_LeaveSeat.l0.eq_2 ..) ?_
    rw [rd_at h3, w64s (by omega), w64 (x := x - 1) (by omega) (by omega), leave]
    refine Tot.pos (by omega) (Tot.pos (by omega) (Tot.pos (by omega) (Tot.ite (fun h4 => Tot.pos (by omega) ?_) (fun h4 => Tot.ite (fun h5 => Tot.pos (by omega) ?_) (fun h5 => ?_)))))
    · rw [if_pos h4]
      refine (ih (i + 1) _ h2 (by simp; omega)).mono ?_
      rintro t rfl
      simp
    · rw [if_neg h4, if_pos h5]
      refine (ih (i + 1) _ h2 (by simp; omega)).mono ?_
      rintro t rfl
      simp
    · rw [if_neg h4, if_neg h5]
      exact ih (i + 1) _ h2 (by omega)
theorem specLeave_l0 {xs : List Int} {m : Int} (hl : xs.length ≤ 1000000) (hx : ∀ x ∈ xs, 0 ≤ x ∧ x < 1000000) : ∀ (r : List Int) (i : Nat) (out : List Int), xs.drop i = r → out.length ≤ i →
    Tot (fun k => spec_LeaveSeat.l0 k xs m out i) (fun t => t = out ++ leave m r) := by
  intro r
  induction r with
  | nil =>
    intro i out h ho
    have := drop_nil h
    exact Tot.step (fun _ => spec_LeaveSeat.l0.eq_2 ..) (Tot.neg (by omega) (Tot.now (by simp [leave])))
  | cons x r ih =>
    intro i out h ho
    obtain ⟨h1, h2, h3⟩ := drop_cons h
    have hx1 := hx x (List.mem_of_getElem? h3)
    refine Tot.step (fun _ => spec_LeaveSeat.l0.eq_2 ..) ?_
    rw [rd_at h3, w64s (by omega), w64 (x := x - 1) (by omega) (by omega), leave]
    refine Tot.pos (by omega) (Tot.pos (by omega) (Tot.ite (fun h4 => Tot.pos (by omega) ?_) (fun h4 => Tot.ite (fun h5 => Tot.pos (by omega) ?_) (fun h5 => ?_))))
    · rw [if_neg (by omega), if_pos h4]
      simp only [Option.bind_some]
      refine Tot.neg (by omega) ((ih (i + 1) _ h2 (by simp; omega)).mono ?_)
      rintro t rfl
      simp
    · rw [if_pos h5]
      refine (ih (i + 1) _ h2 (by simp; omega)).mono ?_
      rintro t rfl
      simp
    · rw [if_neg h5, if_neg h4]
      exact ih (i + 1) _ h2 (by omega)
theorem VO.small {xs : List Int} (h : VO xs) : ∀ x ∈ xs, 0 ≤ x ∧ x < 1000000 := fun x hx => by
  have h1 := h.2.2.1 x hx
  have h2 := h.2.1
  omega
def leaveAll (xs : List Int) (m : Int) : List Int := if VO xs ∧ 2 ≤ xs.length ∧ m ∈ xs then leave m xs else []
theorem implLeaveSeat_tot {xs : List Int} {m : Int} (hl : xs.length ≤ 1000000000) : Tot (fun k => impl_LeaveSeat.f k xs m) (fun t => t = leaveAll xs m) := by
  unfold impl_LeaveSeat.f leaveAll
  refine Tot.bind (turnOf_tot (by omega)) ?_
  rintro t rfl
  by_cases hv : VO xs
  · rw [if_pos hv]
    have hp := posFrom_ge (l := xs) (v := m) (Int.le_refl 0)
    refine Tot.ite (fun h => Tot.step (fun _ => impl_LeaveSeat.j0.eq_2 ..) (Tot.pos rfl ?_)) (fun h => Tot.step (fun _ => impl_LeaveSeat.j0.eq_2 ..) ?_)
    · rw [if_neg (fun h2 => by have := hp.2 h2.2.2; omega)]; exact Tot.now rfl
    · have hm := hp.1 (by omega)
      simp only [decide_eq_true_eq]
      refine Tot.ite (fun h2 => ?_) (fun h2 => ?_)
      · rw [if_neg (fun h3 => by omega)]; exact Tot.now rfl
      · rw [if_pos ⟨hv, by omega, hm⟩]
        have := hv.2.1
        exact implLeave_l0 (by omega) hv.small xs 0 [] rfl (Nat.le_refl _)
  · rw [if_neg hv, if_neg (fun h => hv h.1)]
    exact Tot.pos (by omega) (Tot.step (fun _ => impl_LeaveSeat.j0.eq_2 ..) (Tot.pos rfl (Tot.now rfl)))
theorem specLeaveSeat_tot {xs : List Int} {m : Int} (hl : xs.length ≤ 1000000000) : Tot (fun k => spec_LeaveSeat.f k xs m) (fun t => t = leaveAll xs m) := by
  unfold spec_LeaveSeat.f leaveAll
  refine Tot.bind (specValidOrder_tot (by omega)) ?_
  rintro t rfl
  simp only [decide_eq_true_eq]
  refine Tot.ite (fun hv => ?_) (fun hv => ?_)
  · refine Tot.ite (fun h => Tot.step (fun _ => spec_LeaveSeat.j0.eq_2 ..) (Tot.pos rfl ?_)) (fun h => ?_)
    · rw [if_neg (fun h3 => by omega)]; exact Tot.now rfl
    · refine Tot.bind (placeIn_tot (by omega)) ?_
      rintro t rfl
      have hp := posFrom_ge (l := xs) (v := m) (Int.le_refl 0)
      refine Tot.step (fun _ => spec_LeaveSeat.j0.eq_2 ..) ?_
      simp only [decide_eq_true_eq]
      refine Tot.ite (fun h2 => ?_) (fun h2 => ?_)
      · rw [if_neg (fun h3 => by have := hp.2 h3.2.2; omega)]; exact Tot.now rfl
      · rw [if_pos ⟨hv, by omega, hp.1 (by omega)⟩]
        have := hv.2.1
        exact specLeave_l0 (by omega) hv.small xs 0 [] rfl (Nat.le_refl _)
  · rw [if_neg (fun h => hv h.1)]
    exact Tot.step (fun _ => spec_LeaveSeat.j0.eq_2 ..) (Tot.pos rfl (Tot.now rfl))
theorem leaveAll_length (xs : List Int) (m : Int) : (leaveAll xs m).length ≤ xs.length := by
  unfold leaveAll
  split
  · exact leave_length m xs
  · simp
theorem equalInts_l0 {a b : List Int} (hl : a.length = b.length) (ha : a.length ≤ 1000000000000) : ∀ (r s : List Int) (i : Nat), a.drop i = r → b.drop i = s →
    Tot (fun k => laws_equalInts.l0 k a b i) (fun t => t = decide (r = s)) := by
  intro r
  induction r with
  | nil =>
    intro s i h h2
    have h3 := drop_nil h
    have h4 : s = [] := by rw [← h2]; exact List.drop_eq_nil_of_le (by omega)
    exact Tot.step (fun _ => laws_equalInts.l0.eq_2 ..) (Tot.neg (by omega) (Tot.now (by simp [h4])))
  | cons x r ih =>
    intro s i h h2
    obtain ⟨h3, h4, h5⟩ := drop_cons h
    cases s with
    | nil => have := drop_nil h2; omega
    | cons y s =>
      obtain ⟨g3, g4, g5⟩ := drop_cons h2
      refine Tot.step (fun _ => laws_equalInts.l0.eq_2 ..) ?_
      rw [rd_at h5, rd_at g5, w64s (by omega)]
      refine Tot.pos (by omega) (Tot.pos (by omega) (Tot.pos (by omega) (Tot.ite (fun e => ?_) (fun e => Tot.now (by simp [e])))))
      refine (ih s (i + 1) h4 g4).mono ?_
      rintro t rfl
      simp [e]
theorem equalInts_tot {a b : List Int} (ha : a.length ≤ 1000000000000) : Tot (fun k => laws_equalInts.f k a b) (fun t => t = decide (a = b)) := by
  unfold laws_equalInts.f
  refine Tot.ite (fun h => ?_) (fun h => Tot.now ?_)
  · exact equalInts_l0 (by omega) ha a b 0 rfl rfl
  · symm
    rw [decide_eq_false_iff_not]
    rintro rfl
    exact h rfl
theorem leave_notin {m : Int} : ∀ {l : List Int}, m ∉ l → leave m l = l.map (fun x => if x > m then x - 1 else x) := by
  intro l
  induction l with
  | nil => intro _; rfl
  | cons x r ih =>
    intro h
    simp only [List.mem_cons, not_or] at h
    rw [leave, List.map_cons, ih h.2]
    by_cases h1 : x > m
    · simp only [if_pos h1]
    · rw [if_neg h1, if_pos (by omega), if_neg h1]
theorem leave_append (m : Int) : ∀ (a b : List Int), leave m (a ++ b) = leave m a ++ leave m b := by
  intro a b
  induction a with
  | nil => rfl
  | cons x a ih =>
    rw [List.cons_append, leave, leave, ih]
    split
    · rfl
    · split <;> rfl
theorem leave_at {l : List Int} {m : Int} (hn : l.Nodup) {j : Nat} (h : l[j]? = some m) : leave m l = (l.take j ++ l.drop (j + 1)).map (fun x => if x > m then x - 1 else x) ∧ m ∉ l.take j ++ l.drop (j + 1) := by
  obtain ⟨hj, hm⟩ := List.getElem?_eq_some_iff.1 h
  have e : l = l.take j ++ m :: l.drop (j + 1) := by rw [← hm, ← List.drop_eq_getElem_cons hj, List.take_append_drop]
  rw [e] at hn
  have h1 := List.nodup_append.1 hn
  obtain ⟨h2, h3, h4⟩ := h1
  have h5 := List.nodup_cons.1 h3
  have h6 : m ∉ l.take j := fun hm2 => h4 m hm2 m (by simp) rfl
  constructor
  · conv => lhs; rw [e]
    rw [leave_append, leave, if_neg (by omega), if_neg (by omega), leave_notin h6, leave_notin h5.1, List.map_append]
  · intro h7
    rcases List.mem_append.1 h7 with h7 | h7
    · exact h6 h7
    · exact h5.1 h7
theorem leave_VO {l : List Int} {m : Int} (hv : VO l) (h2 : 2 ≤ l.length) {j : Nat} (h : l[j]? = some m) : VO (leave m l) ∧ (leave m l).length + 1 = l.length := by
  obtain ⟨e, hm⟩ := leave_at hv.2.2.2 h
  obtain ⟨hj, hmj⟩ := List.getElem?_eq_some_iff.1 h
  have hlen : (leave m l).length + 1 = l.length := by rw [e]; simp; omega
  have hin : ∀ x ∈ l.take j ++ l.drop (j + 1), (0 ≤ x ∧ x < l.length) ∧ x ≠ m := by
    intro x hx
    refine ⟨hv.2.2.1 x ?_, fun e2 => hm (e2 ▸ hx)⟩
    rcases List.mem_append.1 hx with hx | hx
    · exact List.mem_of_mem_take hx
    · exact List.mem_of_mem_drop hx
  have hmr := hv.2.2.1 m (List.mem_of_getElem? h)
  have h12 := hv.2.1
  refine ⟨⟨by omega, by omega, ?_, ?_⟩, hlen⟩
  · intro x hx
    rw [e, List.mem_map] at hx
    obtain ⟨y, hy, rfl⟩ := hx
    have := hin y hy
    split <;> omega
  · rw [e]
    have hn : (l.take j ++ l.drop (j + 1)).Nodup := by
      refine List.Sublist.nodup (l₂ := l) ?_ hv.2.2.2
      conv => rhs; rw [← List.take_append_drop j l]
      refine List.Sublist.append_left ?_ _
      rw [← List.drop_drop]
      exact List.drop_sublist _ _
    unfold List.Nodup at hn ⊢
    rw [List.pairwise_map]
    refine List.Pairwise.imp_of_mem ?_ hn
    intro a b ha hb hab
    have h3 := hin a ha
    have h4 := hin b hb
    split <;> split <;> omega
theorem join_eq {a b : List Int} (ha : a.length < 1000000) (hb : b.length < 1000000) : laws_join.f a b = some (a ++ b) := by
  unfold laws_join.f
  simp only [Option.bind_some, List.nil_append]
  rw [if_pos (by simp; omega), if_pos (by omega)]
theorem without_eq {a : List Int} {j : Nat} (hj : j < a.length) (ha : a.length < 1000000) : laws_without.f a j = some (a.take j ++ a.drop (j + 1)) := by
  unfold laws_without.f
  rw [w64s (by omega), Int.toNat_natCast, Int.toNat_natCast, join_eq (by simp; omega) (by simp; omega)]
  rw [if_pos (by omega), if_pos (by omega), if_pos (by omega), if_pos (by omega)]
  rfl
theorem law_l0 {l : List Int} {m : Int} {r : List Int} (hr : ∀ x ∈ r, 0 ≤ x ∧ x < 1000) (hlen : r.length ≤ 1000) (hv : VO (r.map (fun x => if x > m then x - 1 else x))) (h2 : r.length + 1 = l.length) : ∀ (d i : Nat), i + d = r.length →
    Tot (fun k => laws_FnLeaveSeat.l0 k l m (r.map (fun x => if x > m then x - 1 else x)) r i) (fun t => t = true) := by
  intro d
  induction d with
  | zero =>
    intro i hi
    refine Tot.step (fun _ => laws_FnLeaveSeat.l0.eq_2 ..) (Tot.neg (by simp; omega) ?_)
    refine Tot.bind (implValidOrder_tot (by simp; omega)) ?_
    rintro t rfl
    refine Tot.pos (by simp [hv]) (Tot.now ?_)
    rw [w64 (x := (l.length : Int) - 1) (by omega) (by omega)]
    simp
    omega
  | succ d ih =>
    intro i hi
    refine Tot.step (fun _ => laws_FnLeaveSeat.l0.eq_2 ..) ?_
    have hg : i < r.length := by omega
    have h3 := hr r[i] (List.getElem_mem hg)
    rw [rd_get hg, rd_get (xs := r.map _) (by simpa using hg), w64s (by omega), w64 (x := r[i] - 1) (by omega) (by omega)]
    simp only [List.getElem_map]
    refine Tot.pos (by simp; omega) (Tot.pos (by omega) (Tot.pos (by omega) (Tot.ite (fun h4 => Tot.pos (by rw [if_pos h4]) (ih _ (by omega))) (fun h4 => Tot.pos (by rw [if_neg h4]) (ih _ (by omega))))))
theorem FnLeaveSeat : laws_FnLeaveSeat.Pure := by
  intro l hl hl2 hw
  refine Tot.ends (g := fun k => laws_FnLeaveSeat.f k l) ?_
  unfold laws_FnLeaveSeat.f spec_DrawLeaveSeat.f spec_DrawInheritSeats.f
  refine Tot.ite (fun _ => Tot.now rfl) (fun _ => ?_)
  obtain ⟨b, hb, hb2, hb3⟩ := newReader_tot hw
  rw [hb]
  simp only [Option.bind_some]
  refine Tot.bind (P := fun x => x.1.length ≤ 12) (Tot.bind (P := fun x => x.1.length ≤ 12) (Tot.bind (anyOrder_tot hb3 (Int.le_refl _) (by omega)) ?_) ?_) ?_
  · rintro ⟨xs, p⟩ ⟨h1, h2, h3⟩
    simp only at h1 h2 h3 ⊢
    refine Tot.bind (one_tot hb3 (by omega) (by omega) (by simp) (by simp)) ?_
    rintro ⟨v, q⟩ _
    exact Tot.now h1
  · rintro ⟨xs, m⟩ h1
    exact Tot.now h1
  rintro ⟨xs, m⟩ h1
  simp only at h1 ⊢
  refine Tot.bind (implLeaveSeat_tot (by omega)) ?_
  rintro _ rfl
  refine Tot.bind (specLeaveSeat_tot (by omega)) ?_
  rintro _ rfl
  have hll := leaveAll_length xs m
  refine Tot.bind (equalInts_tot (by omega)) ?_
  rintro _ rfl
  refine Tot.pos (by simp) (Tot.step (fun _ => laws_FnLeaveSeat.j0.eq_2 ..) ?_)
  by_cases hc : VO xs ∧ 2 ≤ xs.length ∧ m ∈ xs
  · obtain ⟨j, hj, hj2, hj3⟩ := posFrom_some (i := 0) hc.2.2
    obtain ⟨e, _⟩ := leave_at hc.1.2.2.2 hj2
    obtain ⟨hv2, hv3⟩ := leave_VO hc.1 hc.2.1 hj2
    have e2 : leaveAll xs m = leave m xs := by rw [leaveAll, if_pos hc]
    rw [e2]
    refine Tot.neg (by rw [beq_iff_eq]; omega) ?_
    refine Tot.bind (turnOf_tot (by omega)) ?_
    rintro _ rfl
    rw [if_pos hc.1, hj3, Int.zero_add, without_eq hj (by omega)]
    simp only [Option.bind_some]
    rw [e] at hv2 hv3 ⊢
    refine law_l0 (l := xs) (r := xs.take j ++ xs.drop (j + 1)) ?_ (by simp; omega) hv2 (by simpa using hv3) _ 0 (Nat.zero_add _)
    intro x hx
    have h12 := hc.1.2.1
    have hx2 : x ∈ xs := by
      rcases List.mem_append.1 hx with hx | hx
      · exact List.mem_of_mem_take hx
      · exact List.mem_of_mem_drop hx
    have := hc.1.2.2.1 x hx2
    omega
  · have e2 : leaveAll xs m = [] := by rw [leaveAll, if_neg hc]
    refine Tot.pos (by rw [e2]; rfl) ?_
    refine Tot.bind (specLeaveSeat_tot (by omega)) ?_
    rintro _ rfl
    refine Tot.bind (equalInts_tot (by omega)) ?_
    rintro _ rfl
    exact Tot.now (by simp)
end Go.Proofs.Ytlkcblhagcgboaa.Pure
