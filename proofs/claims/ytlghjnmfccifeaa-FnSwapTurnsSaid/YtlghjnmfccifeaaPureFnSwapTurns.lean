/- FnSwapTurns: for every code, exchanged turns are exchanged back, and other members keep their turns. No condition beyond the statement's own. -/
import Derived.Test.YtlghjnmfccifeaaQFnSwapTurnsx3
import Derived.Test.YtlghjnmfccifeaaCore
namespace Go.Proofs.Ytlghjnmfccifeaa.Pure
open Go.RowKit Go.Proofs.Ytlghjnmfccifeaa.PFnSwapTurns Go.Proofs.YtlghjnmfccifeaaW.PrintWords
set_option linter.unusedSimpArgs false
set_option linter.unusedVariables false

theorem getD_set_true {s : List Bool} {a b : Nat} (ha : a < s.length) : (s.set a true).getD b false = false ↔ b ≠ a ∧ s.getD b false = false := by
  simp only [List.getD_eq_getElem?_getD, List.getElem?_set]
  by_cases h : a = b
  · subst h; simp [ha]
  · rw [if_neg h]
    constructor
    · intro h2; exact ⟨fun e => h e.symm, h2⟩
    · intro h2; exact h2.2
theorem differentBelow_l0 {xs : List Int} {n : Int} (hl : xs.length ≤ 1000000000000) : ∀ (r : List Int) (i : Nat) (s : List Bool), xs.drop i = r → (s.length : Int) = n →
    Tot (fun k => impl_differentBelow.l0 k n s xs xs.length i) (fun t => t = decide ((∀ x ∈ r, (0 ≤ x ∧ x < n) ∧ s.getD x.toNat false = false) ∧ r.Nodup)) := by
  intro r
  induction r with
  | nil =>
    intro i s h hs
    have := drop_nil h
    exact Tot.step (fun _ => impl_differentBelow.l0.eq_2 ..) (Tot.neg (by omega) (Tot.now (by simp)))
  | cons x r ih =>
    intro i s h hs
    obtain ⟨h1, h2, h3⟩ := drop_cons h
    refine Tot.step (fun _ => impl_differentBelow.l0.eq_2 ..) ?_
    rw [rd_at h3, w64s (by omega)]
    refine Tot.pos (by omega) (Tot.pos (by omega) (Tot.pos (by omega) (Tot.ite (fun h4 => Tot.now ?_) (fun h4 => Tot.ite (fun h5 => Tot.now ?_) (fun h5 => Tot.pos (by omega) (Tot.pos (by omega) (Tot.ite (fun h6 => Tot.now ?_) (fun h6 => ?_))))))))
    · symm
      rw [decide_eq_false_iff_not]
      intro h7
      have := (h7.1 x (by simp)).1
      omega
    · symm
      rw [decide_eq_false_iff_not]
      intro h7
      have := (h7.1 x (by simp)).1
      omega
    · symm
      rw [decide_eq_false_iff_not]
      intro h7
      have h8 := (h7.1 x (by simp)).2
      rw [rdOf, h8] at h6
      cases h6
    · have h6' : s.getD x.toNat false = false := by
        rw [rdOf] at h6
        simpa using h6
      have hx : x.toNat < s.length := by omega
      refine (ih (i + 1) (s.set x.toNat true) h2 (by simp; omega)).mono ?_
      rintro t rfl
      rw [decide_eq_decide]
      constructor
      · rintro ⟨h9, h10⟩
        refine ⟨fun y hy => ?_, List.nodup_cons.2 ⟨fun hx2 => ?_, h10⟩⟩
        · rcases List.mem_cons.1 hy with rfl | hy
          · exact ⟨⟨by omega, by omega⟩, h6'⟩
          · exact ⟨(h9 y hy).1, ((getD_set_true hx).1 (h9 y hy).2).2⟩
        · exact ((getD_set_true hx).1 (h9 x hx2).2).1 rfl
      · rintro ⟨h9, h10⟩
        obtain ⟨h11, h12⟩ := List.nodup_cons.1 h10
        refine ⟨fun y hy => ⟨(h9 y (List.mem_cons_of_mem _ hy)).1, (getD_set_true hx).2 ⟨fun h13 => ?_, (h9 y (List.mem_cons_of_mem _ hy)).2⟩⟩, h12⟩
        have h14 := (h9 y (List.mem_cons_of_mem _ hy)).1
        have h15 : y = x := by omega
        exact h11 (h15 ▸ hy)
theorem differentBelow_tot {xs : List Int} {n : Int} (hl : xs.length ≤ 1000000000000) (hn : 0 ≤ n) (hn2 : n ≤ 1000000000000) : Tot (fun k => impl_differentBelow.f k xs n) (fun t => t = decide (DB xs n)) := by
  unfold impl_differentBelow.f
  refine Tot.ite (fun h => Tot.now ?_) (fun h => Tot.pos hn (Tot.pos (by omega) ?_))
  · symm
    rw [decide_eq_false_iff_not]
    intro h2
    have := h2.le hn
    omega
  · refine (differentBelow_l0 hl xs 0 _ rfl (by simp; omega)).mono ?_
    rintro t rfl
    rw [decide_eq_decide]
    have : ∀ j, (List.replicate n.toNat false).getD j false = false := by
      intro j
      simp only [List.getD_eq_getElem?_getD, List.getElem?_replicate]
      split <;> rfl
    simp only [this, and_true]
    exact Iff.rfl
theorem implValidOrder_tot {xs : List Int} (hl : xs.length ≤ 1000000000000) : Tot (fun k => impl_ValidOrder.f k xs) (fun t => t = decide (VO xs)) := by
  unfold impl_ValidOrder.f
  refine Tot.ite (fun h => Tot.ite (fun h2 => ?_) (fun h2 => Tot.now ?_)) (fun h => Tot.now ?_)
  · refine Tot.bind (differentBelow_tot hl (by omega) (by omega)) ?_
    rintro t rfl
    refine Tot.now ?_
    rw [decide_eq_decide]
    exact ⟨fun h9 => ⟨by omega, by omega, h9⟩, fun h9 => h9.2.2⟩
  · symm
    rw [decide_eq_false_iff_not]
    intro h3
    exact h2 h3.2.1
  · symm
    rw [decide_eq_false_iff_not]
    intro h3
    exact h h3.1
theorem index_l0 {xs : List Int} {v : Int} (hl : xs.length ≤ 1000000000000) : ∀ (r : List Int) (i : Nat), xs.drop i = r →
    Tot (fun k => slices_Index_int_int.l0 k xs v xs.length i) (fun t => t = posFrom r v i) := by
  intro r
  induction r with
  | nil =>
    intro i h
    have := drop_nil h
    exact Tot.step (fun _ => slices_Index_int_int.l0.eq_2 ..) (Tot.neg (by omega) (Tot.now rfl))
  | cons x r ih =>
    intro i h
    obtain ⟨h1, h2, h3⟩ := drop_cons h
    refine Tot.step (fun _ => slices_Index_int_int.l0.eq_2 ..) ?_
    rw [rd_at h3, w64s (by omega), posFrom]
    refine Tot.pos (by omega) (Tot.pos (by omega) (Tot.pos (by omega) (Tot.ite (fun h4 => ?_) (fun h4 => ?_))))
    · rw [if_pos h4.symm]; exact Tot.now rfl
    · rw [if_neg (fun e => h4 e.symm)]; exact ih (i + 1) h2
theorem index_tot {xs : List Int} {v : Int} (hl : xs.length ≤ 1000000000000) : Tot (fun k => slices_Index_int_int.f k xs v) (fun t => t = posFrom xs v 0) := by
  unfold slices_Index_int_int.f
  exact index_l0 hl xs 0 rfl
theorem turnOf_tot {xs : List Int} {v : Int} (hl : xs.length ≤ 1000000000000) : Tot (fun k => impl_TurnOf.f k xs v) (fun t => t = if VO xs then posFrom xs v 0 else -1) := by
  unfold impl_TurnOf.f
  refine Tot.bind (implValidOrder_tot hl) ?_
  rintro t rfl
  simp only [decide_eq_true_eq]
  refine Tot.ite (fun h => ?_) (fun h => ?_)
  · rw [if_pos h]
    refine Tot.bind (index_tot hl) ?_
    rintro t rfl
    exact Tot.now rfl
  · rw [if_neg h]; exact Tot.now rfl
theorem inRange_eq (a b c : Int) : spec_inRange.f a b c = some (decide (b ≤ a ∧ a ≤ c)) := by
  unfold spec_inRange.f
  by_cases h : b ≤ a
  · rw [if_pos h]; simp [h]
  · rw [if_neg h]; simp [h]
theorem placeIn_l0 {xs : List Int} {v : Int} (hl : xs.length ≤ 1000000000000) : ∀ (r : List Int) (i : Nat), xs.drop i = r →
    Tot (fun k => spec_placeIn.l0 k xs v i) (fun t => t = posFrom r v i) := by
  intro r
  induction r with
  | nil =>
    intro i h
    have := drop_nil h
    exact Tot.step (fun _ => spec_placeIn.l0.eq_2 ..) (Tot.neg (by omega) (Tot.now rfl))
  | cons x r ih =>
    intro i h
    obtain ⟨h1, h2, h3⟩ := drop_cons h
    refine Tot.step (fun _ => spec_placeIn.l0.eq_2 ..) ?_
    rw [rd_at h3, w64s (by omega), posFrom]
    refine Tot.pos (by omega) (Tot.pos (by omega) (Tot.ite (fun h4 => ?_) (fun h4 => ?_)))
    · rw [if_pos h4]; exact Tot.now rfl
    · rw [if_neg h4]; exact ih (i + 1) h2
theorem placeIn_tot {xs : List Int} {v : Int} (hl : xs.length ≤ 1000000000000) : Tot (fun k => spec_placeIn.f k xs v) (fun t => t = posFrom xs v 0) := by
  unfold spec_placeIn.f
  exact placeIn_l0 hl xs 0 rfl
theorem validMembers_l0 {xs : List Int} {n : Int} (hl : xs.length ≤ 1000000000000) (hn : 0 ≤ n) (hn2 : n ≤ 1000000000000) : ∀ (r : List Int) (i : Nat), xs.drop i = r →
    Tot (fun k => spec_validMembers.l0 k xs n i) (fun t => t = decide ((∀ x ∈ r, (0 ≤ x ∧ x < n) ∧ x ∉ xs.take i) ∧ r.Nodup)) := by
  intro r
  induction r with
  | nil =>
    intro i h
    have := drop_nil h
    exact Tot.step (fun _ => spec_validMembers.l0.eq_2 ..) (Tot.neg (by omega) (Tot.now (by simp)))
  | cons x r ih =>
    intro i h
    obtain ⟨h1, h2, h3⟩ := drop_cons h
    refine Tot.step (fun _ => spec_validMembers.l0.eq_2 ..) ?_
    rw [rd_at h3, w64s (by omega), w64 (x := n - 1) (by omega) (by omega), inRange_eq]
    simp only [Option.bind_some, decide_eq_true_eq]
    refine Tot.pos (by omega) (Tot.pos (by omega) (Tot.ite (fun h4 => Tot.pos (by omega) ?_) (fun h4 => Tot.now ?_)))
    · rw [Int.toNat_natCast]
      refine Tot.bind (placeIn_tot (by simp; omega)) ?_
      rintro t rfl
      refine Tot.ite (fun h5 => Tot.now ?_) (fun h5 => ?_)
      · have h6 := (posFrom_ge (l := xs.take i) (v := x) (Int.le_refl 0)).1 h5
        symm
        rw [decide_eq_false_iff_not]
        intro h7
        exact (h7.1 x (by simp)).2 h6
      · have h6 : x ∉ xs.take i := fun h7 => h5 ((posFrom_ge (l := xs.take i) (v := x) (Int.le_refl 0)).2 h7)
        refine (ih (i + 1) h2).mono ?_
        rintro t rfl
        have h8 : xs.take (i + 1) = xs.take i ++ [x] := by rw [List.take_add_one, h3]; rfl
        rw [h8, decide_eq_decide]
        constructor
        · rintro ⟨h9, h10⟩
          refine ⟨fun y hy => ?_, List.nodup_cons.2 ⟨fun hx => ?_, h10⟩⟩
          · rcases List.mem_cons.1 hy with rfl | hy
            · exact ⟨⟨h4.1, by omega⟩, h6⟩
            · exact ⟨(h9 y hy).1, fun h11 => (h9 y hy).2 (List.mem_append_left _ h11)⟩
          · exact (h9 x hx).2 (by simp)
        · rintro ⟨h9, h10⟩
          obtain ⟨h11, h12⟩ := List.nodup_cons.1 h10
          refine ⟨fun y hy => ⟨(h9 y (List.mem_cons_of_mem _ hy)).1, fun h13 => ?_⟩, h12⟩
          rcases List.mem_append.1 h13 with h13 | h13
          · exact (h9 y (List.mem_cons_of_mem _ hy)).2 h13
          · rw [List.mem_singleton] at h13
            exact h11 (h13 ▸ hy)
    · symm
      rw [decide_eq_false_iff_not]
      intro h7
      have := (h7.1 x (by simp)).1
      omega
theorem validMembers_tot {xs : List Int} {n : Int} (hl : xs.length ≤ 1000000000000) (hn : 0 ≤ n) (hn2 : n ≤ 1000000000000) : Tot (fun k => spec_validMembers.f k xs n) (fun t => t = decide (DB xs n)) := by
  unfold spec_validMembers.f
  refine (validMembers_l0 hl hn hn2 xs 0 rfl).mono ?_
  rintro t rfl
  rw [decide_eq_decide]
  simp [DB]
/-- An order: each number below the length once. -/
theorem specValidOrder_tot {xs : List Int} (hl : xs.length ≤ 1000000000000) : Tot (fun k => spec_validOrder.f k xs) (fun t => t = decide (VO xs)) := by
  unfold spec_validOrder.f
  rw [inRange_eq]
  simp only [Option.bind_some, decide_eq_true_eq]
  refine Tot.ite (fun h => ?_) (fun h => Tot.now ?_)
  · refine Tot.bind (validMembers_tot hl (by omega) (by omega)) ?_
    rintro t rfl
    refine Tot.now ?_
    rw [decide_eq_decide]
    exact ⟨fun h9 => ⟨by omega, by omega, h9⟩, fun h9 => h9.2.2⟩
  · symm
    rw [decide_eq_false_iff_not]
    intro h2
    exact h ⟨h2.1, h2.2.1⟩
theorem copyInts_eq {l : List Int} (h : l.length < 17592186044416) : spec_copyInts.f l = some l := by
  simp [spec_copyInts.f, h]
theorem Tot.bindv {α β : Type} {g : Nat → Option α} {F : Nat → α → Option β} {v : α} {Q : β → Prop} (h : Tot g (fun t => t = v)) (h2 : Tot (fun k => F k v) Q) : Tot (fun k => (g k).bind (F k)) Q :=
  Tot.bind h (fun a ha => by rw [ha]; exact h2)
/-- The order with two turns exchanged. -/
def sw (l : List Int) (a b : Int) : List Int := if VO l ∧ a ∈ l ∧ b ∈ l then (l.set (posFrom l a 0).toNat b).set (posFrom l b 0).toNat a else []
theorem sw_len (l : List Int) (a b : Int) : (sw l a b).length ≤ l.length := by
  unfold sw
  split
  · simp
  · simp
theorem clone_eq {l : List Int} (h : l.length < 17592186044416) : slices_Clone_int_int.f l = some l := by
  simp [slices_Clone_int_int.f, h]
theorem implSwap_tot {l : List Int} {a b : Int} (hl : l.length ≤ 1000000000) : Tot (fun k => impl_SwapTurns.f k l a b) (fun t => t = sw l a b) := by
  unfold impl_SwapTurns.f
  refine Tot.bindv (turnOf_tot (by omega)) (Tot.bindv (turnOf_tot (by omega)) ?_)
  have bad : ¬ (VO l ∧ a ∈ l ∧ b ∈ l) → Tot (fun _ => some ([] : List Int)) (fun t => t = sw l a b) := fun h => Tot.now (by unfold sw; rw [if_neg h])
  by_cases h : VO l
  · rw [if_pos h, if_pos h]
    refine Tot.ite (fun h1 => bad fun h2 => ?_) (fun h1 => Tot.ite (fun h2 => bad fun h3 => ?_) (fun h2 => ?_))
    · have := (posFrom_ge (l := l) (v := a) (i := 0) (Int.le_refl _)).2 h2.2.1
      omega
    · have := (posFrom_ge (l := l) (v := b) (i := 0) (Int.le_refl _)).2 h3.2.2
      omega
    · have ha : a ∈ l := (posFrom_ge (i := 0) (Int.le_refl _)).1 (by omega)
      have hb : b ∈ l := (posFrom_ge (i := 0) (Int.le_refl _)).1 (by omega)
      obtain ⟨p, p1, p2, p3⟩ := posFrom_some (i := 0) ha
      obtain ⟨q, q1, q2, q3⟩ := posFrom_some (i := 0) hb
      rw [clone_eq (by omega)]
      refine Tot.known (Tot.pos (by omega) (Tot.pos (by omega) (Tot.pos (by omega) (Tot.pos (by omega) (Tot.now ?_)))))
      unfold sw
      rw [if_pos ⟨h, ha, hb⟩]
  · rw [if_neg h]
    exact Tot.pos (by omega) (bad fun h2 => h h2.1)
theorem specSwap_tot {l : List Int} {a b : Int} (hl : l.length ≤ 1000000000) : Tot (fun k => spec_SwapTurns.f k l a b) (fun t => t = sw l a b) := by
  unfold spec_SwapTurns.f
  have bad : ¬ (VO l ∧ a ∈ l ∧ b ∈ l) → Tot (fun k => spec_SwapTurns.j0 k l a b true) (fun t => t = sw l a b) := fun h =>
    Tot.step (fun _ => spec_SwapTurns.j0.eq_2 ..) (Tot.pos rfl (Tot.now (by unfold sw; rw [if_neg h])))
  refine Tot.bindv (specValidOrder_tot (by omega)) (Tot.ite (fun h => ?_) (fun h => bad fun h2 => h (decide_eq_true h2.1)))
  have h := of_decide_eq_true h
  refine Tot.bindv (placeIn_tot (by omega)) (Tot.ite (fun h1 => bad fun h2 => ?_) (fun h1 => Tot.bindv (placeIn_tot (by omega)) ?_))
  · have := (posFrom_ge (l := l) (v := a) (i := 0) (Int.le_refl _)).2 h2.2.1
    omega
  · by_cases h2 : posFrom l b 0 < 0
    · rw [decide_eq_true h2]
      refine bad fun h3 => ?_
      have := (posFrom_ge (l := l) (v := b) (i := 0) (Int.le_refl _)).2 h3.2.2
      omega
    · rw [decide_eq_false h2]
      have ha : a ∈ l := (posFrom_ge (i := 0) (Int.le_refl _)).1 (by omega)
      have hb : b ∈ l := (posFrom_ge (i := 0) (Int.le_refl _)).1 (by omega)
      obtain ⟨p, p1, p2, p3⟩ := posFrom_some (i := 0) ha
      obtain ⟨q, q1, q2, q3⟩ := posFrom_some (i := 0) hb
      refine Tot.step (fun _ => spec_SwapTurns.j0.eq_2 ..) (Tot.neg (by decide) ?_)
      rw [copyInts_eq (by omega)]
      refine Tot.known (Tot.bindv (placeIn_tot (by omega)) (Tot.pos (by omega) (Tot.pos (by omega) (Tot.bindv (placeIn_tot (by omega)) (Tot.pos (by omega) (Tot.pos (by omega) (Tot.now ?_)))))))
      unfold sw
      rw [if_pos ⟨h, ha, hb⟩]
/-! the reader -/
theorem pick_tot {b : List Int} (hb : ∀ x ∈ b, 0 ≤ x ∧ x < 256) {p n : Int} (hp : 0 ≤ p) (hp2 : p ≤ 1000000000) (hn : n ≤ 1000000000000) :
    Tot (fun k => spec_reader_pick.f k b p n) (fun r => r.2 = p + 1 ∧ 0 ≤ r.1 ∧ (r.1 < n ∨ r.1 = 0)) := by
  have e1 : wrap64 (p + 1) = p + 1 := w64 (by omega) (by omega)
  have e2 : wrap64 (p + 1 - 1) = p := by rw [w64 (by omega) (by omega)]; omega
  have main : ∀ t : Bool, (t = false → 1 ≤ n ∧ b.length ≠ 0) → Tot (fun k => spec_reader_pick.j0 k n t b (p + 1)) (fun r => r.2 = p + 1 ∧ 0 ≤ r.1 ∧ (r.1 < n ∨ r.1 = 0)) := by
    intro t ht
    refine Tot.step (fun _ => spec_reader_pick.j0.eq_2 ..) ?_
    simp only [e2]
    cases t with
    | true => exact Tot.pos rfl (Tot.now ⟨rfl, Int.le_refl _, .inr rfl⟩)
    | false =>
      obtain ⟨hn1, hne⟩ := ht rfl
      refine Tot.neg (by simp) ?_
      by_cases hlt : p < (b.length : Int)
      · refine Tot.pos hlt (Tot.pos hp (Tot.neg (by omega) ?_))
        have hr := hb _ (rd_mem hp hlt)
        rw [w64 (x := rd b p) (by omega) (by omega), tmod_nn hr.1]
        exact Tot.now ⟨rfl, Int.emod_nonneg _ (by omega), .inl (Int.emod_lt_of_pos _ (by omega))⟩
      · refine Tot.neg hlt (Tot.neg (by omega) ?_)
        have hlen : 0 < (b.length : Int) := by omega
        have i1 : 0 ≤ Int.tmod p b.length ∧ Int.tmod p b.length < b.length := by
          rw [tmod_nn hp]; exact ⟨Int.emod_nonneg _ (by omega), Int.emod_lt_of_pos _ hlen⟩
        have e3 : wrap64 (wrap64 (p * 7) + 3) = p * 7 + 3 := by
          rw [w64 (x := p * 7) (by omega) (by omega)]; exact w64 (by omega) (by omega)
        rw [e3]
        have i2 : 0 ≤ Int.tmod (p * 7 + 3) b.length ∧ Int.tmod (p * 7 + 3) b.length < b.length := by
          rw [tmod_nn (by omega)]; exact ⟨Int.emod_nonneg _ (by omega), Int.emod_lt_of_pos _ hlen⟩
        refine Tot.pos i1.1 (Tot.pos i1.2 (Tot.pos i2.1 (Tot.pos i2.2 (Tot.neg (by omega) ?_))))
        have hu := hb _ (rd_mem i1.1 i1.2)
        have hv := hb _ (rd_mem i2.1 i2.2)
        have hq : 0 ≤ Int.tdiv p b.length ∧ Int.tdiv p b.length ≤ p := by
          rw [tdiv_nn hp]
          exact ⟨Int.ediv_nonneg hp (by omega), Int.ediv_le_self _ hp⟩
        generalize rd b (Int.tmod p b.length) = u at hu ⊢
        generalize rd b (Int.tmod (p * 7 + 3) b.length) = v at hv ⊢
        generalize Int.tdiv p b.length = q at hq ⊢
        rw [w64 (x := u) (by omega) (by omega), w64 (x := v) (by omega) (by omega), w64 (x := q) (by omega) (by omega), w64 (x := u * 131) (by omega) (by omega), w64 (x := v * 1117) (by omega) (by omega), w64 (x := p * 29) (by omega) (by omega), w64 (x := q * 53) (by omega) (by omega),
          w64 (x := u * 131 + v * 1117) (by omega) (by omega), w64 (x := u * 131 + v * 1117 + p * 29) (by omega) (by omega), w64 (x := u * 131 + v * 1117 + p * 29 + q * 53) (by omega) (by omega)]
        have hx : 0 ≤ u * 131 + v * 1117 + p * 29 + q * 53 ∧ u * 131 + v * 1117 + p * 29 + q * 53 < 4611686018427387904 := by omega
        generalize u * 131 + v * 1117 + p * 29 + q * 53 = x at hx ⊢
        rw [tdiv_nn hx.1, w64 (x := x / 64) (by omega) (by omega)]
        have hz := xor_nn hx.1 hx.2 (b := x / 64) (by omega) (by omega)
        rw [tmod_nn hz]
        exact Tot.now ⟨rfl, Int.emod_nonneg _ (by omega), .inl (Int.emod_lt_of_pos _ (by omega))⟩
  unfold spec_reader_pick.f
  rw [e1]
  refine Tot.ite (fun _ => main true (fun h => by cases h)) (fun h => main _ (fun h2 => ⟨by omega, fun h3 => ?_⟩))
  rw [h3] at h2
  simp at h2
theorem one_tot {b : List Int} (hb : ∀ x ∈ b, 0 ≤ x ∧ x < 256) {p : Int} (hp : 0 ≤ p) (hp2 : p ≤ 1000000000) {l : List Int} (hl : 0 < l.length) (hl2 : l.length ≤ 1000) :
    Tot (fun k => spec_reader_one.f k b p l) (fun r => r.2 = p + 1 ∧ r.1 ∈ l) := by
  unfold spec_reader_one.f
  refine Tot.bind (pick_tot hb hp hp2 (by omega)) ?_
  rintro ⟨v, q⟩ ⟨h1, h2, h3⟩
  simp only at h1 h2 h3 ⊢
  have h4 : v < (l.length : Int) := by omega
  exact Tot.pos h2 (Tot.pos h4 (Tot.now ⟨h1, rd_mem h2 h4⟩))
theorem newReader_tot {l : List Int} (h : ∀ x ∈ l, (Lit.int .u8 x).wf = true) : ∃ b, spec_newReader.f l = some (b, 0) ∧ b.length ≤ 2000 ∧ ∀ x ∈ b, 0 ≤ x ∧ x < 256 := by
  unfold spec_newReader.f
  by_cases h1 : (l.length : Int) > 2000
  · rw [if_pos h1, if_pos (by omega)]
    exact ⟨_, rfl, by simp; omega, fun x hx => wf_u8 (h x (List.mem_of_mem_take hx))⟩
  · rw [if_neg h1]
    exact ⟨_, rfl, by omega, fun x hx => wf_u8 (h x hx)⟩
theorem turns_l0 {b : List Int} (hb : ∀ x ∈ b, 0 ≤ x ∧ x < 256) : ∀ (d n i : Nat) (out : List Int) (p : Int), n = i + d → out.length = i → 0 ≤ p → p + d ≤ 100000000 → n ≤ 1000 →
    Tot (fun k => spec_turns.l0 k n out i b p) (fun r => r.1.length = n ∧ r.2 = p + d) := by
  intro d
  induction d with
  | zero =>
    intro n i out p hn ho hp hp2 hn2
    refine Tot.step (fun _ => spec_turns.l0.eq_2 ..) ?_
    exact Tot.neg (by omega) (Tot.now ⟨by simp only; omega, by simp⟩)
  | succ d ih =>
    intro n i out p hn ho hp hp2 hn2
    refine Tot.step (fun _ => spec_turns.l0.eq_2 ..) ?_
    refine Tot.pos (by omega) ?_
    rw [w64s (i := i) (by omega), w64 (x := (out.length : Int) + 1) (by omega) (by omega)]
    refine Tot.bind (pick_tot hb hp (by omega) (by omega)) ?_
    rintro ⟨v, q⟩ ⟨h1, h2, h3⟩
    simp only at h1 h2 h3 ⊢
    refine Tot.pos h2 (Tot.pos (by omega) ?_)
    have hv : v.toNat ≤ out.length := by omega
    rw [copyInts_eq (by simp; omega)]
    simp only [Option.bind_some]
    have e1 : (List.take v.toNat out).length = v.toNat := by simp; omega
    have e2 : (List.take v.toNat out ++ [(i : Int)]).length = v.toNat + 1 := by simp; omega
    have e3 : (List.drop v.toNat out).length = out.length - v.toNat := by simp
    refine Tot.pos (by omega) (Tot.pos (by omega) ?_)
    subst h1
    refine (ih n (i + 1) _ (p + 1) (by omega) (by rw [List.length_append, e2, e3]; omega) (by omega) (by omega) hn2).mono ?_
    rintro r ⟨h4, h5⟩
    exact ⟨h4, by omega⟩
theorem turns_tot {b : List Int} (hb : ∀ x ∈ b, 0 ≤ x ∧ x < 256) {p n : Int} (hp : 0 ≤ p) (hp2 : p ≤ 10000000) (hn : 0 ≤ n) (hn2 : n ≤ 1000) :
    Tot (fun k => spec_turns.f k b p n) (fun r => (r.1.length : Int) = n ∧ r.2 = p + n) := by
  obtain ⟨m, rfl⟩ := Int.eq_ofNat_of_zero_le hn
  unfold spec_turns.f
  refine (turns_l0 hb m m 0 [] p (by omega) rfl hp (by omega) (by omega)).mono ?_
  rintro r ⟨h1, h2⟩
  exact ⟨by omega, h2⟩
theorem anyOrder_tot {b : List Int} (hb : ∀ x ∈ b, 0 ≤ x ∧ x < 256) {p : Int} (hp : 0 ≤ p) (hp2 : p ≤ 1000000) :
    Tot (fun k => spec_anyOrder.f k b p) (fun r => r.1.length ≤ 12 ∧ p ≤ r.2 ∧ r.2 ≤ p + 20) := by
  unfold spec_anyOrder.f
  refine Tot.bind (one_tot hb hp (by omega) (by simp) (by simp)) ?_
  rintro ⟨n, q⟩ ⟨h1, h2⟩
  simp only [List.mem_cons, List.not_mem_nil, or_false] at h1 h2 ⊢
  refine Tot.bind (turns_tot hb (by omega) (by omega) (by omega) (by omega)) ?_
  rintro ⟨o, q2⟩ ⟨h3, h4⟩
  simp only at h3 h4 ⊢
  refine Tot.bind (pick_tot hb (by omega) (by omega) (by omega)) ?_
  rintro ⟨c, q3⟩ ⟨h5, h6, h7⟩
  simp only at h5 h6 h7 ⊢
  rw [w64 (x := (o.length : Int) - 1) (by omega) (by omega)]
  refine Tot.ite (fun hc => ?_) (fun hc => Tot.ite (fun hc2 => Tot.now ⟨by simp, by simp only; omega, by simp only; omega⟩) (fun hc2 => Tot.now ⟨by simp only; omega, by simp only; omega, by simp only; omega⟩))
  refine Tot.pos (by omega) (Tot.pos (by omega) ?_)
  refine Tot.bind (one_tot hb (by omega) (by omega) (by simp) (by simp)) ?_
  rintro ⟨x, q4⟩ ⟨h8, h9⟩
  simp only at h8 h9 ⊢
  refine Tot.pos (by omega) (Tot.now ⟨by simp; omega, by simp only; omega, by simp only; omega⟩)
theorem equalInts_l0 {a b : List Int} (hl : a.length = b.length) (ha : a.length ≤ 1000000000000) : ∀ (r s : List Int) (i : Nat), a.drop i = r → b.drop i = s →
    Tot (fun k => laws_equalInts.l0 k a b i) (fun t => t = decide (r = s)) := by
  intro r
  induction r with
  | nil =>
    intro s i h h2
    have h3 := drop_nil h
    have h4 : s = [] := by rw [← h2]; exact List.drop_eq_nil_of_le (by omega)
    exact Tot.step (fun _ => laws_equalInts.l0.eq_2 ..) (Tot.neg (by omega) (Tot.now (by simp [h4])))
  | cons x r ih =>
    intro s i h h2
    obtain ⟨h3, h4, h5⟩ := drop_cons h
    cases s with
    | nil => have := drop_nil h2; omega
    | cons y s =>
      obtain ⟨g3, g4, g5⟩ := drop_cons h2
      refine Tot.step (fun _ => laws_equalInts.l0.eq_2 ..) ?_
      rw [rd_at h5, rd_at g5, w64s (by omega)]
      refine Tot.pos (by omega) (Tot.pos (by omega) (Tot.pos (by omega) (Tot.ite (fun e => ?_) (fun e => Tot.now (by simp [e])))))
      refine (ih s (i + 1) h4 g4).mono ?_
      rintro t rfl
      simp [e]
theorem equalInts_tot {a b : List Int} (ha : a.length ≤ 1000000000000) : Tot (fun k => laws_equalInts.f k a b) (fun t => t = decide (a = b)) := by
  unfold laws_equalInts.f
  refine Tot.ite (fun h => ?_) (fun h => Tot.now ?_)
  · exact equalInts_l0 (by omega) ha a b 0 rfl rfl
  · symm
    rw [decide_eq_false_iff_not]
    rintro rfl
    exact h rfl
theorem drawSwap_tot {l : List Int} (hw : ∀ x ∈ l, (Lit.int .u8 x).wf = true) : Tot (fun k => spec_DrawSwapTurns.f k l) (fun r => r.1.length ≤ 12) := by
  unfold spec_DrawSwapTurns.f
  obtain ⟨b, hb, hb2, hb3⟩ := newReader_tot hw
  rw [hb]
  refine Tot.known (Tot.bind (anyOrder_tot hb3 (Int.le_refl _) (by omega)) ?_)
  rintro ⟨o, q⟩ ⟨h1, h2, h3⟩
  dsimp only at h1 h2 h3 ⊢
  refine Tot.bind (one_tot hb3 (by omega) (by omega) (by simp) (by simp)) ?_
  rintro ⟨a, q2⟩ ⟨h4, _⟩
  dsimp only at h4 ⊢
  refine Tot.bind (one_tot hb3 (by omega) (by omega) (by simp) (by simp)) ?_
  rintro ⟨b2, q3⟩ _
  exact Tot.now h1
theorem nodup_inj {l : List Int} (h : l.Nodup) {i j : Nat} (hi : i < l.length) (hj : j < l.length) (e : l[i] = l[j]) : i = j := by
  rcases Nat.lt_trichotomy i j with h4 | h4 | h4
  · exact absurd e (List.pairwise_iff_getElem.1 h i j hi hj h4)
  · exact h4
  · exact absurd e.symm (List.pairwise_iff_getElem.1 h j i hj hi h4)
theorem nodup_of_inj {l : List Int} (h : ∀ i j (hi : i < l.length) (hj : j < l.length), l[i] = l[j] → i = j) : l.Nodup := by
  refine List.pairwise_iff_getElem.2 fun i j hi hj hij e => ?_
  have := h i j hi hj e
  omega
theorem sw_get {l : List Int} {a b : Int} {p q : Nat} (j : Nat) (hj : j < ((l.set p b).set q a).length) : ((l.set p b).set q a)[j] = if q = j then a else if p = j then b else l[j]'(by simpa using hj) := by
  rw [List.getElem_set, List.getElem_set]
theorem FnSwapTurns : laws_FnSwapTurns.Pure := by
  intro l hl hl2 hw
  refine Tot.ends (g := fun k => laws_FnSwapTurns.f k l) ?_
  unfold laws_FnSwapTurns.f
  refine Tot.ite (fun _ => Tot.now rfl) (fun _ => ?_)
  refine Tot.bind (drawSwap_tot hw) ?_
  rintro ⟨o, a, b⟩ hol
  dsimp only at hol ⊢
  have hsl := sw_len o a b
  refine Tot.bindv (implSwap_tot (by omega)) (Tot.bindv (specSwap_tot (by omega)) (Tot.bindv (equalInts_tot (by omega)) (Tot.pos (by simp) ?_)))
  by_cases h : VO o ∧ a ∈ o ∧ b ∈ o
  · obtain ⟨p, p1, p2, p3⟩ := posFrom_some (i := 0) h.2.1
    obtain ⟨q, q1, q2, q3⟩ := posFrom_some (i := 0) h.2.2
    have e : sw o a b = (o.set p b).set q a := by
      unfold sw
      rw [if_pos h, p3, q3, show (0 + (p : Int)).toNat = p by omega, show (0 + (q : Int)).toNat = q by omega]
    have ep : o[p] = a := by rw [List.getElem?_eq_getElem p1] at p2; injection p2
    have eq : o[q] = b := by rw [List.getElem?_eq_getElem q1] at q2; injection q2
    have hn := h.1.2.2.2
    rw [e]
    have hlen : ((o.set p b).set q a).length = o.length := by simp
    have hm : ∀ x ∈ (o.set p b).set q a, x ∈ o := by
      intro x hx
      rcases List.mem_or_eq_of_mem_set hx with hx | hx
      · rcases List.mem_or_eq_of_mem_set hx with hx | hx
        · exact hx
        · rw [hx]; exact h.2.2
      · rw [hx]; exact h.2.1
    have hin : ∀ i j (hi : i < o.length) (hj : j < o.length), o[i] = o[j] → i = j := fun i j hi hj => nodup_inj hn hi hj
    have hnd : ((o.set p b).set q a).Nodup := by
      refine nodup_of_inj fun i j hi hj he => ?_
      rw [sw_get, sw_get] at he
      have hi' : i < o.length := by omega
      have hj' : j < o.length := by omega
      have e1 := hin i j hi' hj'
      have e2 := hin p j p1 hj'
      have e3 := hin q j q1 hj'
      have e4 := hin i p hi' p1
      have e5 := hin i q hi' q1
      have e6 := hin p q p1 q1
      rw [ep, eq] at e6
      rw [ep] at e2 e4
      rw [eq] at e3 e5
      by_cases c1 : q = i
      · rw [if_pos c1] at he
        by_cases c2 : q = j
        · omega
        · rw [if_neg c2] at he
          by_cases c3 : p = j
          · rw [if_pos c3] at he
            have := e6 he; omega
          · rw [if_neg c3] at he
            have := e2 he; omega
      · rw [if_neg c1] at he
        by_cases c2 : p = i
        · rw [if_pos c2] at he
          by_cases c3 : q = j
          · rw [if_pos c3] at he
            have := e6 he.symm; omega
          · rw [if_neg c3] at he
            by_cases c4 : p = j
            · omega
            · rw [if_neg c4] at he
              have := e3 he; omega
        · rw [if_neg c2] at he
          by_cases c3 : q = j
          · rw [if_pos c3] at he
            have := e4 he; omega
          · rw [if_neg c3] at he
            by_cases c4 : p = j
            · rw [if_pos c4] at he
              have := e5 he; omega
            · rw [if_neg c4] at he
              exact e1 he
    have hvo : VO ((o.set p b).set q a) := by
      refine ⟨by rw [hlen]; exact h.1.1, by rw [hlen]; exact h.1.2.1, fun x hx => ?_, hnd⟩
      rw [hlen]
      exact h.1.2.2.1 x (hm x hx)
    have gq : ((o.set p b).set q a)[q]? = some a := by
      rw [List.getElem?_eq_getElem (by omega), sw_get, if_pos rfl]
    have gp : ((o.set p b).set q a)[p]? = some b := by
      rw [List.getElem?_eq_getElem (by omega), sw_get]
      by_cases c : q = p
      · rw [if_pos c]
        congr 1
        rw [← ep, ← eq]
        congr 1
        exact c.symm
      · rw [if_neg c, if_pos rfl]
    have posa : posFrom ((o.set p b).set q a) a 0 = 0 + (q : Int) := posFrom_nodup hnd gq
    have posb : posFrom ((o.set p b).set q a) b 0 = 0 + (p : Int) := posFrom_nodup hnd gp
    have back : sw ((o.set p b).set q a) a b = o := by
      unfold sw
      rw [if_pos ⟨hvo, List.mem_of_getElem? gq, List.mem_of_getElem? gp⟩, posa, posb, show (0 + (p : Int)).toNat = p by omega, show (0 + (q : Int)).toNat = q by omega]
      refine List.ext_getElem (by simp) fun j hj hj2 => ?_
      rw [List.getElem_set, List.getElem_set, sw_get]
      by_cases c1 : p = j
      · rw [if_pos c1]; subst c1; exact ep.symm
      · rw [if_neg c1]
        by_cases c2 : q = j
        · rw [if_pos c2]; subst c2; exact eq.symm
        · rw [if_neg c2, if_neg c2, if_neg c1]
    have hne : ((((o.set p b).set q a).length : Int) == 0) = false := by
      have : ¬ ((((o.set p b).set q a).length : Int) = 0) := by omega
      simpa using this
    rw [hne]
    refine Tot.step (fun _ => laws_FnSwapTurns.j0.eq_2 ..) (Tot.neg (by decide) ?_)
    have loop : ∀ (d i : Nat), i + d = o.length → Tot (fun k => laws_FnSwapTurns.l0 k o a b ((o.set p b).set q a) i) (fun t => t = true) := by
      intro d
      induction d with
      | zero =>
        intro i hi
        refine Tot.step (fun _ => laws_FnSwapTurns.l0.eq_2 ..) (Tot.neg (by omega) ?_)
        refine Tot.bindv (implSwap_tot (by omega)) ?_
        rw [back]
        refine Tot.bindv (equalInts_tot (by omega)) (Tot.pos (by simp) ?_)
        refine Tot.bindv (turnOf_tot (by omega)) (Tot.bindv (turnOf_tot (by omega)) (Tot.now ?_))
        rw [if_pos hvo, if_pos h.1, posa, q3]
        simp
      | succ d ih =>
        intro i hi
        refine Tot.step (fun _ => laws_FnSwapTurns.l0.eq_2 ..) (Tot.pos (by omega) (Tot.pos (by omega) ?_))
        have hil : i < o.length := by omega
        rw [rd_get hil, w64s (by omega)]
        refine Tot.ite (fun _ => ih (i + 1) (by omega)) (fun c1 => Tot.ite (fun _ => ih (i + 1) (by omega)) (fun c2 => ?_))
        refine Tot.bindv (turnOf_tot (by omega)) ?_
        rw [if_pos hvo]
        have gi : ((o.set p b).set q a)[i]? = some o[i] := by
          rw [List.getElem?_eq_getElem (by omega), sw_get, if_neg (fun c => c2 (by subst c; exact eq)), if_neg (fun c => c1 (by subst c; exact ep))]
        rw [posFrom_nodup hnd gi]
        exact Tot.pos (by omega) (ih (i + 1) (by omega))
    exact loop o.length 0 (by omega)
  · have e : sw o a b = [] := by unfold sw; rw [if_neg h]
    rw [e]
    refine Tot.step (fun _ => laws_FnSwapTurns.j0.eq_2 ..) (Tot.pos rfl ?_)
    refine Tot.bindv (specSwap_tot (by omega)) ?_
    rw [e]
    exact Tot.bindv (equalInts_tot (by simp)) (Tot.now (by simp))
end Go.Proofs.Ytlghjnmfccifeaa.Pure
