/- FnExactSwapTurns: for all arguments SwapTurns of the program and of the reference agree, and memory is kept apart. No condition beyond the statement's own. -/
import Derived.Test.YtlghjnmfccifeaaQFnExactSwapTurnsx3
import Derived.Test.YtlghjnmfccifeaaCore
namespace Go.Proofs.Ytlghjnmfccifeaa.Pure
open Go.RowKit Go.Proofs.Ytlghjnmfccifeaa.PFnExactSwapTurns Go.Proofs.YtlghjnmfccifeaaW.PrintWords
set_option linter.unusedSimpArgs false
set_option linter.unusedVariables false

theorem getD_set_true {s : List Bool} {a b : Nat} (ha : a < s.length) : (s.set a true).getD b false = false ↔ b ≠ a ∧ s.getD b false = false := by
  simp only [List.getD_eq_getElem?_getD, List.getElem?_set]
  by_cases h : a = b
  · subst h; simp [ha]
  · rw [if_neg h]
    constructor
    · intro h2; exact ⟨fun e => h e.symm, h2⟩
    · intro h2; exact h2.2
theorem differentBelow_l0 {xs : List Int} {n : Int} (hl : xs.length ≤ 1000000000000) : ∀ (r : List Int) (i : Nat) (s : List Bool), xs.drop i = r → (s.length : Int) = n →
    Tot (fun k => impl_differentBelow.l0 k n s xs xs.length i) (fun t => t = decide ((∀ x ∈ r, (0 ≤ x ∧ x < n) ∧ s.getD x.toNat false = false) ∧ r.Nodup)) := by
  intro r
  induction r with
  | nil =>
    intro i s h hs
    have := drop_nil h
    exact Tot.step (fun _ => impl_differentBelow.l0.eq_2 ..) (Tot.neg (by omega) (Tot.now (by simp)))
  | cons x r ih =>
    intro i s h hs
    obtain ⟨h1, h2, h3⟩ := drop_cons h
    refine Tot.step (fun _ => impl_differentBelow.l0.eq_2 ..) ?_
    rw [rd_at h3, w64s (by omega)]
    refine Tot.pos (by omega) (Tot.pos (by omega) (Tot.pos (by omega) (Tot.ite (fun h4 => Tot.now ?_) (fun h4 => Tot.ite (fun h5 => Tot.now ?_) (fun h5 => Tot.pos (by omega) (Tot.pos (by omega) (Tot.ite (fun h6 => Tot.now ?_) (fun h6 => ?_))))))))
    · symm
      rw [decide_eq_false_iff_not]
      intro h7
      have := (h7.1 x (by simp)).1
      omega
    · symm
      rw [decide_eq_false_iff_not]
      intro h7
      have := (h7.1 x (by simp)).1
      omega
    · symm
      rw [decide_eq_false_iff_not]
      intro h7
      have h8 := (h7.1 x (by simp)).2
      rw [rdOf, h8] at h6
      cases h6
    · have h6' : s.getD x.toNat false = false := by
        rw [rdOf] at h6
        simpa using h6
      have hx : x.toNat < s.length := by omega
      refine (ih (i + 1) (s.set x.toNat true) h2 (by simp; omega)).mono ?_
      rintro t rfl
      rw [decide_eq_decide]
      constructor
      · rintro ⟨h9, h10⟩
        refine ⟨fun y hy => ?_, List.nodup_cons.2 ⟨fun hx2 => ?_, h10⟩⟩
        · rcases List.mem_cons.1 hy with rfl | hy
          · exact ⟨⟨by omega, by omega⟩, h6'⟩
          · exact ⟨(h9 y hy).1, ((getD_set_true hx).1 (h9 y hy).2).2⟩
        · exact ((getD_set_true hx).1 (h9 x hx2).2).1 rfl
      · rintro ⟨h9, h10⟩
        obtain ⟨h11, h12⟩ := List.nodup_cons.1 h10
        refine ⟨fun y hy => ⟨(h9 y (List.mem_cons_of_mem _ hy)).1, (getD_set_true hx).2 ⟨fun h13 => ?_, (h9 y (List.mem_cons_of_mem _ hy)).2⟩⟩, h12⟩
        have h14 := (h9 y (List.mem_cons_of_mem _ hy)).1
        have h15 : y = x := by omega
        exact h11 (h15 ▸ hy)
theorem differentBelow_tot {xs : List Int} {n : Int} (hl : xs.length ≤ 1000000000000) (hn : 0 ≤ n) (hn2 : n ≤ 1000000000000) : Tot (fun k => impl_differentBelow.f k xs n) (fun t => t = decide (DB xs n)) := by
  unfold impl_differentBelow.f
  refine Tot.ite (fun h => Tot.now ?_) (fun h => Tot.pos hn (Tot.pos (by omega) ?_))
  · symm
    rw [decide_eq_false_iff_not]
    intro h2
    have := h2.le hn
    omega
  · refine (differentBelow_l0 hl xs 0 _ rfl (by simp; omega)).mono ?_
    rintro t rfl
    rw [decide_eq_decide]
    have : ∀ j, (List.replicate n.toNat false).getD j false = false := by
      intro j
      simp only [List.getD_eq_getElem?_getD, List.getElem?_replicate]
      split <;> rfl
    simp only [this, and_true]
    exact Iff.rfl
theorem implValidOrder_tot {xs : List Int} (hl : xs.length ≤ 1000000000000) : Tot (fun k => impl_ValidOrder.f k xs) (fun t => t = decide (VO xs)) := by
  unfold impl_ValidOrder.f
  refine Tot.ite (fun h => Tot.ite (fun h2 => ?_) (fun h2 => Tot.now ?_)) (fun h => Tot.now ?_)
  · refine Tot.bind (differentBelow_tot hl (by omega) (by omega)) ?_
    rintro t rfl
    refine Tot.now ?_
    rw [decide_eq_decide]
    exact ⟨fun h9 => ⟨by omega, by omega, h9⟩, fun h9 => h9.2.2⟩
  · symm
    rw [decide_eq_false_iff_not]
    intro h3
    exact h2 h3.2.1
  · symm
    rw [decide_eq_false_iff_not]
    intro h3
    exact h h3.1
theorem index_l0 {xs : List Int} {v : Int} (hl : xs.length ≤ 1000000000000) : ∀ (r : List Int) (i : Nat), xs.drop i = r →
    Tot (fun k => slices_Index_int_int.l0 k xs v xs.length i) (fun t => t = posFrom r v i) := by
  intro r
  induction r with
  | nil =>
    intro i h
    have := drop_nil h
    exact Tot.step (fun _ => slices_Index_int_int.l0.eq_2 ..) (Tot.neg (by omega) (Tot.now rfl))
  | cons x r ih =>
    intro i h
    obtain ⟨h1, h2, h3⟩ := drop_cons h
    refine Tot.step (fun _ => slices_Index_int_int.l0.eq_2 ..) ?_
    rw [rd_at h3, w64s (by omega), posFrom]
    refine Tot.pos (by omega) (Tot.pos (by omega) (Tot.pos (by omega) (Tot.ite (fun h4 => ?_) (fun h4 => ?_))))
    · rw [if_pos h4.symm]; exact Tot.now rfl
    · rw [if_neg (fun e => h4 e.symm)]; exact ih (i + 1) h2
theorem index_tot {xs : List Int} {v : Int} (hl : xs.length ≤ 1000000000000) : Tot (fun k => slices_Index_int_int.f k xs v) (fun t => t = posFrom xs v 0) := by
  unfold slices_Index_int_int.f
  exact index_l0 hl xs 0 rfl
theorem turnOf_tot {xs : List Int} {v : Int} (hl : xs.length ≤ 1000000000000) : Tot (fun k => impl_TurnOf.f k xs v) (fun t => t = if VO xs then posFrom xs v 0 else -1) := by
  unfold impl_TurnOf.f
  refine Tot.bind (implValidOrder_tot hl) ?_
  rintro t rfl
  simp only [decide_eq_true_eq]
  refine Tot.ite (fun h => ?_) (fun h => ?_)
  · rw [if_pos h]
    refine Tot.bind (index_tot hl) ?_
    rintro t rfl
    exact Tot.now rfl
  · rw [if_neg h]; exact Tot.now rfl
theorem inRange_eq (a b c : Int) : spec_inRange.f a b c = some (decide (b ≤ a ∧ a ≤ c)) := by
  unfold spec_inRange.f
  by_cases h : b ≤ a
  · rw [if_pos h]; simp [h]
  · rw [if_neg h]; simp [h]
theorem placeIn_l0 {xs : List Int} {v : Int} (hl : xs.length ≤ 1000000000000) : ∀ (r : List Int) (i : Nat), xs.drop i = r →
    Tot (fun k => spec_placeIn.l0 k xs v i) (fun t => t = posFrom r v i) := by
  intro r
  induction r with
  | nil =>
    intro i h
    have := drop_nil h
    exact Tot.step (fun _ => spec_placeIn.l0.eq_2 ..) (Tot.neg (by omega) (Tot.now rfl))
  | cons x r ih =>
    intro i h
    obtain ⟨h1, h2, h3⟩ := drop_cons h
    refine Tot.step (fun _ => spec_placeIn.l0.eq_2 ..) ?_
    rw [rd_at h3, w64s (by omega), posFrom]
    refine Tot.pos (by omega) (Tot.pos (by omega) (Tot.ite (fun h4 => ?_) (fun h4 => ?_)))
    · rw [if_pos h4]; exact Tot.now rfl
    · rw [if_neg h4]; exact ih (i + 1) h2
theorem placeIn_tot {xs : List Int} {v : Int} (hl : xs.length ≤ 1000000000000) : Tot (fun k => spec_placeIn.f k xs v) (fun t => t = posFrom xs v 0) := by
  unfold spec_placeIn.f
  exact placeIn_l0 hl xs 0 rfl
theorem validMembers_l0 {xs : List Int} {n : Int} (hl : xs.length ≤ 1000000000000) (hn : 0 ≤ n) (hn2 : n ≤ 1000000000000) : ∀ (r : List Int) (i : Nat), xs.drop i = r →
    Tot (fun k => spec_validMembers.l0 k xs n i) (fun t => t = decide ((∀ x ∈ r, (0 ≤ x ∧ x < n) ∧ x ∉ xs.take i) ∧ r.Nodup)) := by
  intro r
  induction r with
  | nil =>
    intro i h
    have := drop_nil h
    exact Tot.step (fun _ => spec_validMembers.l0.eq_2 ..) (Tot.neg (by omega) (Tot.now (by simp)))
  | cons x r ih =>
    intro i h
    obtain ⟨h1, h2, h3⟩ := drop_cons h
    refine Tot.step (fun _ => spec_validMembers.l0.eq_2 ..) ?_
    rw [rd_at h3, w64s (by omega), w64 (x := n - 1) (by omega) (by omega), inRange_eq]
    simp only [Option.bind_some, decide_eq_true_eq]
    refine Tot.pos (by omega) (Tot.pos (by omega) (Tot.ite (fun h4 => Tot.pos (by omega) ?_) (fun h4 => Tot.now ?_)))
    · rw [Int.toNat_natCast]
      refine Tot.bind (placeIn_tot (by simp; omega)) ?_
      rintro t rfl
      refine Tot.ite (fun h5 => Tot.now ?_) (fun h5 => ?_)
      · have h6 := (posFrom_ge (l := xs.take i) (v := x) (Int.le_refl 0)).1 h5
        symm
        rw [decide_eq_false_iff_not]
        intro h7
        exact (h7.1 x (by simp)).2 h6
      · have h6 : x ∉ xs.take i := fun h7 => h5 ((posFrom_ge (l := xs.take i) (v := x) (Int.le_refl 0)).2 h7)
        refine (ih (i + 1) h2).mono ?_
        rintro t rfl
        have h8 : xs.take (i + 1) = xs.take i ++ [x] := by rw [List.take_add_one, h3]; rfl
        rw [h8, decide_eq_decide]
        constructor
        · rintro ⟨h9, h10⟩
          refine ⟨fun y hy => ?_, List.nodup_cons.2 ⟨fun hx => ?_, h10⟩⟩
          · rcases List.mem_cons.1 hy with rfl | hy
            · exact ⟨⟨h4.1, by omega⟩, h6⟩
            · exact ⟨(h9 y hy).1, fun h11 => (h9 y hy).2 (List.mem_append_left _ h11)⟩
          · exact (h9 x hx).2 (by simp)
        · rintro ⟨h9, h10⟩
          obtain ⟨h11, h12⟩ := List.nodup_cons.1 h10
          refine ⟨fun y hy => ⟨(h9 y (List.mem_cons_of_mem _ hy)).1, fun h13 => ?_⟩, h12⟩
          rcases List.mem_append.1 h13 with h13 | h13
          · exact (h9 y (List.mem_cons_of_mem _ hy)).2 h13
          · rw [List.mem_singleton] at h13
            exact h11 (h13 ▸ hy)
    · symm
      rw [decide_eq_false_iff_not]
      intro h7
      have := (h7.1 x (by simp)).1
      omega
theorem validMembers_tot {xs : List Int} {n : Int} (hl : xs.length ≤ 1000000000000) (hn : 0 ≤ n) (hn2 : n ≤ 1000000000000) : Tot (fun k => spec_validMembers.f k xs n) (fun t => t = decide (DB xs n)) := by
  unfold spec_validMembers.f
  refine (validMembers_l0 hl hn hn2 xs 0 rfl).mono ?_
  rintro t rfl
  rw [decide_eq_decide]
  simp [DB]
/-- An order: each number below the length once. -/
theorem specValidOrder_tot {xs : List Int} (hl : xs.length ≤ 1000000000000) : Tot (fun k => spec_validOrder.f k xs) (fun t => t = decide (VO xs)) := by
  unfold spec_validOrder.f
  rw [inRange_eq]
  simp only [Option.bind_some, decide_eq_true_eq]
  refine Tot.ite (fun h => ?_) (fun h => Tot.now ?_)
  · refine Tot.bind (validMembers_tot hl (by omega) (by omega)) ?_
    rintro t rfl
    refine Tot.now ?_
    rw [decide_eq_decide]
    exact ⟨fun h9 => ⟨by omega, by omega, h9⟩, fun h9 => h9.2.2⟩
  · symm
    rw [decide_eq_false_iff_not]
    intro h2
    exact h ⟨h2.1, h2.2.1⟩
theorem copyInts_eq {l : List Int} (h : l.length < 17592186044416) : spec_copyInts.f l = some l := by
  simp [spec_copyInts.f, h]
theorem Tot.bindv {α β : Type} {g : Nat → Option α} {F : Nat → α → Option β} {v : α} {Q : β → Prop} (h : Tot g (fun t => t = v)) (h2 : Tot (fun k => F k v) Q) : Tot (fun k => (g k).bind (F k)) Q :=
  Tot.bind h (fun a ha => by rw [ha]; exact h2)
/-- The order with two turns exchanged. -/
def sw (l : List Int) (a b : Int) : List Int := if VO l ∧ a ∈ l ∧ b ∈ l then (l.set (posFrom l a 0).toNat b).set (posFrom l b 0).toNat a else []
theorem sw_len (l : List Int) (a b : Int) : (sw l a b).length ≤ l.length := by
  unfold sw
  split
  · simp
  · simp
theorem clone_eq {l : List Int} (h : l.length < 17592186044416) : slices_Clone_int_int.f l = some l := by
  simp [slices_Clone_int_int.f, h]
theorem implSwap_tot {l : List Int} {a b : Int} (hl : l.length ≤ 1000000000) : Tot (fun k => impl_SwapTurns.f k l a b) (fun t => t = sw l a b) := by
  unfold impl_SwapTurns.f
  refine Tot.bindv (turnOf_tot (by omega)) (Tot.bindv (turnOf_tot (by omega)) ?_)
  have bad : ¬ (VO l ∧ a ∈ l ∧ b ∈ l) → Tot (fun _ => some ([] : List Int)) (fun t => t = sw l a b) := fun h => Tot.now (by unfold sw; rw [if_neg h])
  by_cases h : VO l
  · rw [if_pos h, if_pos h]
    refine Tot.ite (fun h1 => bad fun h2 => ?_) (fun h1 => Tot.ite (fun h2 => bad fun h3 => ?_) (fun h2 => ?_))
    · have := (posFrom_ge (l := l) (v := a) (i := 0) (Int.le_refl _)).2 h2.2.1
      omega
    · have := (posFrom_ge (l := l) (v := b) (i := 0) (Int.le_refl _)).2 h3.2.2
      omega
    · have ha : a ∈ l := (posFrom_ge (i := 0) (Int.le_refl _)).1 (by omega)
      have hb : b ∈ l := (posFrom_ge (i := 0) (Int.le_refl _)).1 (by omega)
      obtain ⟨p, p1, p2, p3⟩ := posFrom_some (i := 0) ha
      obtain ⟨q, q1, q2, q3⟩ := posFrom_some (i := 0) hb
      rw [clone_eq (by omega)]
      refine Tot.known (Tot.pos (by omega) (Tot.pos (by omega) (Tot.pos (by omega) (Tot.pos (by omega) (Tot.now ?_)))))
      unfold sw
      rw [if_pos ⟨h, ha, hb⟩]
  · rw [if_neg h]
    exact Tot.pos (by omega) (bad fun h2 => h h2.1)
theorem specSwap_tot {l : List Int} {a b : Int} (hl : l.length ≤ 1000000000) : Tot (fun k => spec_SwapTurns.f k l a b) (fun t => t = sw l a b) := by
  unfold spec_SwapTurns.f
  have bad : ¬ (VO l ∧ a ∈ l ∧ b ∈ l) → Tot (fun k => spec_SwapTurns.j0 k l a b true) (fun t => t = sw l a b) := fun h =>
    Tot.step (fun _ => spec_SwapTurns.j0.eq_2 ..) (Tot.pos rfl (Tot.now (by unfold sw; rw [if_neg h])))
  refine Tot.bindv (specValidOrder_tot (by omega)) (Tot.ite (fun h => ?_) (fun h => bad fun h2 => h (decide_eq_true h2.1)))
  have h := of_decide_eq_true h
  refine Tot.bindv (placeIn_tot (by omega)) (Tot.ite (fun h1 => bad fun h2 => ?_) (fun h1 => Tot.bindv (placeIn_tot (by omega)) ?_))
  · have := (posFrom_ge (l := l) (v := a) (i := 0) (Int.le_refl _)).2 h2.2.1
    omega
  · by_cases h2 : posFrom l b 0 < 0
    · rw [decide_eq_true h2]
      refine bad fun h3 => ?_
      have := (posFrom_ge (l := l) (v := b) (i := 0) (Int.le_refl _)).2 h3.2.2
      omega
    · rw [decide_eq_false h2]
      have ha : a ∈ l := (posFrom_ge (i := 0) (Int.le_refl _)).1 (by omega)
      have hb : b ∈ l := (posFrom_ge (i := 0) (Int.le_refl _)).1 (by omega)
      obtain ⟨p, p1, p2, p3⟩ := posFrom_some (i := 0) ha
      obtain ⟨q, q1, q2, q3⟩ := posFrom_some (i := 0) hb
      refine Tot.step (fun _ => spec_SwapTurns.j0.eq_2 ..) (Tot.neg (by decide) ?_)
      rw [copyInts_eq (by omega)]
      refine Tot.known (Tot.bindv (placeIn_tot (by omega)) (Tot.pos (by omega) (Tot.pos (by omega) (Tot.bindv (placeIn_tot (by omega)) (Tot.pos (by omega) (Tot.pos (by omega) (Tot.now ?_)))))))
      unfold sw
      rw [if_pos ⟨h, ha, hb⟩]
theorem toIntS_l0 {xs : List Int} (hl : xs.length ≤ 1000000000000) : ∀ (d i : Nat), i + d = xs.length →
    Tot (fun k => laws_toIntS.l0 k xs (xs.take i ++ List.replicate d 0) i) (fun t => t = xs) := by
  intro d
  induction d with
  | zero =>
    intro i hi
    exact Tot.step (fun _ => laws_toIntS.l0.eq_2 ..) (Tot.neg (by omega) (Tot.now (by rw [List.replicate_zero, List.append_nil]; exact List.take_of_length_le (by omega))))
  | succ d ih =>
    intro i hi
    refine Tot.step (fun _ => laws_toIntS.l0.eq_2 ..) ?_
    rw [rd_get (by omega), w64s (by omega), Int.toNat_natCast, set_fill (by omega)]
    exact Tot.pos (by omega) (Tot.pos (by omega) (Tot.pos (by rw [List.length_append, List.length_replicate, List.length_take]; omega) (ih (i + 1) (by omega))))
theorem toIntS_tot {xs : List Int} (hl : xs.length ≤ 1000000000000) : Tot (fun k => laws_toIntS.f k xs) (fun t => t = xs) := by
  unfold laws_toIntS.f
  refine Tot.pos (by omega) (Tot.pos (by omega) ?_)
  rw [Int.toNat_natCast]
  have := toIntS_l0 hl xs.length 0 (by omega)
  rw [List.take_zero, List.nil_append] at this
  exact this
theorem eqIntS_l0 {a b : List Int} (hl : a.length = b.length) (ha : a.length ≤ 1000000000000) : ∀ (r s : List Int) (i : Nat), a.drop i = r → b.drop i = s →
    Tot (fun k => laws_eqIntS.l0 k a b i) (fun t => t = decide (r = s)) := by
  intro r
  induction r with
  | nil =>
    intro s i h h2
    have h3 := drop_nil h
    have h4 : s = [] := by rw [← h2]; exact List.drop_eq_nil_of_le (by omega)
    exact Tot.step (fun _ => laws_eqIntS.l0.eq_2 ..) (Tot.neg (by omega) (Tot.now (by simp [h4])))
  | cons x r ih =>
    intro s i h h2
    obtain ⟨h3, h4, h5⟩ := drop_cons h
    cases s with
    | nil => have := drop_nil h2; omega
    | cons y s =>
      obtain ⟨g3, g4, g5⟩ := drop_cons h2
      refine Tot.step (fun _ => laws_eqIntS.l0.eq_2 ..) ?_
      rw [rd_at h5, rd_at g5, w64s (by omega)]
      refine Tot.pos (by omega) (Tot.pos (by omega) (Tot.pos (by omega) (Tot.ite (fun e => ?_) (fun e => Tot.now (by simp [e])))))
      refine (ih s (i + 1) h4 g4).mono ?_
      rintro t rfl
      simp [e]
theorem eqIntS_tot {a b : List Int} (ha : a.length ≤ 1000000000000) : Tot (fun k => laws_eqIntS.f k a b) (fun t => t = decide (a = b)) := by
  unfold laws_eqIntS.f
  refine Tot.ite (fun h => ?_) (fun h => Tot.now ?_)
  · exact eqIntS_l0 (by omega) ha a b 0 rfl rfl
  · symm
    rw [decide_eq_false_iff_not]
    rintro rfl
    exact h rfl
theorem markIntS_l0 : ∀ (d i : Nat) (xs : List Int) (m : Int), xs.length ≤ 1000000000000 → 0 ≤ m → m + d ≤ 1000000000000 → i + d = xs.length →
    Tot (fun k => laws_markIntS.l0 k xs m i) (fun t => t = (m + d, xs.take i ++ ramp m d)) := by
  intro d
  induction d with
  | zero =>
    intro i xs m hl hm hm2 hi
    refine Tot.step (fun _ => laws_markIntS.l0.eq_2 ..) (Tot.neg (by omega) (Tot.now ?_))
    rw [List.take_of_length_le (by omega)]
    simp [ramp]
  | succ d ih =>
    intro i xs m hl hm hm2 hi
    refine Tot.step (fun _ => laws_markIntS.l0.eq_2 ..) ?_
    rw [w64s (by omega), w64 (x := m + 1) (by omega) (by omega), Int.toNat_natCast]
    refine Tot.pos (by omega) (Tot.pos (by omega) ((ih (i + 1) _ (m + 1) (by simp; omega) (by omega) (by omega) (by simp; omega)).mono ?_))
    rintro t rfl
    rw [take_set_succ (by omega)]
    simp [ramp]
    omega
theorem markIntS_tot {xs : List Int} (hl : xs.length ≤ 100000000000) {m : Int} (hm : 0 ≤ m) (hm2 : m ≤ 100000000000) : Tot (fun k => laws_markIntS.f k xs m) (fun t => t = (m + xs.length, ramp m xs.length)) := by
  unfold laws_markIntS.f
  refine (markIntS_l0 xs.length 0 xs m (by omega) hm (by omega) (by omega)).mono ?_
  rintro t rfl
  simp
theorem heldIntS_l0 {xs : List Int} (hl : xs.length ≤ 1000000000000) : ∀ (d i : Nat) (m : Int), 0 ≤ m → m + d ≤ 1000000000000 → i + d = xs.length → xs.drop i = ramp m d →
    Tot (fun k => laws_heldIntS.l0 k xs m i) (fun t => t = m + d) := by
  intro d
  induction d with
  | zero =>
    intro i m hm hm2 hi h
    exact Tot.step (fun _ => laws_heldIntS.l0.eq_2 ..) (Tot.neg (by omega) (Tot.now (by simp)))
  | succ d ih =>
    intro i m hm hm2 hi h
    rw [ramp] at h
    obtain ⟨h3, h4, h5⟩ := drop_cons h
    refine Tot.step (fun _ => laws_heldIntS.l0.eq_2 ..) ?_
    rw [w64s (by omega), w64 (x := m + 1) (by omega) (by omega), rd_at h5]
    refine Tot.pos (by omega) (Tot.pos (by omega) (Tot.pos rfl ((ih (i + 1) (m + 1) (by omega) (by omega) (by omega) h4).mono ?_)))
    rintro t rfl
    omega
theorem heldIntS_tot {n : Nat} (hl : n ≤ 100000000000) {m : Int} (hm : 0 ≤ m) (hm2 : m ≤ 100000000000) : Tot (fun k => laws_heldIntS.f k (ramp m n) m) (fun t => t = m + n) := by
  unfold laws_heldIntS.f
  have h := ramp_length m n
  exact heldIntS_l0 (by omega) n 0 m hm (by omega) (by omega) rfl
theorem FnExactSwapTurns : laws_FnExactSwapTurns.Pure := by
  intro l a b hl hl2 hw _ _
  refine Tot.ends (g := fun k => laws_FnExactSwapTurns.f k l a b) ?_
  unfold laws_FnExactSwapTurns.f
  refine Tot.ite (fun _ => Tot.now rfl) (fun h0 => ?_)
  have hll := sw_len l a b
  refine Tot.bindv (toIntS_tot (by omega)) (Tot.bindv (specSwap_tot (by omega)) (Tot.bindv (toIntS_tot (by omega)) (Tot.bindv (implSwap_tot (by omega)) ?_)))
  refine Tot.bindv (eqIntS_tot (by omega)) (Tot.pos (by simp) ?_)
  refine Tot.bindv (toIntS_tot (by omega)) (Tot.bindv (eqIntS_tot (by omega)) (Tot.pos (by simp) ?_))
  refine Tot.bindv (markIntS_tot (by omega) (by omega) (by omega)) (Tot.neg (by dsimp only; omega) ?_)
  refine Tot.bindv (eqIntS_tot (by omega)) ?_
  refine Tot.step (fun _ => laws_FnExactSwapTurns.j0.eq_2 ..) (Tot.neg (by simp) ?_)
  refine Tot.bindv (markIntS_tot (by omega) (by omega) (by omega)) ?_
  dsimp only
  refine Tot.bindv (heldIntS_tot (by omega) (by omega) (by omega)) (Tot.neg (by omega) (Tot.pos rfl ?_))
  refine Tot.bindv (toIntS_tot (by omega)) (Tot.bindv (implSwap_tot (by omega)) (Tot.bindv (eqIntS_tot (by omega)) (Tot.pos (by simp) ?_)))
  refine Tot.bindv (heldIntS_tot (by omega) (by omega) (by omega)) ?_
  exact Tot.neg (by omega) (Tot.pos rfl (Tot.now rfl))
end Go.Proofs.Ytlghjnmfccifeaa.Pure
