/- FnNetAfter: for every code, the net payments are 0 together after each round, and 0 for all after no round and after all. No condition beyond the statement's own. -/
import Derived.Test.YtlcifhkbkmhcfaaQFnNetAfterx4
import Derived.Test.YtlcifhkbkmhcfaaCore
namespace Go.Proofs.Ytlcifhkbkmhcfaa.Pure
open Go.RowKit Go.Proofs.Ytlcifhkbkmhcfaa.PFnNetAfter Go.Proofs.YtlcifhkbkmhcfaaW.PrintWords
set_option linter.unusedSimpArgs false
set_option linter.unusedVariables false

/-! the reader -/
theorem pick_tot {b : List Int} (hb : ∀ x ∈ b, 0 ≤ x ∧ x < 256) {p n : Int} (hp : 0 ≤ p) (hp2 : p ≤ 1000000000) (hn : n ≤ 1000000000000) :
    Tot (fun k => spec_reader_pick.f k b p n) (fun r => r.2 = p + 1 ∧ 0 ≤ r.1 ∧ (r.1 < n ∨ r.1 = 0)) := by
  have e1 : wrap64 (p + 1) = p + 1 := w64 (by omega) (by omega)
  have e2 : wrap64 (p + 1 - 1) = p := by rw [w64 (by omega) (by omega)]; omega
  have main : ∀ t : Bool, (t = false → 1 ≤ n ∧ b.length ≠ 0) → Tot (fun k => spec_reader_pick.j0 k n t b (p + 1)) (fun r => r.2 = p + 1 ∧ 0 ≤ r.1 ∧ (r.1 < n ∨ r.1 = 0)) := by
    intro t ht
    refine Tot.step (fun _ => spec_reader_pick.j0.eq_2 ..) ?_
    simp only [e2]
    cases t with
    | true => exact Tot.pos rfl (Tot.now ⟨rfl, Int.le_refl _, .inr rfl⟩)
    | false =>
      obtain ⟨hn1, hne⟩ := ht rfl
      refine Tot.neg (by simp) ?_
      by_cases hlt : p < (b.length : Int)
      · refine Tot.pos hlt (Tot.pos hp (Tot.neg (by omega) ?_))
        have hr := hb _ (rd_mem hp hlt)
        rw [w64 (x := rd b p) (by omega) (by omega), tmod_nn hr.1]
        exact Tot.now ⟨rfl, Int.emod_nonneg _ (by omega), .inl (Int.emod_lt_of_pos _ (by omega))⟩
      · refine Tot.neg hlt (Tot.neg (by omega) ?_)
        have hlen : 0 < (b.length : Int) := by omega
        have i1 : 0 ≤ Int.tmod p b.length ∧ Int.tmod p b.length < b.length := by
          rw [tmod_nn hp]; exact ⟨Int.emod_nonneg _ (by omega), Int.emod_lt_of_pos _ hlen⟩
        have e3 : wrap64 (wrap64 (p * 7) + 3) = p * 7 + 3 := by
          rw [w64 (x := p * 7) (by omega) (by omega)]; exact w64 (by omega) (by omega)
        rw [e3]
        have i2 : 0 ≤ Int.tmod (p * 7 + 3) b.length ∧ Int.tmod (p * 7 + 3) b.length < b.length := by
          rw [tmod_nn (by omega)]; exact ⟨Int.emod_nonneg _ (by omega), Int.emod_lt_of_pos _ hlen⟩
        refine Tot.pos i1.1 (Tot.pos i1.2 (Tot.pos i2.1 (Tot.pos i2.2 (Tot.neg (by omega) ?_))))
        have hu := hb _ (rd_mem i1.1 i1.2)
        have hv := hb _ (rd_mem i2.1 i2.2)
        have hq : 0 ≤ Int.tdiv p b.length ∧ Int.tdiv p b.length ≤ p := by
          rw [tdiv_nn hp]
          exact ⟨Int.ediv_nonneg hp (by omega), Int.ediv_le_self _ hp⟩
        generalize rd b (Int.tmod p b.length) = u at hu ⊢
        generalize rd b (Int.tmod (p * 7 + 3) b.length) = v at hv ⊢
        generalize Int.tdiv p b.length = q at hq ⊢
        rw [w64 (x := u) (by omega) (by omega), w64 (x := v) (by omega) (by omega), w64 (x := q) (by omega) (by omega), w64 (x := u * 131) (by omega) (by omega), w64 (x := v * 1117) (by omega) (by omega), w64 (x := p * 29) (by omega) (by omega), w64 (x := q * 53) (by omega) (by omega),
          w64 (x := u * 131 + v * 1117) (by omega) (by omega), w64 (x := u * 131 + v * 1117 + p * 29) (by omega) (by omega), w64 (x := u * 131 + v * 1117 + p * 29 + q * 53) (by omega) (by omega)]
        have hx : 0 ≤ u * 131 + v * 1117 + p * 29 + q * 53 ∧ u * 131 + v * 1117 + p * 29 + q * 53 < 4611686018427387904 := by omega
        generalize u * 131 + v * 1117 + p * 29 + q * 53 = x at hx ⊢
        rw [tdiv_nn hx.1, w64 (x := x / 64) (by omega) (by omega)]
        have hz := xor_nn hx.1 hx.2 (b := x / 64) (by omega) (by omega)
        rw [tmod_nn hz]
        exact Tot.now ⟨rfl, Int.emod_nonneg _ (by omega), .inl (Int.emod_lt_of_pos _ (by omega))⟩
  unfold spec_reader_pick.f
  rw [e1]
  refine Tot.ite (fun _ => main true (fun h => by cases h)) (fun h => main _ (fun h2 => ⟨by omega, fun h3 => ?_⟩))
  rw [h3] at h2
  simp at h2
theorem one_tot {b : List Int} (hb : ∀ x ∈ b, 0 ≤ x ∧ x < 256) {p : Int} (hp : 0 ≤ p) (hp2 : p ≤ 1000000000) {l : List Int} (hl : 0 < l.length) (hl2 : l.length ≤ 1000) :
    Tot (fun k => spec_reader_one.f k b p l) (fun r => r.2 = p + 1 ∧ r.1 ∈ l) := by
  unfold spec_reader_one.f
  refine Tot.bind (pick_tot hb hp hp2 (by omega)) ?_
  rintro ⟨v, q⟩ ⟨h1, h2, h3⟩
  simp only at h1 h2 h3 ⊢
  have h4 : v < (l.length : Int) := by omega
  exact Tot.pos h2 (Tot.pos h4 (Tot.now ⟨h1, rd_mem h2 h4⟩))
theorem newReader_tot {l : List Int} (h : ∀ x ∈ l, (Lit.int .u8 x).wf = true) : ∃ b, spec_newReader.f l = some (b, 0) ∧ b.length ≤ 2000 ∧ ∀ x ∈ b, 0 ≤ x ∧ x < 256 := by
  unfold spec_newReader.f
  by_cases h1 : (l.length : Int) > 2000
  · rw [if_pos h1, if_pos (by omega)]
    exact ⟨_, rfl, by simp; omega, fun x hx => wf_u8 (h x (List.mem_of_mem_take hx))⟩
  · rw [if_neg h1]
    exact ⟨_, rfl, by omega, fun x hx => wf_u8 (h x hx)⟩
theorem copyInts_eq {l : List Int} (h : l.length < 17592186044416) : spec_copyInts.f l = some l := by
  simp [spec_copyInts.f, h]
theorem turns_l0 {b : List Int} (hb : ∀ x ∈ b, 0 ≤ x ∧ x < 256) : ∀ (d n i : Nat) (out : List Int) (p : Int), n = i + d → out.length = i → 0 ≤ p → p + d ≤ 100000000 → n ≤ 1000 →
    Tot (fun k => spec_turns.l0 k n out i b p) (fun r => r.1.length = n ∧ r.2 = p + d) := by
  intro d
  induction d with
  | zero =>
    intro n i out p hn ho hp hp2 hn2
    refine Tot.step (fun _ => spec_turns.l0.eq_2 ..) ?_
    exact Tot.neg (by omega) (Tot.now ⟨by simp only; omega, by simp⟩)
  | succ d ih =>
    intro n i out p hn ho hp hp2 hn2
    refine Tot.step (fun _ => spec_turns.l0.eq_2 ..) ?_
    refine Tot.pos (by omega) ?_
    rw [w64s (i := i) (by omega), w64 (x := (out.length : Int) + 1) (by omega) (by omega)]
    refine Tot.bind (pick_tot hb hp (by omega) (by omega)) ?_
    rintro ⟨v, q⟩ ⟨h1, h2, h3⟩
    simp only at h1 h2 h3 ⊢
    refine Tot.pos h2 (Tot.pos (by omega) ?_)
    have hv : v.toNat ≤ out.length := by omega
    rw [copyInts_eq (by simp; omega)]
    simp only [Option.bind_some]
    have e1 : (List.take v.toNat out).length = v.toNat := by simp; omega
    have e2 : (List.take v.toNat out ++ [(i : Int)]).length = v.toNat + 1 := by simp; omega
    have e3 : (List.drop v.toNat out).length = out.length - v.toNat := by simp
    refine Tot.pos (by omega) (Tot.pos (by omega) ?_)
    subst h1
    refine (ih n (i + 1) _ (p + 1) (by omega) (by rw [List.length_append, e2, e3]; omega) (by omega) (by omega) hn2).mono ?_
    rintro r ⟨h4, h5⟩
    exact ⟨h4, by omega⟩
theorem turns_tot {b : List Int} (hb : ∀ x ∈ b, 0 ≤ x ∧ x < 256) {p n : Int} (hp : 0 ≤ p) (hp2 : p ≤ 10000000) (hn : 0 ≤ n) (hn2 : n ≤ 1000) :
    Tot (fun k => spec_turns.f k b p n) (fun r => (r.1.length : Int) = n ∧ r.2 = p + n) := by
  obtain ⟨m, rfl⟩ := Int.eq_ofNat_of_zero_le hn
  unfold spec_turns.f
  refine (turns_l0 hb m m 0 [] p (by omega) rfl hp (by omega) (by omega)).mono ?_
  rintro r ⟨h1, h2⟩
  exact ⟨by omega, h2⟩
theorem anyOrder_tot {b : List Int} (hb : ∀ x ∈ b, 0 ≤ x ∧ x < 256) {p : Int} (hp : 0 ≤ p) (hp2 : p ≤ 1000000) :
    Tot (fun k => spec_anyOrder.f k b p) (fun r => r.1.length ≤ 12 ∧ p ≤ r.2 ∧ r.2 ≤ p + 20) := by
  unfold spec_anyOrder.f
  refine Tot.bind (one_tot hb hp (by omega) (by simp) (by simp)) ?_
  rintro ⟨n, q⟩ ⟨h1, h2⟩
  simp only [List.mem_cons, List.not_mem_nil, or_false] at h1 h2 ⊢
  refine Tot.bind (turns_tot hb (by omega) (by omega) (by omega) (by omega)) ?_
  rintro ⟨o, q2⟩ ⟨h3, h4⟩
  simp only at h3 h4 ⊢
  refine Tot.bind (pick_tot hb (by omega) (by omega) (by omega)) ?_
  rintro ⟨c, q3⟩ ⟨h5, h6, h7⟩
  simp only at h5 h6 h7 ⊢
  rw [w64 (x := (o.length : Int) - 1) (by omega) (by omega)]
  refine Tot.ite (fun hc => ?_) (fun hc => Tot.ite (fun hc2 => Tot.now ⟨by simp, by simp only; omega, by simp only; omega⟩) (fun hc2 => Tot.now ⟨by simp only; omega, by simp only; omega, by simp only; omega⟩))
  refine Tot.pos (by omega) (Tot.pos (by omega) ?_)
  refine Tot.bind (one_tot hb (by omega) (by omega) (by simp) (by simp)) ?_
  rintro ⟨x, q4⟩ ⟨h8, h9⟩
  simp only at h8 h9 ⊢
  refine Tot.pos (by omega) (Tot.now ⟨by simp; omega, by simp only; omega, by simp only; omega⟩)
def sumL : List Int → Int
  | [] => 0
  | x :: r => x + sumL r
theorem sumL_bound {l : List Int} (h : ∀ x ∈ l, 0 ≤ x ∧ x ≤ 1000000) : 0 ≤ sumL l ∧ sumL l ≤ 1000000 * l.length := by
  induction l with
  | nil => simp [sumL]
  | cons x r ih =>
    have h1 := ih (fun y hy => h y (List.mem_cons_of_mem _ hy))
    have h2 := h x (by simp)
    simp only [sumL, List.length_cons]
    omega
theorem getD_set_true {s : List Bool} {a b : Nat} (ha : a < s.length) : (s.set a true).getD b false = false ↔ b ≠ a ∧ s.getD b false = false := by
  simp only [List.getD_eq_getElem?_getD, List.getElem?_set]
  by_cases h : a = b
  · subst h; simp [ha]
  · rw [if_neg h]
    constructor
    · intro h2; exact ⟨fun e => h e.symm, h2⟩
    · intro h2; exact h2.2
theorem differentBelow_l0 {xs : List Int} {n : Int} (hl : xs.length ≤ 1000000000000) : ∀ (r : List Int) (i : Nat) (s : List Bool), xs.drop i = r → (s.length : Int) = n →
    Tot (fun k => impl_differentBelow.l0 k n s xs xs.length i) (fun t => t = decide ((∀ x ∈ r, (0 ≤ x ∧ x < n) ∧ s.getD x.toNat false = false) ∧ r.Nodup)) := by
  intro r
  induction r with
  | nil =>
    intro i s h hs
    have := drop_nil h
    exact Tot.step (fun _ => impl_differentBelow.l0.eq_2 ..) (Tot.neg (by omega) (Tot.now (by simp)))
  | cons x r ih =>
    intro i s h hs
    obtain ⟨h1, h2, h3⟩ := drop_cons h
    refine Tot.step (fun _ => impl_differentBelow.l0.eq_2 ..) ?_
    rw [rd_at h3, w64s (by omega)]
    refine Tot.pos (by omega) (Tot.pos (by omega) (Tot.pos (by omega) (Tot.ite (fun h4 => Tot.now ?_) (fun h4 => Tot.ite (fun h5 => Tot.now ?_) (fun h5 => Tot.pos (by omega) (Tot.pos (by omega) (Tot.ite (fun h6 => Tot.now ?_) (fun h6 => ?_))))))))
    · symm
      rw [decide_eq_false_iff_not]
      intro h7
      have := (h7.1 x (by simp)).1
      omega
    · symm
      rw [decide_eq_false_iff_not]
      intro h7
      have := (h7.1 x (by simp)).1
      omega
    · symm
      rw [decide_eq_false_iff_not]
      intro h7
      have h8 := (h7.1 x (by simp)).2
      rw [rdOf, h8] at h6
      cases h6
    · have h6' : s.getD x.toNat false = false := by
        rw [rdOf] at h6
        simpa using h6
      have hx : x.toNat < s.length := by omega
      refine (ih (i + 1) (s.set x.toNat true) h2 (by simp; omega)).mono ?_
      rintro t rfl
      rw [decide_eq_decide]
      constructor
      · rintro ⟨h9, h10⟩
        refine ⟨fun y hy => ?_, List.nodup_cons.2 ⟨fun hx2 => ?_, h10⟩⟩
        · rcases List.mem_cons.1 hy with rfl | hy
          · exact ⟨⟨by omega, by omega⟩, h6'⟩
          · exact ⟨(h9 y hy).1, ((getD_set_true hx).1 (h9 y hy).2).2⟩
        · exact ((getD_set_true hx).1 (h9 x hx2).2).1 rfl
      · rintro ⟨h9, h10⟩
        obtain ⟨h11, h12⟩ := List.nodup_cons.1 h10
        refine ⟨fun y hy => ⟨(h9 y (List.mem_cons_of_mem _ hy)).1, (getD_set_true hx).2 ⟨fun h13 => ?_, (h9 y (List.mem_cons_of_mem _ hy)).2⟩⟩, h12⟩
        have h14 := (h9 y (List.mem_cons_of_mem _ hy)).1
        have h15 : y = x := by omega
        exact h11 (h15 ▸ hy)
theorem differentBelow_tot {xs : List Int} {n : Int} (hl : xs.length ≤ 1000000000000) (hn : 0 ≤ n) (hn2 : n ≤ 1000000000000) : Tot (fun k => impl_differentBelow.f k xs n) (fun t => t = decide (DB xs n)) := by
  unfold impl_differentBelow.f
  refine Tot.ite (fun h => Tot.now ?_) (fun h => Tot.pos hn (Tot.pos (by omega) ?_))
  · symm
    rw [decide_eq_false_iff_not]
    intro h2
    have := h2.le hn
    omega
  · refine (differentBelow_l0 hl xs 0 _ rfl (by simp; omega)).mono ?_
    rintro t rfl
    rw [decide_eq_decide]
    have : ∀ j, (List.replicate n.toNat false).getD j false = false := by
      intro j
      simp only [List.getD_eq_getElem?_getD, List.getElem?_replicate]
      split <;> rfl
    simp only [this, and_true]
    exact Iff.rfl
theorem implValidOrder_tot {xs : List Int} (hl : xs.length ≤ 1000000000000) : Tot (fun k => impl_ValidOrder.f k xs) (fun t => t = decide (VO xs)) := by
  unfold impl_ValidOrder.f
  refine Tot.ite (fun h => Tot.ite (fun h2 => ?_) (fun h2 => Tot.now ?_)) (fun h => Tot.now ?_)
  · refine Tot.bind (differentBelow_tot hl (by omega) (by omega)) ?_
    rintro t rfl
    refine Tot.now ?_
    rw [decide_eq_decide]
    exact ⟨fun h9 => ⟨by omega, by omega, h9⟩, fun h9 => h9.2.2⟩
  · symm
    rw [decide_eq_false_iff_not]
    intro h3
    exact h2 h3.2.1
  · symm
    rw [decide_eq_false_iff_not]
    intro h3
    exact h h3.1
theorem inRange_eq (a b c : Int) : spec_inRange.f a b c = some (decide (b ≤ a ∧ a ≤ c)) := by
  unfold spec_inRange.f
  by_cases h : b ≤ a
  · rw [if_pos h]; simp [h]
  · rw [if_neg h]; simp [h]
theorem placeIn_l0 {xs : List Int} {v : Int} (hl : xs.length ≤ 1000000000000) : ∀ (r : List Int) (i : Nat), xs.drop i = r →
    Tot (fun k => spec_placeIn.l0 k xs v i) (fun t => t = posFrom r v i) := by
  intro r
  induction r with
  | nil =>
    intro i h
    have := drop_nil h
    exact Tot.step (fun _ => spec_placeIn.l0.eq_2 ..) (Tot.neg (by omega) (Tot.now rfl))
  | cons x r ih =>
    intro i h
    obtain ⟨h1, h2, h3⟩ := drop_cons h
    refine Tot.step (fun _ => spec_placeIn.l0.eq_2 ..) ?_
    rw [rd_at h3, w64s (by omega), posFrom]
    refine Tot.pos (by omega) (Tot.pos (by omega) (Tot.ite (fun h4 => ?_) (fun h4 => ?_)))
    · rw [if_pos h4]; exact Tot.now rfl
    · rw [if_neg h4]; exact ih (i + 1) h2
theorem placeIn_tot {xs : List Int} {v : Int} (hl : xs.length ≤ 1000000000000) : Tot (fun k => spec_placeIn.f k xs v) (fun t => t = posFrom xs v 0) := by
  unfold spec_placeIn.f
  exact placeIn_l0 hl xs 0 rfl
theorem validMembers_l0 {xs : List Int} {n : Int} (hl : xs.length ≤ 1000000000000) (hn : 0 ≤ n) (hn2 : n ≤ 1000000000000) : ∀ (r : List Int) (i : Nat), xs.drop i = r →
    Tot (fun k => spec_validMembers.l0 k xs n i) (fun t => t = decide ((∀ x ∈ r, (0 ≤ x ∧ x < n) ∧ x ∉ xs.take i) ∧ r.Nodup)) := by
  intro r
  induction r with
  | nil =>
    intro i h
    have := drop_nil h
    exact Tot.step (fun _ => spec_validMembers.l0.eq_2 ..) (Tot.neg (by omega) (Tot.now (by simp)))
  | cons x r ih =>
    intro i h
    obtain ⟨h1, h2, h3⟩ := drop_cons h
    refine Tot.step (fun _ => spec_validMembers.l0.eq_2 ..) ?_
    rw [rd_at h3, w64s (by omega), w64 (x := n - 1) (by omega) (by omega), inRange_eq]
    simp only [Option.bind_some, decide_eq_true_eq]
    refine Tot.pos (by omega) (Tot.pos (by omega) (Tot.ite (fun h4 => Tot.pos (by omega) ?_) (fun h4 => Tot.now ?_)))
    · rw [Int.toNat_natCast]
      refine Tot.bind (placeIn_tot (by simp; omega)) ?_
      rintro t rfl
      refine Tot.ite (fun h5 => Tot.now ?_) (fun h5 => ?_)
      · have h6 := (posFrom_ge (l := xs.take i) (v := x) (Int.le_refl 0)).1 h5
        symm
        rw [decide_eq_false_iff_not]
        intro h7
        exact (h7.1 x (by simp)).2 h6
      · have h6 : x ∉ xs.take i := fun h7 => h5 ((posFrom_ge (l := xs.take i) (v := x) (Int.le_refl 0)).2 h7)
        refine (ih (i + 1) h2).mono ?_
        rintro t rfl
        have h8 : xs.take (i + 1) = xs.take i ++ [x] := by rw [List.take_add_one, h3]; rfl
        rw [h8, decide_eq_decide]
        constructor
        · rintro ⟨h9, h10⟩
          refine ⟨fun y hy => ?_, List.nodup_cons.2 ⟨fun hx => ?_, h10⟩⟩
          · rcases List.mem_cons.1 hy with rfl | hy
            · exact ⟨⟨h4.1, by omega⟩, h6⟩
            · exact ⟨(h9 y hy).1, fun h11 => (h9 y hy).2 (List.mem_append_left _ h11)⟩
          · exact (h9 x hx).2 (by simp)
        · rintro ⟨h9, h10⟩
          obtain ⟨h11, h12⟩ := List.nodup_cons.1 h10
          refine ⟨fun y hy => ⟨(h9 y (List.mem_cons_of_mem _ hy)).1, fun h13 => ?_⟩, h12⟩
          rcases List.mem_append.1 h13 with h13 | h13
          · exact (h9 y (List.mem_cons_of_mem _ hy)).2 h13
          · rw [List.mem_singleton] at h13
            exact h11 (h13 ▸ hy)
    · symm
      rw [decide_eq_false_iff_not]
      intro h7
      have := (h7.1 x (by simp)).1
      omega
theorem validMembers_tot {xs : List Int} {n : Int} (hl : xs.length ≤ 1000000000000) (hn : 0 ≤ n) (hn2 : n ≤ 1000000000000) : Tot (fun k => spec_validMembers.f k xs n) (fun t => t = decide (DB xs n)) := by
  unfold spec_validMembers.f
  refine (validMembers_l0 hl hn hn2 xs 0 rfl).mono ?_
  rintro t rfl
  rw [decide_eq_decide]
  simp [DB]
/-- An order: each number below the length once. -/
theorem specValidOrder_tot {xs : List Int} (hl : xs.length ≤ 1000000000000) : Tot (fun k => spec_validOrder.f k xs) (fun t => t = decide (VO xs)) := by
  unfold spec_validOrder.f
  rw [inRange_eq]
  simp only [Option.bind_some, decide_eq_true_eq]
  refine Tot.ite (fun h => ?_) (fun h => Tot.now ?_)
  · refine Tot.bind (validMembers_tot hl (by omega) (by omega)) ?_
    rintro t rfl
    refine Tot.now ?_
    rw [decide_eq_decide]
    exact ⟨fun h9 => ⟨by omega, by omega, h9⟩, fun h9 => h9.2.2⟩
  · symm
    rw [decide_eq_false_iff_not]
    intro h2
    exact h ⟨h2.1, h2.2.1⟩
/-- What member v has after c rounds of pay a in the order l. -/
def nv (l : List Int) (a c v : Int) : Int := -(a * c) + (if v ∈ l.take c.toNat then a * l.length else 0)
def st (l : List Int) (a c : Int) (j : Nat) : List Int := (List.range l.length).map (fun v : Nat => if (v : Int) ∈ l.take j then nv l a c v else 0)
def net (l : List Int) (a c : Int) : List Int := (List.range l.length).map (fun v : Nat => nv l a c v)
def OKN (l : List Int) (a c : Int) : Prop := VO l ∧ (0 ≤ a ∧ a ≤ 10000) ∧ (0 ≤ c ∧ c ≤ l.length)
instance (l : List Int) (a c : Int) : Decidable (OKN l a c) := inferInstanceAs (Decidable (VO l ∧ (0 ≤ a ∧ a ≤ 10000) ∧ (0 ≤ c ∧ c ≤ l.length)))
theorem VO.all {l : List Int} (h : VO l) {v : Int} (h0 : 0 ≤ v) (h1 : v < l.length) : v ∈ l := by
  rcases Classical.em (v ∈ l) with h2 | h2
  · exact h2
  · have h3 := nodup_le l.length (v :: l) (List.nodup_cons.2 ⟨h2, h.2.2.2⟩) (fun x hx => by
      rcases List.mem_cons.1 hx with rfl | hx
      · exact ⟨h0, h1⟩
      · exact h.2.2.1 x hx)
    simp only [List.length_cons] at h3
    omega
theorem OKN.bounds {l : List Int} {a c : Int} (h : OKN l a c) : 0 ≤ a * c ∧ a * c ≤ a * l.length ∧ a * l.length ≤ 120000 := by
  obtain ⟨h1, h2, h3⟩ := h
  refine ⟨Int.mul_nonneg h2.1 h3.1, Int.mul_le_mul_of_nonneg_left h3.2 h2.1, ?_⟩
  have := Int.mul_le_mul h2.2 h1.2.1 (by omega) (by omega)
  omega
theorem nv_bound {l : List Int} {a c : Int} (h : OKN l a c) (v : Int) : -120000 ≤ nv l a c v ∧ nv l a c v ≤ 120000 := by
  have := h.bounds
  unfold nv; split <;> omega
theorem nodup_at {l : List Int} (h : l.Nodup) {j : Nat} {w : Int} (hw : l[j]? = some w) (m : Nat) : w ∈ l.take m ↔ j < m := by
  constructor
  · intro hm
    rcases Nat.lt_or_ge j m with h1 | h1
    · exact h1
    · obtain ⟨i, h2⟩ := List.getElem?_of_mem hm
      rw [List.getElem?_take] at h2
      split at h2
      · obtain ⟨a, ha⟩ := List.getElem?_eq_some_iff.1 h2
        obtain ⟨b, hb⟩ := List.getElem?_eq_some_iff.1 hw
        exact absurd (ha.trans hb.symm) (List.pairwise_iff_getElem.1 h i j a b (by omega))
      · cases h2
  · intro hm
    refine List.mem_of_getElem? (i := j) ?_
    rw [List.getElem?_take, if_pos hm, hw]
theorem st_length {l : List Int} {a c : Int} {j : Nat} : (st l a c j).length = l.length := by simp [st]
theorem st_succ {l : List Int} {a c : Int} {j : Nat} {w : Int} (hw : l[j]? = some w) (h0 : 0 ≤ w) : st l a c (j + 1) = (st l a c j).set w.toNat (nv l a c w) := by
  refine List.ext_getElem (by simp [st]) (fun v hv1 hv2 => ?_)
  have hv : v < l.length := by simpa [st] using hv1
  rw [List.getElem_set]
  simp only [st, List.getElem_map, List.getElem_range]
  obtain ⟨hj, hjw⟩ := List.getElem?_eq_some_iff.1 hw
  have e : (v : Int) ∈ l.take (j + 1) ↔ ((v : Int) ∈ l.take j ∨ (v : Int) = w) := by
    rw [List.take_succ_eq_append_getElem hj, hjw]; simp
  by_cases hvw : w.toNat = v
  · have e2 : (v : Int) = w := by omega
    rw [if_pos hvw, if_pos (e.2 (Or.inr e2)), e2]
  · rw [if_neg hvw]
    have e2 : ¬ (v : Int) = w := by omega
    simp only [e, e2, or_false]
theorem st_zero {l : List Int} {a c : Int} : st l a c 0 = List.replicate l.length 0 := by
  refine List.ext_getElem (by simp [st]) (fun v hv1 hv2 => ?_)
  simp [st]
theorem st_last {l : List Int} (h : VO l) {a c : Int} : st l a c l.length = net l a c := by
  refine List.ext_getElem (by simp [st, net]) (fun v hv1 hv2 => ?_)
  have hv : v < l.length := by simpa [st] using hv1
  have := h.all (v := v) (by omega) (by omega)
  simp [st, net, this]
theorem sumL_set : ∀ (xs : List Int) (i : Nat) (y : Int) (h : i < xs.length), sumL (xs.set i y) = sumL xs - xs[i] + y := by
  intro xs
  induction xs with
  | nil => intro i y h; simp at h
  | cons x r ih =>
    intro i y h
    cases i with
    | zero => simp only [List.set_cons_zero, sumL, List.getElem_cons_zero]; omega
    | succ i =>
      have := ih i y (by simpa using h)
      simp only [List.set_cons_succ, sumL, List.getElem_cons_succ, this]; omega
theorem sum_st {l : List Int} (h : VO l) {a c : Int} (hc : 0 ≤ c) {g : Int → Int} (hg : g 0 = 0) : ∀ j : Nat, j ≤ l.length →
    sumL ((st l a c j).map g) = (min j c.toNat : Nat) * g (-(a * c) + a * l.length) + ((j - min j c.toNat : Nat) : Int) * g (-(a * c)) := by
  intro j
  induction j with
  | zero =>
    intro _
    rw [st_zero, List.map_replicate, hg]
    have : ∀ n, sumL (List.replicate n 0) = 0 := by
      intro n
      induction n with
      | zero => rfl
      | succ n ih => rw [List.replicate_succ, sumL, ih]; rfl
    rw [this]; simp
  | succ j ih =>
    intro hj
    have hw : l[j]? = some l[j] := List.getElem?_eq_getElem hj
    have hr := h.2.2.1 l[j] (List.getElem_mem hj)
    have hlt : l[j].toNat < (st l a c j).length := by rw [st_length]; omega
    rw [st_succ hw hr.1, List.map_set, sumL_set _ _ _ (by simpa using hlt), ih (by omega)]
    have e0 : (((st l a c j).map g)[l[j].toNat]'(by simpa using hlt)) = 0 := by
      have hn : ¬ (l[j] ∈ l.take j) := by rw [nodup_at h.2.2.2 hw]; omega
      simp only [List.getElem_map, st, List.getElem_range]
      rw [show ((l[j].toNat : Nat) : Int) = l[j] from by omega, if_neg hn, hg]
    rw [e0]
    unfold nv
    by_cases hm : j < c.toNat
    · rw [if_pos ((nodup_at h.2.2.2 hw _).2 hm)]
      have e1 : min (j + 1) c.toNat = j + 1 := by omega
      have e2 : min j c.toNat = j := by omega
      rw [e1, e2, Nat.sub_self, Nat.sub_self, Int.natCast_add, Int.add_mul]
      simp
    · rw [if_neg (fun hx => hm ((nodup_at h.2.2.2 hw _).1 hx))]
      have e1 : min (j + 1) c.toNat = c.toNat := by omega
      have e2 : min j c.toNat = c.toNat := by omega
      have e3 : j + 1 - c.toNat = (j - c.toNat) + 1 := by omega
      rw [e1, e2, e3, Int.natCast_add (j - c.toNat) 1, Int.add_mul _ _ (g (-(a * c)))]
      simp; omega
theorem sum_net {l : List Int} {a c : Int} (h : OKN l a c) {g : Int → Int} (hg : g 0 = 0) :
    sumL ((net l a c).map g) = c * g (-(a * c) + a * l.length) + (l.length - c) * g (-(a * c)) := by
  obtain ⟨h1, h2, h3⟩ := h
  rw [← st_last h1, sum_st h1 h3.1 hg _ (Nat.le_refl _)]
  have e1 : ((min l.length c.toNat : Nat) : Int) = c := by omega
  have e2 : ((l.length - min l.length c.toNat : Nat) : Int) = l.length - c := by omega
  rw [e1, e2]
theorem implNet_l0 {l : List Int} {a c : Int} (h : OKN l a c) : ∀ (r : List Int) (i : Nat), l.drop i = r →
    Tot (fun k => impl_NetAfter.l0 k a c (a * l.length) (st l a c i) l l.length i) (fun t => t = net l a c) := by
  have hb := h.bounds
  obtain ⟨hv, ha, hc⟩ := h
  have h12 := hv.2.1
  intro r
  induction r with
  | nil =>
    intro i h
    have := drop_nil h
    refine Tot.step (fun _ => impl_NetAfter.l0.eq_2 ..) (Tot.neg (by omega) (Tot.now ?_))
    rw [← st_last hv]
    unfold st
    rw [List.take_of_length_le this, List.take_length]
  | cons x r ih =>
    intro i h
    obtain ⟨h1, h2, h3⟩ := drop_cons h
    have hr := hv.2.2.1 x (List.mem_of_getElem? h3)
    refine Tot.step (fun _ => impl_NetAfter.l0.eq_2 ..) ?_
    rw [rd_at h3, w64s (by omega), st_length, w64 (x := -a) (by omega) (by omega), Int.neg_mul, w64 (x := -(a * c)) (by omega) (by omega)]
    refine Tot.pos (by omega) (Tot.pos (by omega) (Tot.pos (by omega) (Tot.pos hr.1 (Tot.pos hr.2 (Tot.known ?_)))))
    have hlt : x.toNat < (st l a c i).length := by rw [st_length]; omega
    have ex : (x.toNat : Int) = x := by omega
    have er : rd ((st l a c i).set x.toNat (-(a * c))) x = -(a * c) := by
      have := rd_get (xs := (st l a c i).set x.toNat (-(a * c))) (i := x.toNat) (by simpa using hlt)
      rw [ex] at this
      rw [this, List.getElem_set_self]
    rw [er, w64 (x := -(a * c) + a * l.length) (by omega) (by omega), List.set_set]
    refine Tot.ite (fun hi => ?_) (fun hi => ?_)
    · have e : nv l a c x = -(a * c) + a * l.length := by
        unfold nv; rw [if_pos ((nodup_at hv.2.2.2 h3 _).2 (by omega))]
      rw [← e, ← st_succ h3 hr.1]
      exact ih (i + 1) h2
    · have e : nv l a c x = -(a * c) := by
        unfold nv; rw [if_neg (fun hx => by have := (nodup_at hv.2.2.2 h3 _).1 hx; omega)]; omega
      rw [← e, ← st_succ h3 hr.1]
      exact ih (i + 1) h2
theorem implNet_tot {l : List Int} {a c : Int} (hl : l.length ≤ 1000000) : Tot (fun k => impl_NetAfter.f k l a c) (fun t => t = if OKN l a c then net l a c else []) := by
  unfold impl_NetAfter.f
  have hp : impl_PotOf.f l.length a = some (if (1 ≤ (l.length : Int) ∧ (l.length : Int) ≤ 12) ∧ 0 ≤ a ∧ a ≤ 10000 then a * l.length else -1) := by
    unfold impl_PotOf.f
    by_cases h1 : (l.length : Int) < 1
    · rw [if_pos h1, if_neg (by omega)]
    · rw [if_neg h1]
      by_cases h2 : (l.length : Int) > 12
      · rw [if_pos h2, if_neg (by omega)]
      · rw [if_neg h2]
        by_cases h3 : a < 0
        · rw [if_pos h3, if_neg (by omega)]
        · rw [if_neg h3]
          by_cases h4 : a > 10000
          · rw [if_pos h4, if_neg (by omega)]
          · have h5 := Int.mul_nonneg (a := a) (b := l.length) (by omega) (by omega)
            have h6 := Int.mul_le_mul (a := a) (b := l.length) (c := 10000) (d := 12) (by omega) (by omega) (by omega) (by omega)
            rw [if_neg h4, if_pos (by omega), Int.mul_comm, w64 (by omega) (by omega)]
  rw [hp]
  refine Tot.known (Tot.bind (implValidOrder_tot (by omega)) ?_)
  rintro _ rfl
  have bad : ∀ p, ¬ OKN l a c → Tot (fun k => impl_NetAfter.j0 k l a c p true) (fun t => t = if OKN l a c then net l a c else []) := by
    intro p h
    rw [if_neg h]
    exact Tot.step (fun _ => impl_NetAfter.j0.eq_2 ..) (Tot.pos rfl (Tot.now rfl))
  refine Tot.ite (fun h1 => ?_) (fun h1 => bad _ (fun h => h1 (decide_eq_true h.1)))
  have hv := of_decide_eq_true h1
  refine Tot.ite (fun h2 => bad _ (fun h => ?_)) (fun h2 => ?_)
  · have := h.bounds
    rw [if_pos ⟨⟨hv.1, hv.2.1⟩, h.2.1⟩] at h2
    omega
  · have ha : 0 ≤ a ∧ a ≤ 10000 := by
      rcases Classical.em (0 ≤ a ∧ a ≤ 10000) with h3 | h3
      · exact h3
      · rw [if_neg (fun h => h3 h.2)] at h2; omega
    rw [if_pos ⟨⟨hv.1, hv.2.1⟩, ha⟩]
    refine Tot.ite (fun h3 => bad _ (fun h => by have := h.2.2; omega)) (fun h3 => ?_)
    by_cases h4 : c > l.length
    · rw [decide_eq_true h4]
      exact bad _ (fun h => by have := h.2.2; omega)
    · have hok : OKN l a c := ⟨hv, ha, by omega, by omega⟩
      rw [decide_eq_false h4, if_pos hok]
      refine Tot.step (fun _ => impl_NetAfter.j0.eq_2 ..) (Tot.neg (by decide) (Tot.pos (by omega) (Tot.pos (by omega) ?_)))
      have := implNet_l0 hok l 0 rfl
      rw [st_zero] at this
      exact this
theorem specNet_l0 {l : List Int} {a c : Int} (h : OKN l a c) : ∀ (d i : Nat), i + d = l.length →
    Tot (fun k => spec_netAfter.l0 k l a c ((List.range i).map (fun v : Nat => nv l a c v)) i) (fun t => t = net l a c) := by
  have hb := h.bounds
  obtain ⟨hv, ha, hc⟩ := h
  have h12 := hv.2.1
  intro d
  induction d with
  | zero =>
    intro i h
    refine Tot.step (fun _ => spec_netAfter.l0.eq_2 ..) (Tot.neg (by omega) (Tot.now ?_))
    unfold net
    rw [show i = l.length from by omega]
  | succ d ih =>
    intro i h
    refine Tot.step (fun _ => spec_netAfter.l0.eq_2 ..) ?_
    rw [w64s (by omega), w64 (x := -a) (by omega) (by omega), Int.neg_mul, w64 (x := -(a * c)) (by omega) (by omega), w64 (x := a * l.length) (by omega) (by omega), w64 (x := -(a * c) + a * l.length) (by omega) (by omega)]
    refine Tot.pos (by omega) (Tot.pos (by omega) (Tot.pos (by omega) (Tot.bind (placeIn_tot (by rw [List.length_take]; omega)) ?_)))
    rintro _ rfl
    refine Tot.ite (fun h4 => ?_) (fun h4 => ?_)
    · have hm := (posFrom_ge (by omega)).1 h4
      refine Tot.pos (by rw [List.length_map, List.length_range]; omega) ?_
      have e : -(a * c) + a * l.length = nv l a c i := by unfold nv; rw [if_pos hm]
      rw [e]
      have := ih (i + 1) (by omega)
      rw [List.range_succ, List.map_append] at this
      exact this
    · have hm : ¬ ((i : Int) ∈ l.take c.toNat) := fun hm => h4 ((posFrom_ge (by omega)).2 hm)
      refine Tot.pos (by rw [List.length_map, List.length_range]; omega) ?_
      have e : -(a * c) = nv l a c i := by unfold nv; rw [if_neg hm]; omega
      rw [e]
      have := ih (i + 1) (by omega)
      rw [List.range_succ, List.map_append] at this
      exact this
theorem specnet_tot {l : List Int} {a c : Int} (h : OKN l a c) : Tot (fun k => spec_netAfter.f k l a c) (fun t => t = net l a c) := by
  unfold spec_netAfter.f
  exact specNet_l0 h l.length 0 (by omega)
theorem net_len (l : List Int) (a c : Int) : (net l a c).length = l.length := by simp [net]
theorem net_in {l : List Int} {a c : Int} (h : OKN l a c) : ∀ x ∈ net l a c, -120000 ≤ x ∧ x ≤ 120000 := by
  intro x hx
  unfold net at hx
  rw [List.mem_map] at hx
  obtain ⟨v, _, rfl⟩ := hx
  exact nv_bound h v
theorem drawNet_tot {l : List Int} (hw : ∀ x ∈ l, (Lit.int .u8 x).wf = true) : Tot (fun k => spec_DrawNetAfter.f k l) (fun r => r.1.length ≤ 12) := by
  unfold spec_DrawNetAfter.f
  obtain ⟨b, hb, hb2, hb3⟩ := newReader_tot hw
  rw [hb]
  refine Tot.known (Tot.bind (anyOrder_tot hb3 (Int.le_refl _) (by omega)) ?_)
  rintro ⟨o, q⟩ ⟨h1, h2, h3⟩
  dsimp only at h1 h2 h3 ⊢
  refine Tot.bind (one_tot hb3 (by omega) (by omega) (by simp) (by simp)) ?_
  rintro ⟨a, q2⟩ ⟨h4, h5⟩
  dsimp only at h4 h5 ⊢
  rw [w64 (x := (o.length : Int) + 1) (by omega) (by omega)]
  refine Tot.bind (pick_tot hb3 (by omega) (by omega) (by omega)) ?_
  rintro ⟨c, q3⟩ ⟨h6, h7, h8⟩
  dsimp only at h6 h7 h8 ⊢
  refine Tot.bind (one_tot hb3 (by omega) (by omega) (by simp) (by simp)) ?_
  rintro ⟨c2, q4⟩ ⟨h9, h10⟩
  exact Tot.now h1
theorem equalInts_l0 {a b : List Int} (hl : a.length = b.length) (ha : a.length ≤ 1000000000000) : ∀ (r s : List Int) (i : Nat), a.drop i = r → b.drop i = s →
    Tot (fun k => laws_equalInts.l0 k a b i) (fun t => t = decide (r = s)) := by
  intro r
  induction r with
  | nil =>
    intro s i h h2
    have h3 := drop_nil h
    have h4 : s = [] := by rw [← h2]; exact List.drop_eq_nil_of_le (by omega)
    exact Tot.step (fun _ => laws_equalInts.l0.eq_2 ..) (Tot.neg (by omega) (Tot.now (by simp [h4])))
  | cons x r ih =>
    intro s i h h2
    obtain ⟨h3, h4, h5⟩ := drop_cons h
    cases s with
    | nil => have := drop_nil h2; omega
    | cons y s =>
      obtain ⟨g3, g4, g5⟩ := drop_cons h2
      refine Tot.step (fun _ => laws_equalInts.l0.eq_2 ..) ?_
      rw [rd_at h5, rd_at g5, w64s (by omega)]
      refine Tot.pos (by omega) (Tot.pos (by omega) (Tot.pos (by omega) (Tot.ite (fun e => ?_) (fun e => Tot.now (by simp [e])))))
      refine (ih s (i + 1) h4 g4).mono ?_
      rintro t rfl
      simp [e]
theorem equalInts_tot {a b : List Int} (ha : a.length ≤ 1000000000000) : Tot (fun k => laws_equalInts.f k a b) (fun t => t = decide (a = b)) := by
  unfold laws_equalInts.f
  refine Tot.ite (fun h => ?_) (fun h => Tot.now ?_)
  · exact equalInts_l0 (by omega) ha a b 0 rfl rfl
  · symm
    rw [decide_eq_false_iff_not]
    rintro rfl
    exact h rfl
theorem total_l0 {xs : List Int} (hl : xs.length ≤ 12) (hx : ∀ x ∈ xs, -120000 ≤ x ∧ x ≤ 120000) : ∀ (r : List Int) (i : Nat) (acc : Int), xs.drop i = r → -120000 * i ≤ acc → acc ≤ 120000 * i →
    Tot (fun k => laws_total.l0 k xs acc i) (fun t => t = acc + sumL r) := by
  intro r
  induction r with
  | nil =>
    intro i acc h _ _
    have := drop_nil h
    exact Tot.step (fun _ => laws_total.l0.eq_2 ..) (Tot.neg (by omega) (Tot.now (by simp [sumL])))
  | cons x r ih =>
    intro i acc h ha ha2
    obtain ⟨h1, h2, h3⟩ := drop_cons h
    have h4 := hx x (List.mem_of_getElem? h3)
    refine Tot.step (fun _ => laws_total.l0.eq_2 ..) ?_
    rw [rd_at h3, w64s (by omega), w64 (x := acc + x) (by omega) (by omega)]
    refine Tot.pos (by omega) (Tot.pos (by omega) ((ih (i + 1) (acc + x) h2 (by omega) (by omega)).mono ?_))
    rintro t rfl
    rw [sumL]; omega
theorem total_tot {l : List Int} {a c : Int} (h : OKN l a c) : Tot (fun k => laws_total.f k (net l a c)) (fun t => t = 0) := by
  unfold laws_total.f
  have h1 := h.1.1
  have h2 := h.1.2.1
  refine (total_l0 (by rw [net_len]; omega) (net_in h) (net l a c) 0 0 rfl (by omega) (by omega)).mono ?_
  rintro t rfl
  have e := sum_net h (g := fun x => x) rfl
  rw [List.map_id'] at e
  rw [e]
  grind
theorem greatest_l0 {xs : List Int} (hl : xs.length ≤ 12) (hx : ∀ x ∈ xs, x = 0) : ∀ (r : List Int) (i : Nat), xs.drop i = r →
    Tot (fun k => laws_greatest.l0 k xs 0 i) (fun t => t = 0) := by
  intro r
  induction r with
  | nil =>
    intro i h
    have := drop_nil h
    exact Tot.step (fun _ => laws_greatest.l0.eq_2 ..) (Tot.neg (by omega) (Tot.now rfl))
  | cons x r ih =>
    intro i h
    obtain ⟨h1, h2, h3⟩ := drop_cons h
    have h4 := hx x (List.mem_of_getElem? h3)
    refine Tot.step (fun _ => laws_greatest.l0.eq_2 ..) ?_
    rw [rd_at h3, w64s (by omega), h4]
    exact Tot.pos (by omega) (Tot.pos (by omega) (ih (i + 1) h2))
theorem net_zero {l : List Int} {a c : Int} (h : OKN l a c) (hc : c = 0 ∨ c = l.length) : ∀ x ∈ net l a c, x = 0 := by
  intro x hx
  unfold net at hx
  rw [List.mem_map] at hx
  obtain ⟨v, hv, rfl⟩ := hx
  rw [List.mem_range] at hv
  have hm := h.1.all (v := v) (by omega) (by omega)
  unfold nv
  rcases hc with rfl | rfl
  · simp
  · simp [hm]; omega
theorem specNetAfter_tot {l : List Int} {a c : Int} (hl : l.length ≤ 1000000) : Tot (fun k => spec_NetAfter.f k l a c) (fun t => t = if OKN l a c then net l a c else []) := by
  unfold spec_NetAfter.f
  refine Tot.bind (specValidOrder_tot (by omega)) ?_
  rintro _ rfl
  rw [inRange_eq, inRange_eq]
  have bad : ¬ OKN l a c → Tot (fun _ : Nat => some ([] : List Int)) (fun t => t = if OKN l a c then net l a c else []) := by
    intro h
    rw [if_neg h]
    exact Tot.now rfl
  refine Tot.ite (fun h1 => Tot.known (Tot.ite (fun h2 => Tot.known (Tot.ite (fun h3 => ?_) (fun h3 => bad (fun h => h3 (decide_eq_true h.2.2))))) (fun h2 => bad (fun h => h2 (decide_eq_true h.2.1))))) (fun h1 => bad (fun h => h1 (decide_eq_true h.1)))
  have h : OKN l a c := ⟨of_decide_eq_true h1, of_decide_eq_true h2, of_decide_eq_true h3⟩
  rw [if_pos h]
  refine Tot.bind (specnet_tot h) ?_
  rintro _ rfl
  exact Tot.now rfl
theorem net_rd {l : List Int} {a c v : Int} (h0 : 0 ≤ v) (h1 : v < l.length) : rd (net l a c) v = nv l a c v := by
  have hlt : v.toNat < (net l a c).length := by rw [net_len]; omega
  have ex : (v.toNat : Int) = v := by omega
  have := rd_get hlt
  rw [ex] at this
  rw [this]
  simp only [net, List.getElem_map, List.getElem_range, ex]
theorem FnNetAfter : laws_FnNetAfter.Pure := by
  intro l hl hl2 hw
  refine Tot.ends (g := fun k => laws_FnNetAfter.f k l) ?_
  unfold laws_FnNetAfter.f
  refine Tot.ite (fun _ => Tot.now rfl) (fun _ => ?_)
  refine Tot.bind (drawNet_tot hw) ?_
  rintro ⟨o, a, c⟩ ho
  dsimp only at ho ⊢
  refine Tot.bind (implNet_tot (by omega)) ?_
  rintro _ rfl
  refine Tot.bind (specNetAfter_tot (by omega)) ?_
  rintro _ rfl
  have hlen : (if OKN o a c then net o a c else []).length ≤ 12 := by
    split
    · rw [net_len]; omega
    · simp
  refine Tot.bind (equalInts_tot (by omega)) ?_
  rintro _ rfl
  refine Tot.pos (by simp) (Tot.step (fun _ => laws_FnNetAfter.j0.eq_2 ..) ?_)
  refine Tot.ite (fun h1 => ?_) (fun h1 => ?_)
  · refine Tot.bind (specNetAfter_tot (by omega)) ?_
    rintro _ rfl
    refine Tot.bind (equalInts_tot (by omega)) ?_
    rintro _ rfl
    exact Tot.now (by simp)
  · have h : OKN o a c := by
      rcases Classical.em (OKN o a c) with h2 | h2
      · exact h2
      · exact absurd (by rw [if_neg h2]; rfl) h1
    rw [if_pos h]
    have hb := h.bounds
    have hc := h.2.2
    have ho1 := h.1.1
    have hmid : (c = 0 ∨ c = o.length) → Tot (fun k => laws_FnNetAfter.j1 k o (net o a c) true) (fun t => t = true) := by
      intro hcc
      refine Tot.step (fun _ => laws_FnNetAfter.j1.eq_2 ..) (Tot.pos rfl (Tot.bind (P := fun t => t = 0) (greatest_l0 (by rw [net_len]; omega) (net_zero h hcc) (net o a c) 0 rfl) ?_))
      rintro _ rfl
      refine Tot.pos rfl (Tot.bind (total_tot h) ?_)
      rintro _ rfl
      exact Tot.now (by decide)
    refine Tot.ite (fun h0 => hmid (Or.inl h0)) (fun h0 => ?_)
    by_cases hn : c = o.length
    · rw [show (c == (o.length : Int)) = true from by simpa using hn]
      exact hmid (Or.inr hn)
    · rw [show (c == (o.length : Int)) = false from by simpa using hn]
      refine Tot.step (fun _ => laws_FnNetAfter.j1.eq_2 ..) (Tot.neg (by decide) (Tot.bind (total_tot h) ?_))
      rintro _ rfl
      have hr : ∀ j : Nat, j < o.length → 0 ≤ rd o j ∧ rd o j < o.length := fun j hj => h.1.2.2.1 _ (rd_mem (by omega) (by omega))
      have r0 := hr 0 (by omega)
      have r1 := hr (o.length - 1) (by omega)
      have e1 : wrap64 ((o.length : Int) - 1) = ((o.length - 1 : Nat) : Int) := by rw [w64 (by omega) (by omega)]; omega
      rw [e1, net_len]
      refine Tot.pos rfl (Tot.pos (by omega) (Tot.pos r0.1 (Tot.pos r0.2 (Tot.pos (by omega) (Tot.pos (by omega) (Tot.pos r1.1 (Tot.pos r1.2 (Tot.now ?_))))))))
      have e3 : rd (net o a c) (rd o (0 : Int)) = nv o a c (rd o (0 : Int)) := net_rd r0.1 r0.2
      rw [e3, net_rd r1.1 r1.2]
      have e4 : rd o (0 : Int) ∈ o.take c.toNat := by
        have h5 : o[0]? = some (rd o (0 : Int)) := by
          have : rd o ((0 : Nat) : Int) = o[0] := rd_get (by omega)
          rw [List.getElem?_eq_getElem (by omega)]
          exact congrArg some this.symm
        exact (nodup_at h.1.2.2.2 h5 _).2 (by omega)
      have e5 : nv o a c (rd o (0 : Int)) = -(a * c) + a * o.length := by unfold nv; rw [if_pos e4]
      rw [e5]
      refine decide_eq_true ?_
      unfold nv
      split <;> omega
end Go.Proofs.Ytlcifhkbkmhcfaa.Pure
