/- FnValidRanks: for every code, valid lists stay valid when one is left out, and when each is turned round. No condition beyond the statement's own. -/
import Derived.Test.YtdcapmgebjifpaaQFnValidRanksx5
import Derived.Test.YtdcapmgebjifpaaCore
namespace Go.Proofs.Ytdcapmgebjifpaa.Pure
open Go.RowKit Go.Proofs.Ytdcapmgebjifpaa.PFnValidRanks Go.Proofs.YtdcapmgebjifpaaW.PrintWords
set_option linter.unusedSimpArgs false
set_option linter.unusedVariables false

/-! the reader -/
theorem pick_tot {b : List Int} (hb : ∀ x ∈ b, 0 ≤ x ∧ x < 256) {p n : Int} (hp : 0 ≤ p) (hp2 : p ≤ 1000000000) (hn : n ≤ 1000000000000) :
    Tot (fun k => spec_reader_pick.f k b p n) (fun r => r.2 = p + 1 ∧ 0 ≤ r.1 ∧ (r.1 < n ∨ r.1 = 0)) := by
  have e1 : wrap64 (p + 1) = p + 1 := w64 (by omega) (by omega)
  have e2 : wrap64 (p + 1 - 1) = p := by rw [w64 (by omega) (by omega)]; omega
  have main : ∀ t : Bool, (t = false → 1 ≤ n ∧ b.length ≠ 0) → Tot (fun k => spec_reader_pick.j0 k n t b (p + 1)) (fun r => r.2 = p + 1 ∧ 0 ≤ r.1 ∧ (r.1 < n ∨ r.1 = 0)) := by
    intro t ht
    refine Tot.step (fun _ => spec_reader_pick.j0.eq_2 ..) ?_
    simp only [e2]
    cases t with
    | true => exact Tot.pos rfl (Tot.now ⟨rfl, Int.le_refl _, .inr rfl⟩)
    | false =>
      obtain ⟨hn1, hne⟩ := ht rfl
      refine Tot.neg (by simp) ?_
      by_cases hlt : p < (b.length : Int)
      · refine Tot.pos hlt (Tot.pos hp (Tot.neg (by omega) ?_))
        have hr := hb _ (rd_mem hp hlt)
        rw [w64 (x := rd b p) (by omega) (by omega), tmod_nn hr.1]
        exact Tot.now ⟨rfl, Int.emod_nonneg _ (by omega), .inl (Int.emod_lt_of_pos _ (by omega))⟩
      · refine Tot.neg hlt (Tot.neg (by omega) ?_)
        have hlen : 0 < (b.length : Int) := by omega
        have i1 : 0 ≤ Int.tmod p b.length ∧ Int.tmod p b.length < b.length := by
          rw [tmod_nn hp]; exact ⟨Int.emod_nonneg _ (by omega), Int.emod_lt_of_pos _ hlen⟩
        have e3 : wrap64 (wrap64 (p * 7) + 3) = p * 7 + 3 := by
          rw [w64 (x := p * 7) (by omega) (by omega)]; exact w64 (by omega) (by omega)
        rw [e3]
        have i2 : 0 ≤ Int.tmod (p * 7 + 3) b.length ∧ Int.tmod (p * 7 + 3) b.length < b.length := by
          rw [tmod_nn (by omega)]; exact ⟨Int.emod_nonneg _ (by omega), Int.emod_lt_of_pos _ hlen⟩
        refine Tot.pos i1.1 (Tot.pos i1.2 (Tot.pos i2.1 (Tot.pos i2.2 (Tot.neg (by omega) ?_))))
        have hu := hb _ (rd_mem i1.1 i1.2)
        have hv := hb _ (rd_mem i2.1 i2.2)
        have hq : 0 ≤ Int.tdiv p b.length ∧ Int.tdiv p b.length ≤ p := by
          rw [tdiv_nn hp]
          exact ⟨Int.ediv_nonneg hp (by omega), Int.ediv_le_self _ hp⟩
        generalize rd b (Int.tmod p b.length) = u at hu ⊢
        generalize rd b (Int.tmod (p * 7 + 3) b.length) = v at hv ⊢
        generalize Int.tdiv p b.length = q at hq ⊢
        rw [w64 (x := u) (by omega) (by omega), w64 (x := v) (by omega) (by omega), w64 (x := q) (by omega) (by omega), w64 (x := u * 131) (by omega) (by omega), w64 (x := v * 1117) (by omega) (by omega), w64 (x := p * 29) (by omega) (by omega), w64 (x := q * 53) (by omega) (by omega),
          w64 (x := u * 131 + v * 1117) (by omega) (by omega), w64 (x := u * 131 + v * 1117 + p * 29) (by omega) (by omega), w64 (x := u * 131 + v * 1117 + p * 29 + q * 53) (by omega) (by omega)]
        have hx : 0 ≤ u * 131 + v * 1117 + p * 29 + q * 53 ∧ u * 131 + v * 1117 + p * 29 + q * 53 < 4611686018427387904 := by omega
        generalize u * 131 + v * 1117 + p * 29 + q * 53 = x at hx ⊢
        rw [tdiv_nn hx.1, w64 (x := x / 64) (by omega) (by omega)]
        have hz := xor_nn hx.1 hx.2 (b := x / 64) (by omega) (by omega)
        rw [tmod_nn hz]
        exact Tot.now ⟨rfl, Int.emod_nonneg _ (by omega), .inl (Int.emod_lt_of_pos _ (by omega))⟩
  unfold spec_reader_pick.f
  rw [e1]
  refine Tot.ite (fun _ => main true (fun h => by cases h)) (fun h => main _ (fun h2 => ⟨by omega, fun h3 => ?_⟩))
  rw [h3] at h2
  simp at h2
theorem one_tot {b : List Int} (hb : ∀ x ∈ b, 0 ≤ x ∧ x < 256) {p : Int} (hp : 0 ≤ p) (hp2 : p ≤ 1000000000) {l : List Int} (hl : 0 < l.length) (hl2 : l.length ≤ 1000) :
    Tot (fun k => spec_reader_one.f k b p l) (fun r => r.2 = p + 1 ∧ r.1 ∈ l) := by
  unfold spec_reader_one.f
  refine Tot.bind (pick_tot hb hp hp2 (by omega)) ?_
  rintro ⟨v, q⟩ ⟨h1, h2, h3⟩
  simp only at h1 h2 h3 ⊢
  have h4 : v < (l.length : Int) := by omega
  exact Tot.pos h2 (Tot.pos h4 (Tot.now ⟨h1, rd_mem h2 h4⟩))
theorem newReader_tot {l : List Int} (h : ∀ x ∈ l, (Lit.int .u8 x).wf = true) : ∃ b, spec_newReader.f l = some (b, 0) ∧ b.length ≤ 2000 ∧ ∀ x ∈ b, 0 ≤ x ∧ x < 256 := by
  unfold spec_newReader.f
  by_cases h1 : (l.length : Int) > 2000
  · rw [if_pos h1, if_pos (by omega)]
    exact ⟨_, rfl, by simp; omega, fun x hx => wf_u8 (h x (List.mem_of_mem_take hx))⟩
  · rw [if_neg h1]
    exact ⟨_, rfl, by omega, fun x hx => wf_u8 (h x hx)⟩
theorem copyInts_eq {l : List Int} (h : l.length < 17592186044416) : spec_copyInts.f l = some l := by
  simp [spec_copyInts.f, h]
theorem rd1_at' {l : List (List Int)} {i : Nat} {r : List Int} (h : l[i]? = some r) : rd_L2 l (i : Int) = r := by
  simp [rd_L2, List.getD_eq_getElem?_getD, h]
theorem rd1_len {l : List (List Int)} {n : Nat} (hw : ∀ x ∈ l, x.length ≤ n) : (rd_L2 l 0).length ≤ n := by
  cases l with
  | nil => simp [rd_L2]
  | cons x r => exact hw x (by simp)
def Rows (m : Nat) (l : List (List Int)) : Prop := ∀ x ∈ l, x.length = m
def SR (b : List Int) (m : Nat) (d : Nat) : Prop := ∀ (out : List (List Int)) (p : Int), Rows m out → out.length + d ≤ 100 → 0 ≤ p → p + 10 * d ≤ 1000 →
    Tot (fun k => spec_someRanks.l0 k m out d b p) (fun r => Rows m r.1 ∧ r.1.length = out.length + d ∧ p ≤ r.2 ∧ r.2 ≤ p + 10 * d)
theorem someRanks_l1 {b : List Int} (hb : ∀ x ∈ b, 0 ≤ x ∧ x < 256) {m d : Nat} (hm : m ≤ 10) (hd : SR b m d) : ∀ (e i : Nat) (out : List (List Int)) (row : List Int) (p : Int), i + e = m → row.length = i → Rows m out → out.length + (d + 1) ≤ 100 → 0 ≤ p → p + e + 10 * d ≤ 1000 →
    Tot (fun k => spec_someRanks.l1 k m out ((d + 1 : Nat) : Int) row i b p) (fun r => Rows m r.1 ∧ r.1.length = out.length + (d + 1) ∧ p ≤ r.2 ∧ r.2 ≤ p + e + 10 * d) := by
  intro e
  induction e with
  | zero =>
    intro i out row p hi hr ho hl hp hp2
    refine Tot.step (fun _ => spec_someRanks.l1.eq_2 ..) (Tot.neg (by omega) (Tot.pos (by omega) ?_))
    have e1 : wrap64 (((d + 1 : Nat) : Int) - 1) = (d : Int) := by rw [w64 (by omega) (by omega)]; omega
    rw [e1]
    refine (hd (out ++ [row]) p ?_ (by simp; omega) hp (by omega)).mono ?_
    · intro x hx
      rcases List.mem_append.1 hx with hx | hx
      · exact ho x hx
      · rw [List.mem_singleton] at hx; rw [hx]; omega
    · rintro r ⟨h1, h2, h3, h4⟩
      simp at h2
      exact ⟨h1, by omega, h3, by omega⟩
  | succ e ih =>
    intro i out row p hi hr ho hl hp hp2
    refine Tot.step (fun _ => spec_someRanks.l1.eq_2 ..) ?_
    refine Tot.pos (by omega) ?_
    rw [w64s (i := i) (by omega), w64 (x := (row.length : Int) + 1) (by omega) (by omega)]
    refine Tot.bind (pick_tot hb hp (by omega) (by omega)) ?_
    rintro ⟨v, q⟩ ⟨h1, h2, h3⟩
    simp only at h1 h2 h3 ⊢
    refine Tot.pos h2 (Tot.pos (by omega) ?_)
    have hv : v.toNat ≤ row.length := by omega
    rw [copyInts_eq (by simp; omega)]
    simp only [Option.bind_some]
    have e1 : (List.take v.toNat row).length = v.toNat := by simp; omega
    have e2 : (List.take v.toNat row ++ [(i : Int)]).length = v.toNat + 1 := by simp; omega
    have e3 : (List.drop v.toNat row).length = row.length - v.toNat := by simp
    refine Tot.pos (by omega) (Tot.pos (by omega) ?_)
    subst h1
    refine (ih (i + 1) out _ (p + 1) (by omega) (by rw [List.length_append, e2, e3]; omega) ho hl (by omega) (by omega)).mono ?_
    rintro r ⟨h4, h5, h6, h7⟩
    exact ⟨h4, h5, by omega, by omega⟩
theorem someRanks_l0 {b : List Int} (hb : ∀ x ∈ b, 0 ≤ x ∧ x < 256) {m : Nat} (hm : m ≤ 10) : ∀ d : Nat, SR b m d := by
  intro d
  induction d with
  | zero =>
    intro out p ho hl hp hp2
    exact Tot.step (fun _ => spec_someRanks.l0.eq_2 ..) (Tot.neg (by omega) (Tot.now ⟨ho, by simp, by simp, by simp⟩))
  | succ d ih =>
    intro out p ho hl hp hp2
    refine Tot.step (fun _ => spec_someRanks.l0.eq_2 ..) (Tot.pos (by omega) ?_)
    refine (someRanks_l1 hb hm ih m 0 out [] p (by omega) rfl ho hl hp (by omega)).mono ?_
    rintro r ⟨h1, h2, h3, h4⟩
    exact ⟨h1, h2, h3, by omega⟩
theorem someRanks_tot {b : List Int} (hb : ∀ x ∈ b, 0 ≤ x ∧ x < 256) {p : Int} (hp : 0 ≤ p) (hp2 : p ≤ 100) :
    Tot (fun k => spec_someRanks.f k b p) (fun r => (∃ m : Nat, 1 ≤ m ∧ m ≤ 6 ∧ Rows m r.1) ∧ (1 ≤ r.1.length ∧ r.1.length ≤ 7) ∧ p ≤ r.2 ∧ r.2 ≤ p + 100) := by
  unfold spec_someRanks.f
  refine Tot.bind (one_tot hb hp (by omega) (by simp) (by simp)) ?_
  rintro ⟨m, q⟩ ⟨h1, h2⟩
  simp only [List.mem_cons, List.not_mem_nil, or_false] at h1 h2 ⊢
  refine Tot.bind (one_tot hb (by omega) (by omega) (by simp) (by simp)) ?_
  rintro ⟨n, q2⟩ ⟨h3, h4⟩
  simp only [List.mem_cons, List.not_mem_nil, or_false] at h3 h4 ⊢
  obtain ⟨m, rfl⟩ := Int.eq_ofNat_of_zero_le (show 0 ≤ m by omega)
  obtain ⟨n, rfl⟩ := Int.eq_ofNat_of_zero_le (show 0 ≤ n by omega)
  refine (someRanks_l0 hb (m := m) (by omega) n [] q2 (fun x hx => by cases hx) (by simp; omega) (by omega) (by omega)).mono ?_
  rintro r ⟨h5, h6, h7, h8⟩
  simp at h6
  exact ⟨⟨m, by omega, by omega, h5⟩, by omega, by omega, by omega⟩
/-- What anyRanks draws: at most 8 lists of at most 6. -/
def Small (l : List (List Int)) : Prop := l.length ≤ 8 ∧ ∀ x ∈ l, x.length ≤ 6
theorem anyRanks_tot {b : List Int} (hb : ∀ x ∈ b, 0 ≤ x ∧ x < 256) {p : Int} (hp : 0 ≤ p) (hp2 : p ≤ 100) :
    Tot (fun k => spec_anyRanks.f k b p) (fun r => Small r.1 ∧ p ≤ r.2 ∧ r.2 ≤ p + 200) := by
  unfold spec_anyRanks.f
  refine Tot.bind (someRanks_tot hb hp hp2) ?_
  rintro ⟨l, q⟩ ⟨⟨m, hm, hm2, hr⟩, hl, h1, h2⟩
  dsimp only at hr hl h1 h2 ⊢
  refine Tot.bind (pick_tot hb (by omega) (by omega) (by omega)) ?_
  rintro ⟨c, q2⟩ ⟨h3, h4, h5⟩
  dsimp only at h3 h4 h5 ⊢
  have hsm : ∀ x ∈ l, x.length ≤ 6 := fun x hx => by have := hr x hx; omega
  refine Tot.ite (fun _ => ?_) (fun _ => Tot.ite (fun _ => ?_) (fun _ => Tot.now ⟨⟨by dsimp only; omega, hsm⟩, by dsimp only; omega, by dsimp only; omega⟩))
  · have h0 : (rd_L2 l 0).length = m := by
      cases l with
      | nil => simp at hl
      | cons x r => exact hr x (by simp)
    rw [h0, w64 (x := (m : Int) - 1) (by omega) (by omega)]
    refine Tot.pos (by omega) (Tot.pos (by omega) (Tot.pos (by omega) ?_))
    refine Tot.bind (one_tot hb (by omega) (by omega) (by simp) (by simp)) ?_
    rintro ⟨x, q3⟩ ⟨h6, _⟩
    dsimp only at h6 ⊢
    refine Tot.pos (by omega) (Tot.now ⟨⟨by simp; omega, fun y hy => ?_⟩, by dsimp only; omega, by dsimp only; omega⟩)
    rcases List.mem_or_eq_of_mem_set hy with hy | hy
    · exact hsm y hy
    · rw [hy, List.length_set, h0]; exact hm2
  · refine Tot.pos (by omega) (Tot.now ⟨⟨by simp; omega, fun y hy => ?_⟩, by dsimp only; omega, by dsimp only; omega⟩)
    rcases List.mem_append.1 hy with hy | hy
    · exact hsm y hy
    · rw [List.mem_singleton] at hy; rw [hy]; simp
def sumL : List Int → Int
  | [] => 0
  | x :: r => x + sumL r
theorem sumL_bound {l : List Int} (h : ∀ x ∈ l, 0 ≤ x ∧ x ≤ 1000000) : 0 ≤ sumL l ∧ sumL l ≤ 1000000 * l.length := by
  induction l with
  | nil => simp [sumL]
  | cons x r ih =>
    have h1 := ih (fun y hy => h y (List.mem_cons_of_mem _ hy))
    have h2 := h x (by simp)
    simp only [sumL, List.length_cons]
    omega
/-- A valid body. -/
def VB (ws : List Int) (need : Int) : Prop := (1 ≤ ws.length ∧ ws.length ≤ 12) ∧ (∀ w ∈ ws, 0 ≤ w ∧ w ≤ 100) ∧ 1 ≤ need ∧ need ≤ sumL ws
instance (ws : List Int) (need : Int) : Decidable (VB ws need) := inferInstanceAs (Decidable ((1 ≤ ws.length ∧ ws.length ≤ 12) ∧ (∀ w ∈ ws, 0 ≤ w ∧ w ≤ 100) ∧ 1 ≤ need ∧ need ≤ sumL ws))
theorem dfalse {p : Prop} {i : Decidable p} (h : ¬ p) : false = @decide p i := by
  symm; rw [decide_eq_false_iff_not]; exact h
theorem dtrue {p : Prop} {i : Decidable p} (h : p) : true = @decide p i := by
  symm; rw [decide_eq_true_iff]; exact h
/-! ranks -/
def RK (l : List (List Int)) : Prop := (1 ≤ (l.length : Int) ∧ (l.length : Int) ≤ 12) ∧ (1 ≤ ((rd_L2 l 0).length : Int) ∧ ((rd_L2 l 0).length : Int) ≤ 6) ∧ ∀ x ∈ l, x.length = (rd_L2 l 0).length ∧ DB x (rd_L2 l 0).length
instance (l : List (List Int)) : Decidable (RK l) := inferInstanceAs (Decidable ((1 ≤ (l.length : Int) ∧ (l.length : Int) ≤ 12) ∧ (1 ≤ ((rd_L2 l 0).length : Int) ∧ ((rd_L2 l 0).length : Int) ≤ 6) ∧ ∀ x ∈ l, x.length = (rd_L2 l 0).length ∧ DB x (rd_L2 l 0).length))
theorem inRange_eq (a b c : Int) : spec_inRange.f a b c = some (decide (b ≤ a ∧ a ≤ c)) := by
  unfold spec_inRange.f
  by_cases h : b ≤ a
  · rw [if_pos h]; simp [h]
  · rw [if_neg h]; simp [h]
theorem placeIn_l0 {xs : List Int} {v : Int} (hl : xs.length ≤ 1000000000000) : ∀ (r : List Int) (i : Nat), xs.drop i = r →
    Tot (fun k => spec_placeIn.l0 k xs v i) (fun t => t = posFrom r v i) := by
  intro r
  induction r with
  | nil =>
    intro i h
    have := drop_nil h
    exact Tot.step (fun _ => spec_placeIn.l0.eq_2 ..) (Tot.neg (by omega) (Tot.now rfl))
  | cons x r ih =>
    intro i h
    obtain ⟨h1, h2, h3⟩ := drop_cons h
    refine Tot.step (fun _ => spec_placeIn.l0.eq_2 ..) ?_
    rw [rd_at h3, w64s (by omega), posFrom]
    refine Tot.pos (by omega) (Tot.pos (by omega) (Tot.ite (fun h4 => ?_) (fun h4 => ?_)))
    · rw [if_pos h4]; exact Tot.now rfl
    · rw [if_neg h4]; exact ih (i + 1) h2
theorem placeIn_tot {xs : List Int} {v : Int} (hl : xs.length ≤ 1000000000000) : Tot (fun k => spec_placeIn.f k xs v) (fun t => t = posFrom xs v 0) := by
  unfold spec_placeIn.f
  exact placeIn_l0 hl xs 0 rfl
theorem validMembers_l0 {xs : List Int} {n : Int} (hl : xs.length ≤ 1000000000000) (hn : 0 ≤ n) (hn2 : n ≤ 1000000000000) : ∀ (r : List Int) (i : Nat), xs.drop i = r →
    Tot (fun k => spec_validMembers.l0 k xs n i) (fun t => t = decide ((∀ x ∈ r, (0 ≤ x ∧ x < n) ∧ x ∉ xs.take i) ∧ r.Nodup)) := by
  intro r
  induction r with
  | nil =>
    intro i h
    have := drop_nil h
    exact Tot.step (fun _ => spec_validMembers.l0.eq_2 ..) (Tot.neg (by omega) (Tot.now (by simp)))
  | cons x r ih =>
    intro i h
    obtain ⟨h1, h2, h3⟩ := drop_cons h
    refine Tot.step (fun _ => spec_validMembers.l0.eq_2 ..) ?_
    rw [rd_at h3, w64s (by omega), w64 (x := n - 1) (by omega) (by omega), inRange_eq]
    simp only [Option.bind_some, decide_eq_true_eq]
    refine Tot.pos (by omega) (Tot.pos (by omega) (Tot.ite (fun h4 => Tot.pos (by omega) ?_) (fun h4 => Tot.now ?_)))
    · rw [Int.toNat_natCast]
      refine Tot.bind (placeIn_tot (by simp; omega)) ?_
      rintro t rfl
      refine Tot.ite (fun h5 => Tot.now ?_) (fun h5 => ?_)
      · have h6 := (posFrom_ge (l := xs.take i) (v := x) (Int.le_refl 0)).1 h5
        symm
        rw [decide_eq_false_iff_not]
        intro h7
        exact (h7.1 x (by simp)).2 h6
      · have h6 : x ∉ xs.take i := fun h7 => h5 ((posFrom_ge (l := xs.take i) (v := x) (Int.le_refl 0)).2 h7)
        refine (ih (i + 1) h2).mono ?_
        rintro t rfl
        have h8 : xs.take (i + 1) = xs.take i ++ [x] := by rw [List.take_add_one, h3]; rfl
        rw [h8, decide_eq_decide]
        constructor
        · rintro ⟨h9, h10⟩
          refine ⟨fun y hy => ?_, List.nodup_cons.2 ⟨fun hx => ?_, h10⟩⟩
          · rcases List.mem_cons.1 hy with rfl | hy
            · exact ⟨⟨h4.1, by omega⟩, h6⟩
            · exact ⟨(h9 y hy).1, fun h11 => (h9 y hy).2 (List.mem_append_left _ h11)⟩
          · exact (h9 x hx).2 (by simp)
        · rintro ⟨h9, h10⟩
          obtain ⟨h11, h12⟩ := List.nodup_cons.1 h10
          refine ⟨fun y hy => ⟨(h9 y (List.mem_cons_of_mem _ hy)).1, fun h13 => ?_⟩, h12⟩
          rcases List.mem_append.1 h13 with h13 | h13
          · exact (h9 y (List.mem_cons_of_mem _ hy)).2 h13
          · rw [List.mem_singleton] at h13
            exact h11 (h13 ▸ hy)
    · symm
      rw [decide_eq_false_iff_not]
      intro h7
      have := (h7.1 x (by simp)).1
      omega
theorem validMembers_tot {xs : List Int} {n : Int} (hl : xs.length ≤ 1000000000000) (hn : 0 ≤ n) (hn2 : n ≤ 1000000000000) : Tot (fun k => spec_validMembers.f k xs n) (fun t => t = decide (DB xs n)) := by
  unfold spec_validMembers.f
  refine (validMembers_l0 hl hn hn2 xs 0 rfl).mono ?_
  rintro t rfl
  rw [decide_eq_decide]
  simp [DB]
theorem specRanks_l0 {l : List (List Int)} (hl : l.length ≤ 1048576) (hw : ∀ x ∈ l, x.length ≤ 1048576) (h0 : (rd_L2 l 0).length ≤ 1048576) : ∀ (r : List (List Int)) (i : Nat), l.drop i = r →
    Tot (fun k => spec_validRanks.l0 k l i) (fun t => t = decide ((1 ≤ (l.length : Int) ∧ (l.length : Int) ≤ 12) ∧ (1 ≤ ((rd_L2 l 0).length : Int) ∧ ((rd_L2 l 0).length : Int) ≤ 6) ∧ ∀ x ∈ r, x.length = (rd_L2 l 0).length ∧ DB x (rd_L2 l 0).length)) := by
  intro r
  induction r with
  | nil =>
    intro i h
    have := drop_nil h
    refine Tot.step (fun _ => spec_validRanks.l0.eq_2 ..) (Tot.neg (by omega) ?_)
    rw [inRange_eq]
    refine Tot.known (Tot.ite (fun h1 => ?_) (fun h1 => Tot.now (dfalse fun h2 => h1 (decide_eq_true h2.1))))
    have h1 := of_decide_eq_true h1
    refine Tot.pos (by omega) ?_
    rw [inRange_eq]
    refine Tot.known (Tot.now ?_)
    rw [decide_eq_decide]
    exact ⟨fun h => ⟨h1, h, fun x hx => by cases hx⟩, fun h => h.2.1⟩
  | cons x r ih =>
    intro i h
    obtain ⟨h1, h2, h3⟩ := drop_cons h
    have hx := hw x (List.mem_of_getElem? h3)
    refine Tot.step (fun _ => spec_validRanks.l0.eq_2 ..) ?_
    rw [rd1_at' h3, w64s (by omega)]
    refine Tot.pos (by omega) (Tot.pos (by omega) (Tot.pos (by omega) (Tot.ite (fun h4 => ?_) (fun h4 => Tot.now (dfalse fun h5 => h4 (by have := (h5.2.2 x (by simp)).1; omega))))))
    refine Tot.bind (validMembers_tot (by omega) (by omega) (by omega)) ?_
    rintro _ rfl
    refine Tot.ite (fun h5 => (ih (i + 1) h2).mono ?_) (fun h5 => Tot.now (dfalse fun h6 => h5 (decide_eq_true (h6.2.2 x (by simp)).2)))
    rintro t rfl
    rw [decide_eq_decide]
    simp only [List.mem_cons, forall_eq_or_imp]
    exact ⟨fun h => ⟨h.1, h.2.1, ⟨by omega, of_decide_eq_true h5⟩, h.2.2⟩, fun h => ⟨h.1, h.2.1, h.2.2.2⟩⟩
theorem specRanks_tot {l : List (List Int)} (hl : l.length ≤ 1048576) (hw : ∀ x ∈ l, x.length ≤ 1048576) : Tot (fun k => spec_validRanks.f k l) (fun t => t = decide (RK l)) := by
  unfold spec_validRanks.f
  exact specRanks_l0 hl hw (rd1_len hw) l 0 rfl
theorem getD_set_true {s : List Bool} {a b : Nat} (ha : a < s.length) : (s.set a true).getD b false = false ↔ b ≠ a ∧ s.getD b false = false := by
  simp only [List.getD_eq_getElem?_getD, List.getElem?_set]
  by_cases h : a = b
  · subst h; simp [ha]
  · rw [if_neg h]
    constructor
    · intro h2; exact ⟨fun e => h e.symm, h2⟩
    · intro h2; exact h2.2
theorem differentBelow_l0 {xs : List Int} {n : Int} (hl : xs.length ≤ 1000000000000) : ∀ (r : List Int) (i : Nat) (s : List Bool), xs.drop i = r → (s.length : Int) = n →
    Tot (fun k => impl_differentBelow.l0 k n s xs xs.length i) (fun t => t = decide ((∀ x ∈ r, (0 ≤ x ∧ x < n) ∧ s.getD x.toNat false = false) ∧ r.Nodup)) := by
  intro r
  induction r with
  | nil =>
    intro i s h hs
    have := drop_nil h
    exact Tot.step (fun _ => impl_differentBelow.l0.eq_2 ..) (Tot.neg (by omega) (Tot.now (by simp)))
  | cons x r ih =>
    intro i s h hs
    obtain ⟨h1, h2, h3⟩ := drop_cons h
    refine Tot.step (fun _ => impl_differentBelow.l0.eq_2 ..) ?_
    rw [rd_at h3, w64s (by omega)]
    refine Tot.pos (by omega) (Tot.pos (by omega) (Tot.pos (by omega) (Tot.ite (fun h4 => Tot.now ?_) (fun h4 => Tot.ite (fun h5 => Tot.now ?_) (fun h5 => Tot.pos (by omega) (Tot.pos (by omega) (Tot.ite (fun h6 => Tot.now ?_) (fun h6 => ?_))))))))
    · symm
      rw [decide_eq_false_iff_not]
      intro h7
      have := (h7.1 x (by simp)).1
      omega
    · symm
      rw [decide_eq_false_iff_not]
      intro h7
      have := (h7.1 x (by simp)).1
      omega
    · symm
      rw [decide_eq_false_iff_not]
      intro h7
      have h8 := (h7.1 x (by simp)).2
      rw [rdOf, h8] at h6
      cases h6
    · have h6' : s.getD x.toNat false = false := by
        rw [rdOf] at h6
        simpa using h6
      have hx : x.toNat < s.length := by omega
      refine (ih (i + 1) (s.set x.toNat true) h2 (by simp; omega)).mono ?_
      rintro t rfl
      rw [decide_eq_decide]
      constructor
      · rintro ⟨h9, h10⟩
        refine ⟨fun y hy => ?_, List.nodup_cons.2 ⟨fun hx2 => ?_, h10⟩⟩
        · rcases List.mem_cons.1 hy with rfl | hy
          · exact ⟨⟨by omega, by omega⟩, h6'⟩
          · exact ⟨(h9 y hy).1, ((getD_set_true hx).1 (h9 y hy).2).2⟩
        · exact ((getD_set_true hx).1 (h9 x hx2).2).1 rfl
      · rintro ⟨h9, h10⟩
        obtain ⟨h11, h12⟩ := List.nodup_cons.1 h10
        refine ⟨fun y hy => ⟨(h9 y (List.mem_cons_of_mem _ hy)).1, (getD_set_true hx).2 ⟨fun h13 => ?_, (h9 y (List.mem_cons_of_mem _ hy)).2⟩⟩, h12⟩
        have h14 := (h9 y (List.mem_cons_of_mem _ hy)).1
        have h15 : y = x := by omega
        exact h11 (h15 ▸ hy)
theorem differentBelow_tot {xs : List Int} {n : Int} (hl : xs.length ≤ 1000000000000) (hn : 0 ≤ n) (hn2 : n ≤ 1000000000000) : Tot (fun k => impl_differentBelow.f k xs n) (fun t => t = decide (DB xs n)) := by
  unfold impl_differentBelow.f
  refine Tot.ite (fun h => Tot.now ?_) (fun h => Tot.pos hn (Tot.pos (by omega) ?_))
  · symm
    rw [decide_eq_false_iff_not]
    intro h2
    have := h2.le hn
    omega
  · refine (differentBelow_l0 hl xs 0 _ rfl (by simp; omega)).mono ?_
    rintro t rfl
    rw [decide_eq_decide]
    have : ∀ j, (List.replicate n.toNat false).getD j false = false := by
      intro j
      simp only [List.getD_eq_getElem?_getD, List.getElem?_replicate]
      split <;> rfl
    simp only [this, and_true]
    exact Iff.rfl
theorem implRanks_l0 {l : List (List Int)} (hl : l.length ≤ 1048576) (hw : ∀ x ∈ l, x.length ≤ 1048576) {n : Nat} (hn : n ≤ 1048576) : ∀ (r : List (List Int)) (i : Nat), l.drop i = r →
    Tot (fun k => impl_ValidRanks.l0 k n l l.length i) (fun t => t = decide (∀ x ∈ r, x.length = n ∧ DB x n)) := by
  intro r
  induction r with
  | nil =>
    intro i h
    have := drop_nil h
    exact Tot.step (fun _ => impl_ValidRanks.l0.eq_2 ..) (Tot.neg (by omega) (Tot.now (by simp)))
  | cons x r ih =>
    intro i h
    obtain ⟨h1, h2, h3⟩ := drop_cons h
    have hx := hw x (List.mem_of_getElem? h3)
    refine Tot.step (fun _ => impl_ValidRanks.l0.eq_2 ..) ?_
    rw [rd1_at' h3, w64s (by omega)]
    refine Tot.pos (by omega) (Tot.pos (by omega) (Tot.pos (by omega) (Tot.ite (fun h4 => ?_) (fun h4 => Tot.now (dfalse fun h5 => h4 (by have := (h5 x (by simp)).1; omega))))))
    refine Tot.bind (differentBelow_tot (by omega) (by omega) (by omega)) ?_
    rintro _ rfl
    refine Tot.ite (fun h5 => (ih (i + 1) h2).mono ?_) (fun h5 => Tot.now (dfalse fun h6 => h5 (decide_eq_true (h6 x (by simp)).2)))
    rintro t rfl
    rw [decide_eq_decide]
    simp only [List.mem_cons, forall_eq_or_imp]
    exact ⟨fun h => ⟨⟨by omega, of_decide_eq_true h5⟩, h⟩, fun h => h.2⟩
theorem implRanks_tot {l : List (List Int)} (hl : l.length ≤ 1048576) (hw : ∀ x ∈ l, x.length ≤ 1048576) : Tot (fun k => impl_ValidRanks.f k l) (fun t => t = decide (RK l)) := by
  unfold impl_ValidRanks.f
  have h0 := rd1_len hw
  have bad : ¬ RK l → Tot (fun k => impl_ValidRanks.j0 k l true) (fun t => t = decide (RK l)) := fun h =>
    Tot.step (fun _ => impl_ValidRanks.j0.eq_2 ..) (Tot.pos rfl (Tot.now (dfalse h)))
  have bad2 : ¬ RK l → Tot (fun k => impl_ValidRanks.j1 k l (rd_L2 l 0).length true) (fun t => t = decide (RK l)) := fun h =>
    Tot.step (fun _ => impl_ValidRanks.j1.eq_2 ..) (Tot.pos rfl (Tot.now (dfalse h)))
  refine Tot.ite (fun h1 => bad fun h => by have := h.1; omega) (fun h1 => ?_)
  by_cases h2 : (l.length : Int) > 12
  · rw [decide_eq_true h2]; exact bad fun h => by have := h.1; omega
  rw [decide_eq_false h2]
  refine Tot.step (fun _ => impl_ValidRanks.j0.eq_2 ..) (Tot.neg (by decide) (Tot.pos (by omega) (Tot.ite (fun h3 => bad2 fun h => by have := h.2.1; omega) (fun h3 => ?_))))
  by_cases h4 : ((rd_L2 l 0).length : Int) > 6
  · rw [decide_eq_true h4]; exact bad2 fun h => by have := h.2.1; omega
  rw [decide_eq_false h4]
  refine Tot.step (fun _ => impl_ValidRanks.j1.eq_2 ..) (Tot.neg (by decide) ((implRanks_l0 hl hw h0 l 0 rfl).mono ?_))
  rintro t rfl
  rw [decide_eq_decide]
  exact ⟨fun h => ⟨by omega, by omega, h⟩, fun h => h.2.2⟩
theorem backwards_l0 {xs : List Int} (hl : xs.length ≤ 1000000000000) : ∀ (i : Nat) (out : List Int), i ≤ xs.length → out.length + i ≤ 1000000000000 →
    Tot (fun k => laws_backwards.l0 k xs out ((i : Int) - 1)) (fun t => t = out ++ (xs.take i).reverse) := by
  intro i
  induction i with
  | zero =>
    intro out h ho
    exact Tot.step (fun _ => laws_backwards.l0.eq_2 ..) (Tot.neg (by omega) (Tot.now (by simp)))
  | succ i ih =>
    intro out h ho
    refine Tot.step (fun _ => laws_backwards.l0.eq_2 ..) ?_
    have e : ((i + 1 : Nat) : Int) - 1 = (i : Int) := by omega
    rw [e, w64 (x := (i : Int) - 1) (by omega) (by omega), rd_get (i := i) (by omega)]
    refine Tot.pos (by omega) (Tot.pos (by omega) (Tot.pos (by omega) (Tot.pos (by omega) ?_)))
    refine (ih _ (by omega) (by simp; omega)).mono ?_
    rintro t rfl
    rw [List.take_succ_eq_append_getElem (show i < xs.length by omega), List.reverse_append, List.append_assoc]
    rfl
theorem backwards_tot {xs : List Int} (hl : xs.length ≤ 100000000000) : Tot (fun k => laws_backwards.f k xs) (fun t => t = xs.reverse) := by
  unfold laws_backwards.f
  rw [w64 (x := (xs.length : Int) - 1) (by omega) (by omega)]
  refine (backwards_l0 (by omega) xs.length [] (Nat.le_refl _) (by simp; omega)).mono ?_
  rintro t rfl
  simp
theorem Tot.bindv {α β : Type} {g : Nat → Option α} {F : Nat → α → Option β} {v : α} {Q : β → Prop} (h : Tot g (fun t => t = v)) (h2 : Tot (fun k => F k v) Q) : Tot (fun k => (g k).bind (F k)) Q :=
  Tot.bind h (fun a ha => by rw [ha]; exact h2)
theorem RK_of {m : Nat} {l : List (List Int)} (h1 : 1 ≤ l.length) (h2 : l.length ≤ 12) (hm : 1 ≤ m ∧ m ≤ 6) (h : ∀ x ∈ l, x.length = m ∧ DB x m) : RK l := by
  have e : (rd_L2 l 0).length = m := by
    cases l with
    | nil => simp at h1
    | cons x r => exact (h x (by simp)).1
  refine ⟨by omega, by rw [e]; omega, ?_⟩
  rw [e]; exact h
theorem lawLoop {l : List (List Int)} {m : Nat} (hl : 1 ≤ l.length ∧ l.length ≤ 8) (hm : 1 ≤ m ∧ m ≤ 6) (hr : ∀ x ∈ l, x.length = m ∧ DB x m) : ∀ (r : List (List Int)) (i : Nat), l.drop i = r →
    Tot (fun k => laws_FnValidRanks.l0 k l ((l.take i).map List.reverse) i) (fun t => t = true) := by
  intro r
  induction r with
  | nil =>
    intro i h
    have := drop_nil h
    refine Tot.step (fun _ => laws_FnValidRanks.l0.eq_2 ..) (Tot.neg (by omega) ?_)
    rw [List.take_of_length_le this]
    have hb : ∀ x ∈ l.map List.reverse, x.length = m ∧ DB x m := by
      intro x hx
      rw [List.mem_map] at hx
      obtain ⟨y, hy, rfl⟩ := hx
      have h2 := hr y hy
      exact ⟨by rw [List.length_reverse]; exact h2.1, fun z hz => h2.2.1 z (List.mem_reverse.1 hz), List.pairwise_reverse.2 (h2.2.2.imp (fun h => Ne.symm h))⟩
    have hk : RK (l.map List.reverse) := RK_of (by rw [List.length_map]; omega) (by rw [List.length_map]; omega) hm hb
    refine Tot.bindv (implRanks_tot (by rw [List.length_map]; omega) (fun x hx => by have := (hb x hx).1; omega)) (Tot.now ?_)
    exact decide_eq_true hk
  | cons x r ih =>
    intro i h
    obtain ⟨h1, h2, h3⟩ := drop_cons h
    have hx := hr x (List.mem_of_getElem? h3)
    have hlen : ((l.take i).map List.reverse).length < 5864062014805 := by rw [List.length_map, List.length_take]; omega
    have en : (l.take i).map List.reverse ++ [x.reverse] = (l.take (i + 1)).map List.reverse := by
      rw [List.take_add_one, h3]; simp
    refine Tot.step (fun _ => laws_FnValidRanks.l0.eq_2 ..) ?_
    rw [rd1_at' h3, w64s (by omega)]
    refine Tot.pos (by omega) (Tot.pos (by omega) (Tot.bindv (backwards_tot (by omega)) (Tot.pos hlen (Tot.known ?_))))
    rw [en]
    refine Tot.ite (fun g => ?_) (fun g => ih (i + 1) h2)
    rw [Int.toNat_natCast, Int.toNat_natCast]
    refine Tot.known (Tot.pos (by omega) (Tot.known (Tot.pos (by rw [List.length_take]; simp; omega) (Tot.known (Tot.pos (by omega) (Tot.pos (by omega) (Tot.known (Tot.pos (by simp; omega) ?_))))))))
    have hlen2 : ([] ++ l.take i ++ l.drop (i + 1)).length + 1 = l.length := by simp; omega
    have hin : ∀ y ∈ [] ++ l.take i ++ l.drop (i + 1), y ∈ l := by
      intro y hy
      rw [List.nil_append] at hy
      rcases List.mem_append.1 hy with hy | hy
      · exact List.mem_of_mem_take hy
      · exact List.mem_of_mem_drop hy
    have hk : RK ([] ++ l.take i ++ l.drop (i + 1)) := RK_of (by omega) (by omega) hm (fun y hy => hr y (hin y hy))
    refine Tot.bindv (implRanks_tot (by omega) (fun y hy => by have := (hr y (hin y hy)).1; omega)) (Tot.pos (decide_eq_true hk) (ih (i + 1) h2))
theorem FnValidRanks : laws_FnValidRanks.Pure := by
  intro l hl hl2 hw
  refine Tot.ends (g := fun k => laws_FnValidRanks.f k l) ?_
  unfold laws_FnValidRanks.f spec_DrawValidRanks.f
  refine Tot.ite (fun _ => Tot.now rfl) (fun _ => ?_)
  obtain ⟨b, hb, hb2, hb3⟩ := newReader_tot hw
  rw [hb]
  refine Tot.bind (P := fun t : List (List Int) => Small t) (Tot.known (Tot.bind (anyRanks_tot hb3 (Int.le_refl _) (by omega)) ?_)) ?_
  · rintro ⟨t, p⟩ ⟨h1, h2, h3⟩
    exact Tot.now h1
  intro t ht
  have hl3 : t.length ≤ 1048576 := by have := ht.1; omega
  have hx3 : ∀ z ∈ t, z.length ≤ 1048576 := fun z hz => by have := ht.2 z hz; omega
  have hs : Tot (fun k => spec_ValidRanks.f k t) (fun r => r = decide (RK t)) := by
    unfold spec_ValidRanks.f
    exact Tot.bindv (specRanks_tot hl3 hx3) (Tot.now rfl)
  refine Tot.bindv (implRanks_tot hl3 hx3) (Tot.bindv hs (Tot.neg (by simp) (Tot.step (fun _ => laws_FnValidRanks.j0.eq_2 ..) ?_)))
  refine Tot.ite (fun h1 => Tot.bindv hs (Tot.now (by simp))) (fun h1 => ?_)
  have h : RK t := by
    rcases Classical.em (RK t) with h2 | h2
    · exact h2
    · exact absurd (by simp [h2]) h1
  exact lawLoop (m := (rd_L2 t 0).length) ⟨by have := h.1; omega, ht.1⟩ (by have := h.2.1; omega) h.2.2 t 0 rfl
end Go.Proofs.Ytdcapmgebjifpaa.Pure
