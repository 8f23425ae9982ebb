/- FnHonest: for every code, a reveal is Honest exactly if CommitTo its Value and Salt is its Commit. No condition beyond the statement's own. -/
import Derived.Test.YtdcapmgebjifpaaQFnHonestx3
import Derived.Test.YtdcapmgebjifpaaCore
namespace Go.Proofs.Ytdcapmgebjifpaa.Pure
open Go.RowKit Go.Proofs.Ytdcapmgebjifpaa.PFnHonest Go.Proofs.YtdcapmgebjifpaaW.PrintWords
set_option linter.unusedSimpArgs false
set_option linter.unusedVariables false

/-! the reader -/
theorem pick_tot {b : List Int} (hb : ∀ x ∈ b, 0 ≤ x ∧ x < 256) {p n : Int} (hp : 0 ≤ p) (hp2 : p ≤ 1000000000) (hn : n ≤ 1000000000000) :
    Tot (fun k => spec_reader_pick.f k b p n) (fun r => r.2 = p + 1 ∧ 0 ≤ r.1 ∧ (r.1 < n ∨ r.1 = 0)) := by
  have e1 : wrap64 (p + 1) = p + 1 := w64 (by omega) (by omega)
  have e2 : wrap64 (p + 1 - 1) = p := by rw [w64 (by omega) (by omega)]; omega
  have main : ∀ t : Bool, (t = false → 1 ≤ n ∧ b.length ≠ 0) → Tot (fun k => spec_reader_pick.j0 k n t b (p + 1)) (fun r => r.2 = p + 1 ∧ 0 ≤ r.1 ∧ (r.1 < n ∨ r.1 = 0)) := by
    intro t ht
    refine Tot.step (fun _ => spec_reader_pick.j0.eq_2 ..) ?_
    simp only [e2]
    cases t with
    | true => exact Tot.pos rfl (Tot.now ⟨rfl, Int.le_refl _, .inr rfl⟩)
    | false =>
      obtain ⟨hn1, hne⟩ := ht rfl
      refine Tot.neg (by simp) ?_
      by_cases hlt : p < (b.length : Int)
      · refine Tot.pos hlt (Tot.pos hp (Tot.neg (by omega) ?_))
        have hr := hb _ (rd_mem hp hlt)
        rw [w64 (x := rd b p) (by omega) (by omega), tmod_nn hr.1]
        exact Tot.now ⟨rfl, Int.emod_nonneg _ (by omega), .inl (Int.emod_lt_of_pos _ (by omega))⟩
      · refine Tot.neg hlt (Tot.neg (by omega) ?_)
        have hlen : 0 < (b.length : Int) := by omega
        have i1 : 0 ≤ Int.tmod p b.length ∧ Int.tmod p b.length < b.length := by
          rw [tmod_nn hp]; exact ⟨Int.emod_nonneg _ (by omega), Int.emod_lt_of_pos _ hlen⟩
        have e3 : wrap64 (wrap64 (p * 7) + 3) = p * 7 + 3 := by
          rw [w64 (x := p * 7) (by omega) (by omega)]; exact w64 (by omega) (by omega)
        rw [e3]
        have i2 : 0 ≤ Int.tmod (p * 7 + 3) b.length ∧ Int.tmod (p * 7 + 3) b.length < b.length := by
          rw [tmod_nn (by omega)]; exact ⟨Int.emod_nonneg _ (by omega), Int.emod_lt_of_pos _ hlen⟩
        refine Tot.pos i1.1 (Tot.pos i1.2 (Tot.pos i2.1 (Tot.pos i2.2 (Tot.neg (by omega) ?_))))
        have hu := hb _ (rd_mem i1.1 i1.2)
        have hv := hb _ (rd_mem i2.1 i2.2)
        have hq : 0 ≤ Int.tdiv p b.length ∧ Int.tdiv p b.length ≤ p := by
          rw [tdiv_nn hp]
          exact ⟨Int.ediv_nonneg hp (by omega), Int.ediv_le_self _ hp⟩
        generalize rd b (Int.tmod p b.length) = u at hu ⊢
        generalize rd b (Int.tmod (p * 7 + 3) b.length) = v at hv ⊢
        generalize Int.tdiv p b.length = q at hq ⊢
        rw [w64 (x := u) (by omega) (by omega), w64 (x := v) (by omega) (by omega), w64 (x := q) (by omega) (by omega), w64 (x := u * 131) (by omega) (by omega), w64 (x := v * 1117) (by omega) (by omega), w64 (x := p * 29) (by omega) (by omega), w64 (x := q * 53) (by omega) (by omega),
          w64 (x := u * 131 + v * 1117) (by omega) (by omega), w64 (x := u * 131 + v * 1117 + p * 29) (by omega) (by omega), w64 (x := u * 131 + v * 1117 + p * 29 + q * 53) (by omega) (by omega)]
        have hx : 0 ≤ u * 131 + v * 1117 + p * 29 + q * 53 ∧ u * 131 + v * 1117 + p * 29 + q * 53 < 4611686018427387904 := by omega
        generalize u * 131 + v * 1117 + p * 29 + q * 53 = x at hx ⊢
        rw [tdiv_nn hx.1, w64 (x := x / 64) (by omega) (by omega)]
        have hz := xor_nn hx.1 hx.2 (b := x / 64) (by omega) (by omega)
        rw [tmod_nn hz]
        exact Tot.now ⟨rfl, Int.emod_nonneg _ (by omega), .inl (Int.emod_lt_of_pos _ (by omega))⟩
  unfold spec_reader_pick.f
  rw [e1]
  refine Tot.ite (fun _ => main true (fun h => by cases h)) (fun h => main _ (fun h2 => ⟨by omega, fun h3 => ?_⟩))
  rw [h3] at h2
  simp at h2
theorem one_tot {b : List Int} (hb : ∀ x ∈ b, 0 ≤ x ∧ x < 256) {p : Int} (hp : 0 ≤ p) (hp2 : p ≤ 1000000000) {l : List Int} (hl : 0 < l.length) (hl2 : l.length ≤ 1000) :
    Tot (fun k => spec_reader_one.f k b p l) (fun r => r.2 = p + 1 ∧ r.1 ∈ l) := by
  unfold spec_reader_one.f
  refine Tot.bind (pick_tot hb hp hp2 (by omega)) ?_
  rintro ⟨v, q⟩ ⟨h1, h2, h3⟩
  simp only at h1 h2 h3 ⊢
  have h4 : v < (l.length : Int) := by omega
  exact Tot.pos h2 (Tot.pos h4 (Tot.now ⟨h1, rd_mem h2 h4⟩))
theorem newReader_tot {l : List Int} (h : ∀ x ∈ l, (Lit.int .u8 x).wf = true) : ∃ b, spec_newReader.f l = some (b, 0) ∧ b.length ≤ 2000 ∧ ∀ x ∈ b, 0 ≤ x ∧ x < 256 := by
  unfold spec_newReader.f
  by_cases h1 : (l.length : Int) > 2000
  · rw [if_pos h1, if_pos (by omega)]
    exact ⟨_, rfl, by simp; omega, fun x hx => wf_u8 (h x (List.mem_of_mem_take hx))⟩
  · rw [if_neg h1]
    exact ⟨_, rfl, by omega, fun x hx => wf_u8 (h x hx)⟩
theorem inRange_eq (a b c : Int) : spec_inRange.f a b c = some (decide (b ≤ a ∧ a ≤ c)) := by
  unfold spec_inRange.f
  by_cases h : b ≤ a
  · rw [if_pos h]; simp [h]
  · rw [if_neg h]; simp [h]
/-! reveals -/
abbrev Rv := S79
def rdRv (l : List Rv) (i : Int) : Rv := rd_T79 l i
def okR (r : Rv) : Prop := (0 ≤ r.f1 ∧ r.f1 ≤ 50000) ∧ (0 ≤ r.f2 ∧ r.f2 ≤ 9999)
instance (r : Rv) : Decidable (okR r) := inferInstanceAs (Decidable ((0 ≤ r.f1 ∧ r.f1 ≤ 50000) ∧ (0 ≤ r.f2 ∧ r.f2 ≤ 9999)))
def RV (l : List Rv) : Prop := l.length ≤ 12 ∧ ∀ r ∈ l, okR r
instance (l : List Rv) : Decidable (RV l) := inferInstanceAs (Decidable (l.length ≤ 12 ∧ ∀ r ∈ l, okR r))
def com (v s : Int) : Int := (v * 7919 + s * s + s) % 99991
def hon (r : Rv) : Bool := com r.f1 r.f2 == r.f0
def hsum : List Rv → Int
  | [] => 0
  | r :: l => (if hon r then r.f1 else 0) + hsum l
def hidx : List Rv → Nat → List Int
  | [], _ => []
  | r :: l, i => if hon r then (i : Int) :: hidx l (i + 1) else hidx l (i + 1)
theorem rdRv_at {l : List Rv} {i : Nat} {r : Rv} (h : l[i]? = some r) : rd_T79 l (i : Int) = r := by
  simp [rd_T79, List.getD_eq_getElem?_getD, h]
theorem sq_le {s : Int} (h0 : 0 ≤ s) (h1 : s ≤ 9999) : 0 ≤ s * s ∧ s * s ≤ 99980001 := by
  refine ⟨Int.mul_nonneg h0 h0, ?_⟩
  have := Int.mul_le_mul h1 h1 h0 (by omega)
  omega
theorem com_range {v s : Int} : 0 ≤ com v s ∧ com v s < 99991 := by
  unfold com; omega
theorem commitV {v s : Int} (hv : 0 ≤ v) (hv2 : v ≤ 50000) (hs : 0 ≤ s) (hs2 : s ≤ 9999) : Int.tmod (wrap64 ((wrap64 ((wrap64 (v * 7919)) + (wrap64 (s * s)))) + s)) 99991 = com v s := by
  have h := sq_le hs hs2
  unfold com
  generalize s * s = q at h ⊢
  rw [w64 (x := v * 7919) (by omega) (by omega), w64 (x := q) (by omega) (by omega), w64 (x := v * 7919 + q) (by omega) (by omega), w64 (x := v * 7919 + q + s) (by omega) (by omega), tmod_nn (by omega)]
theorem specCommit_eq {v s : Int} (hv : 0 ≤ v) (hv2 : v ≤ 50000) (hs : 0 ≤ s) (hs2 : s ≤ 9999) : spec_commit.f v s = some (com v s) := by
  unfold spec_commit.f
  rw [commitV hv hv2 hs hs2]
theorem implCommit_eq (v s : Int) : impl_CommitTo.f v s = some (if (0 ≤ v ∧ v ≤ 50000) ∧ (0 ≤ s ∧ s ≤ 9999) then com v s else -1) := by
  unfold impl_CommitTo.f
  by_cases h1 : v < 0
  · rw [if_pos h1, if_neg (by omega)]
  by_cases h2 : v > 50000
  · rw [if_neg h1, if_pos h2, if_neg (by omega)]
  by_cases h3 : s < 0
  · rw [if_neg h1, if_neg h2, if_pos h3, if_neg (by omega)]
  by_cases h4 : s > 9999
  · rw [if_neg h1, if_neg h2, if_neg h3, if_pos h4, if_neg (by omega)]
  rw [if_neg h1, if_neg h2, if_neg h3, if_neg h4, if_pos (by omega), commitV (by omega) (by omega) (by omega) (by omega)]
theorem implValidReveals_l0 {l : List Rv} (hl : l.length ≤ 1000000000) : ∀ (r : List Rv) (i : Nat), l.drop i = r →
    Tot (fun k => impl_validReveals.l0 k l l.length i) (fun t => t = decide (∀ x ∈ r, okR x)) := by
  intro r
  induction r with
  | nil =>
    intro i h
    have := drop_nil h
    exact Tot.step (fun _ => impl_validReveals.l0.eq_2 ..) (Tot.neg (by omega) (Tot.now (by simp)))
  | cons x r ih =>
    intro i h
    obtain ⟨h1, h2, h3⟩ := drop_cons h
    refine Tot.step (fun _ => impl_validReveals.l0.eq_2 ..) ?_
    rw [rdRv_at h3, w64s (by omega), implCommit_eq]
    simp only [Option.bind_some]
    have hc := com_range (v := x.f1) (s := x.f2)
    refine Tot.pos (by omega) (Tot.pos (by omega) (Tot.pos (by omega) ?_))
    by_cases hx : okR x
    · unfold okR at hx
      rw [if_pos hx]
      refine Tot.neg (by omega) ((ih (i + 1) h2).mono ?_)
      rintro t rfl
      rw [decide_eq_decide]
      simp only [List.mem_cons, forall_eq_or_imp]
      exact ⟨fun h => ⟨hx, h⟩, fun h => h.2⟩
    · unfold okR at hx
      rw [if_neg hx]
      refine Tot.pos (by omega) (Tot.now ?_)
      symm
      rw [decide_eq_false_iff_not]
      exact fun h => hx (h x (by simp))
theorem implValidReveals_tot {l : List Rv} (hl : l.length ≤ 1000000000) : Tot (fun k => impl_validReveals.f k l) (fun t => t = decide (RV l)) := by
  unfold impl_validReveals.f
  refine Tot.ite (fun h => Tot.now ?_) (fun h => ?_)
  · symm
    rw [decide_eq_false_iff_not]
    rintro ⟨h2, _⟩
    omega
  · refine (implValidReveals_l0 hl l 0 rfl).mono ?_
    rintro t rfl
    rw [decide_eq_decide]
    exact ⟨fun h2 => ⟨by omega, h2⟩, fun h2 => h2.2⟩
theorem implHonest_l0 {l : List Rv} (hl : l.length ≤ 1000000000) (hR : ∀ r ∈ l, okR r) : ∀ (r : List Rv) (i : Nat) (out : List Int), l.drop i = r → out.length ≤ i →
    Tot (fun k => impl_Honest.l0 k out l l.length i) (fun t => t = out ++ hidx r i) := by
  intro r
  induction r with
  | nil =>
    intro i out h ho
    have := drop_nil h
    exact Tot.step (fun _ => impl_Honest.l0.eq_2 ..) (Tot.neg (by omega) (Tot.now (by simp [hidx])))
  | cons x r ih =>
    intro i out h ho
    obtain ⟨h1, h2, h3⟩ := drop_cons h
    refine Tot.step (fun _ => impl_Honest.l0.eq_2 ..) ?_
    have hx := hR x (List.mem_of_getElem? h3)
    unfold okR at hx
    rw [rdRv_at h3, w64s (by omega), implCommit_eq, if_pos hx]
    simp only [Option.bind_some]
    refine Tot.pos (by omega) (Tot.pos (by omega) (Tot.pos (by omega) (Tot.ite (fun hc => Tot.pos (by omega) ?_) (fun hc => ?_))))
    · refine (ih (i + 1) _ h2 (by simp; omega)).mono ?_
      rintro t rfl
      simp [hidx, hon, hc]
    · refine (ih (i + 1) _ h2 (by omega)).mono ?_
      rintro t rfl
      simp [hidx, hon, hc]
theorem implHonest_tot {l : List Rv} (hl : l.length ≤ 1000000000) : Tot (fun k => impl_Honest.f k l) (fun t => t = if RV l then hidx l 0 else []) := by
  unfold impl_Honest.f
  refine Tot.bind (implValidReveals_tot hl) ?_
  rintro t rfl
  simp only [decide_eq_true_eq]
  refine Tot.ite (fun h => ?_) (fun h => ?_)
  · rw [if_pos h]
    exact implHonest_l0 hl h.2 l 0 [] rfl (Nat.le_refl _)
  · rw [if_neg h]; exact Tot.now rfl
theorem hsum_range : ∀ {l : List Rv}, (∀ r ∈ l, okR r) → 0 ≤ hsum l ∧ hsum l ≤ 50000 * l.length := by
  intro l
  induction l with
  | nil => intro _; simp [hsum]
  | cons x r ih =>
    intro h
    have h1 := ih (fun y hy => h y (List.mem_cons_of_mem _ hy))
    have h2 := h x (by simp)
    unfold okR at h2
    simp only [hsum, List.length_cons]
    split <;> omega
theorem hidx_mem {l : List Rv} : ∀ {r : List Rv} {i : Nat}, l.drop i = r → ∀ x ∈ hidx r i, 0 ≤ x ∧ x < l.length := by
  intro r
  induction r with
  | nil => intro i _ x hx; simp [hidx] at hx
  | cons y r ih =>
    intro i h x hx
    obtain ⟨h1, h2, h3⟩ := drop_cons h
    rw [hidx] at hx
    split at hx
    · rcases List.mem_cons.1 hx with rfl | hx
      · omega
      · exact ih h2 x hx
    · exact ih h2 x hx
theorem hidx_len : ∀ {r : List Rv} {i : Nat}, (hidx r i).length ≤ r.length := by
  intro r
  induction r with
  | nil => intro i; simp [hidx]
  | cons y r ih =>
    intro i
    have := ih (i := i + 1)
    rw [hidx]
    split <;> simp <;> omega
theorem specCommit_some (v s : Int) : ∃ c, spec_commit.f v s = some c := ⟨_, rfl⟩
theorem someReveals_l0 {b : List Int} (hb : ∀ x ∈ b, 0 ≤ x ∧ x < 256) : ∀ (d : Nat) (out : List Rv) (p : Int), 0 ≤ p → p + 20 * d ≤ 100000000 → out.length + d ≤ 1000 →
    Tot (fun k => spec_someReveals.l0 k out d b p) (fun r => r.1.length = out.length + d ∧ p ≤ r.2 ∧ r.2 ≤ p + 20 * d + 20) := by
  intro d
  induction d with
  | zero =>
    intro out p hp hp2 ho
    refine Tot.step (fun _ => spec_someReveals.l0.eq_2 ..) (Tot.neg (by omega) ?_)
    refine Tot.ite (fun h => ?_) (fun h => Tot.now ⟨by simp, by simp, by simp; omega⟩)
    refine Tot.bind (pick_tot hb hp (by omega) (by omega)) ?_
    rintro ⟨v, q⟩ ⟨h1, h2, h3⟩
    simp only at h1 h2 h3 ⊢
    refine Tot.ite (fun h4 => ?_) (fun h4 => Tot.now ⟨by simp, by simp only; omega, by simp only; omega⟩)
    refine Tot.bind (one_tot hb (by omega) (by omega) (by simp) (by simp)) ?_
    rintro ⟨v2, q2⟩ ⟨h5, h6⟩
    simp only at h5 h6 ⊢
    exact Tot.pos (by omega) (Tot.now ⟨by simp, by simp only; omega, by simp only; omega⟩)
  | succ d ih =>
    intro out p hp hp2 ho
    refine Tot.step (fun _ => spec_someReveals.l0.eq_2 ..) (Tot.pos (by omega) ?_)
    have e : wrap64 (((d + 1 : Nat) : Int) - 1) = (d : Int) := by rw [w64 (by omega) (by omega)]; omega
    rw [e]
    refine Tot.bind (pick_tot hb hp (by omega) (by omega)) ?_
    rintro ⟨v, q⟩ ⟨h1, h2, h3⟩
    simp only at h1 h2 h3 ⊢
    refine Tot.bind (pick_tot hb (by omega) (by omega) (by omega)) ?_
    rintro ⟨v2, q2⟩ ⟨g1, g2, g3⟩
    simp only at g1 g2 g3 ⊢
    refine Tot.bind (one_tot hb (by omega) (by omega) (by simp) (by simp)) ?_
    rintro ⟨v3, q3⟩ ⟨f1, f2⟩
    simp only at f1 ⊢
    clear f2
    refine Tot.bind (pick_tot hb (by omega) (by omega) (by omega)) ?_
    rintro ⟨v4, q4⟩ ⟨e1, e2, e3⟩
    simp only at e1 e2 e3 ⊢
    obtain ⟨c, hc⟩ := specCommit_some v3 v4
    rw [hc]
    simp only [Option.bind_some]
    refine Tot.bind (pick_tot hb (by omega) (by omega) (by omega)) ?_
    rintro ⟨v5, q5⟩ ⟨d1, d2, d3⟩
    simp only at d1 d2 d3 ⊢
    refine Tot.ite (fun h4 => ?_) (fun h4 => ?_)
    · refine Tot.bind (pick_tot hb (by omega) (by omega) (by omega)) ?_
      rintro ⟨v6, q6⟩ ⟨c1, c2, c3⟩
      simp only at c1 c2 c3 ⊢
      refine Tot.pos (by omega) ((ih _ q6 (by omega) (by omega) (by simp; omega)).mono ?_)
      rintro r ⟨b1, b2, b3⟩
      refine ⟨by simp at b1; omega, by omega, by omega⟩
    · refine Tot.pos (by omega) ((ih _ q5 (by omega) (by omega) (by simp; omega)).mono ?_)
      rintro r ⟨b1, b2, b3⟩
      refine ⟨by simp at b1; omega, by omega, by omega⟩
theorem someReveals_tot {b : List Int} (hb : ∀ x ∈ b, 0 ≤ x ∧ x < 256) {p : Int} (hp : 0 ≤ p) (hp2 : p ≤ 1000000) :
    Tot (fun k => spec_someReveals.f k b p) (fun r => r.1.length ≤ 6 ∧ p ≤ r.2 ∧ r.2 ≤ p + 200) := by
  unfold spec_someReveals.f
  refine Tot.bind (one_tot hb hp (by omega) (by simp) (by simp)) ?_
  rintro ⟨n, q⟩ ⟨h1, h2⟩
  simp only [List.mem_cons, List.not_mem_nil, or_false] at h1 h2 ⊢
  obtain ⟨m, rfl⟩ := Int.eq_ofNat_of_zero_le (a := n) (by omega)
  refine (someReveals_l0 hb m [] q (by omega) (by omega) (by simp; omega)).mono ?_
  rintro r ⟨b1, b2, b3⟩
  refine ⟨by simp at b1; omega, by omega, by omega⟩
theorem specValidReveals_l0 {l : List Rv} (hl : l.length ≤ 1000000000) : ∀ (r : List Rv) (i : Nat), l.drop i = r →
    Tot (fun k => spec_validReveals.l0 k l i) (fun t => t = decide (l.length ≤ 12 ∧ ∀ x ∈ r, okR x)) := by
  intro r
  induction r with
  | nil =>
    intro i h
    have := drop_nil h
    refine Tot.step (fun _ => spec_validReveals.l0.eq_2 ..) (Tot.neg (by omega) (Tot.now ?_))
    rw [decide_eq_decide]
    simp
    omega
  | cons x r ih =>
    intro i h
    obtain ⟨h1, h2, h3⟩ := drop_cons h
    refine Tot.step (fun _ => spec_validReveals.l0.eq_2 ..) ?_
    rw [rdRv_at h3, w64s (by omega), inRange_eq, inRange_eq]
    simp only [Option.bind_some, decide_eq_true_eq]
    refine Tot.pos (by omega) (Tot.pos (by omega) (Tot.ite (fun h4 => Tot.ite (fun h5 => ?_) (fun h5 => Tot.now ?_)) (fun h4 => Tot.now ?_)))
    · refine (ih (i + 1) h2).mono ?_
      rintro t rfl
      rw [decide_eq_decide]
      simp only [List.mem_cons, forall_eq_or_imp]
      exact ⟨fun h => ⟨h.1, ⟨h4, h5⟩, h.2⟩, fun h => ⟨h.1, h.2.2⟩⟩
    · symm
      rw [decide_eq_false_iff_not]
      exact fun h => h5 (h.2 x (by simp)).2
    · symm
      rw [decide_eq_false_iff_not]
      exact fun h => h4 (h.2 x (by simp)).1
theorem specValidReveals_tot {l : List Rv} (hl : l.length ≤ 1000000000) : Tot (fun k => spec_validReveals.f k l) (fun t => t = decide (RV l)) := by
  unfold spec_validReveals.f
  exact specValidReveals_l0 hl l 0 rfl
theorem specHonest_l0 {l : List Rv} (hl : l.length ≤ 1000000000) (hR : ∀ r ∈ l, okR r) : ∀ (r : List Rv) (i : Nat) (out : List Int), l.drop i = r → out.length ≤ i →
    Tot (fun k => spec_Honest.l0 k l out i) (fun t => t = out ++ hidx r i) := by
  intro r
  induction r with
  | nil =>
    intro i out h ho
    have := drop_nil h
    exact Tot.step (fun _ => spec_Honest.l0.eq_2 ..) (Tot.neg (by omega) (Tot.now (by simp [hidx])))
  | cons x r ih =>
    intro i out h ho
    obtain ⟨h1, h2, h3⟩ := drop_cons h
    refine Tot.step (fun _ => spec_Honest.l0.eq_2 ..) ?_
    have hx := hR x (List.mem_of_getElem? h3)
    unfold okR at hx
    rw [rdRv_at h3, w64s (by omega), specCommit_eq hx.1.1 hx.1.2 hx.2.1 hx.2.2]
    simp only [Option.bind_some]
    refine Tot.pos (by omega) (Tot.pos (by omega) (Tot.ite (fun hc => Tot.pos (by omega) ?_) (fun hc => ?_)))
    · refine (ih (i + 1) _ h2 (by simp; omega)).mono ?_
      rintro t rfl
      simp [hidx, hon, hc]
    · refine (ih (i + 1) _ h2 (by omega)).mono ?_
      rintro t rfl
      simp [hidx, hon, hc]
theorem specHonest_tot {l : List Rv} (hl : l.length ≤ 1000000000) : Tot (fun k => spec_Honest.f k l) (fun t => t = if RV l then hidx l 0 else []) := by
  unfold spec_Honest.f
  refine Tot.bind (specValidReveals_tot hl) ?_
  rintro t rfl
  simp only [decide_eq_true_eq]
  refine Tot.ite (fun h => ?_) (fun h => ?_)
  · rw [if_pos h]
    exact specHonest_l0 hl h.2 l 0 [] rfl (Nat.le_refl _)
  · rw [if_neg h]; exact Tot.now rfl
theorem equalInts_l0 {a b : List Int} (hl : a.length = b.length) (ha : a.length ≤ 1000000000000) : ∀ (r s : List Int) (i : Nat), a.drop i = r → b.drop i = s →
    Tot (fun k => laws_equalInts.l0 k a b i) (fun t => t = decide (r = s)) := by
  intro r
  induction r with
  | nil =>
    intro s i h h2
    have h3 := drop_nil h
    have h4 : s = [] := by rw [← h2]; exact List.drop_eq_nil_of_le (by omega)
    exact Tot.step (fun _ => laws_equalInts.l0.eq_2 ..) (Tot.neg (by omega) (Tot.now (by simp [h4])))
  | cons x r ih =>
    intro s i h h2
    obtain ⟨h3, h4, h5⟩ := drop_cons h
    cases s with
    | nil => have := drop_nil h2; omega
    | cons y s =>
      obtain ⟨g3, g4, g5⟩ := drop_cons h2
      refine Tot.step (fun _ => laws_equalInts.l0.eq_2 ..) ?_
      rw [rd_at h5, rd_at g5, w64s (by omega)]
      refine Tot.pos (by omega) (Tot.pos (by omega) (Tot.pos (by omega) (Tot.ite (fun e => ?_) (fun e => Tot.now (by simp [e])))))
      refine (ih s (i + 1) h4 g4).mono ?_
      rintro t rfl
      simp [e]
theorem equalInts_tot {a b : List Int} (ha : a.length ≤ 1000000000000) : Tot (fun k => laws_equalInts.f k a b) (fun t => t = decide (a = b)) := by
  unfold laws_equalInts.f
  refine Tot.ite (fun h => ?_) (fun h => Tot.now ?_)
  · exact equalInts_l0 (by omega) ha a b 0 rfl rfl
  · symm
    rw [decide_eq_false_iff_not]
    rintro rfl
    exact h rfl
theorem isIn_l0 {xs : List Int} {v : Int} (hl : xs.length ≤ 1000000000000) : ∀ (r : List Int) (i : Nat), xs.drop i = r →
    Tot (fun k => laws_isIn.l0 k xs v i) (fun t => t = decide (v ∈ r)) := by
  intro r
  induction r with
  | nil =>
    intro i h
    have := drop_nil h
    exact Tot.step (fun _ => laws_isIn.l0.eq_2 ..) (Tot.neg (by omega) (Tot.now (by simp)))
  | cons x r ih =>
    intro i h
    obtain ⟨h1, h2, h3⟩ := drop_cons h
    refine Tot.step (fun _ => laws_isIn.l0.eq_2 ..) ?_
    rw [rd_at h3, w64s (by omega)]
    refine Tot.pos (by omega) (Tot.pos (by omega) (Tot.ite (fun h4 => Tot.now ?_) (fun h4 => (ih (i + 1) h2).mono ?_)))
    · simp [h4]
    · rintro t rfl
      have : v ≠ x := fun e => h4 e.symm
      simp [this]
theorem isIn_tot {xs : List Int} {v : Int} (hl : xs.length ≤ 1000000000000) : Tot (fun k => laws_isIn.f k xs v) (fun t => t = decide (v ∈ xs)) := by
  unfold laws_isIn.f
  exact isIn_l0 hl xs 0 rfl
def sumL : List Int → Int
  | [] => 0
  | x :: r => x + sumL r
theorem sumL_bound {l : List Int} (h : ∀ x ∈ l, 0 ≤ x ∧ x ≤ 1000000) : 0 ≤ sumL l ∧ sumL l ≤ 1000000 * l.length := by
  induction l with
  | nil => simp [sumL]
  | cons x r ih =>
    have h1 := ih (fun y hy => h y (List.mem_cons_of_mem _ hy))
    have h2 := h x (by simp)
    simp only [sumL, List.length_cons]
    omega
/-- A valid body. -/
def VB (ws : List Int) (need : Int) : Prop := (1 ≤ ws.length ∧ ws.length ≤ 12) ∧ (∀ w ∈ ws, 0 ≤ w ∧ w ≤ 100) ∧ 1 ≤ need ∧ need ≤ sumL ws
instance (ws : List Int) (need : Int) : Decidable (VB ws need) := inferInstanceAs (Decidable ((1 ≤ ws.length ∧ ws.length ≤ 12) ∧ (∀ w ∈ ws, 0 ≤ w ∧ w ≤ 100) ∧ 1 ≤ need ∧ need ≤ sumL ws))
theorem dfalse {p : Prop} {i : Decidable p} (h : ¬ p) : false = @decide p i := by
  symm; rw [decide_eq_false_iff_not]; exact h
theorem dtrue {p : Prop} {i : Decidable p} (h : p) : true = @decide p i := by
  symm; rw [decide_eq_true_iff]; exact h
theorem mem_hidx {l : List Rv} : ∀ {r : List Rv} {i : Nat} {j : Nat}, l.drop i = r → ((j : Int) ∈ hidx r i ↔ i ≤ j ∧ ∃ x, l[j]? = some x ∧ hon x = true) := by
  intro r
  induction r with
  | nil =>
    intro i j h
    have := drop_nil h
    simp only [hidx, List.not_mem_nil, false_iff]
    rintro ⟨h1, x, h2, _⟩
    have := (List.getElem?_eq_some_iff.1 h2).1
    omega
  | cons y r ih =>
    intro i j h
    obtain ⟨h1, h2, h3⟩ := drop_cons h
    have hr := ih (j := j) h2
    rw [hidx]
    by_cases hy : hon y = true
    · rw [if_pos hy, List.mem_cons, hr]
      constructor
      · rintro (h4 | ⟨h4, h5⟩)
        · have e : j = i := by omega
          exact ⟨by omega, y, by rw [e]; exact h3, hy⟩
        · exact ⟨by omega, h5⟩
      · rintro ⟨h4, h5⟩
        by_cases e : j = i
        · left; omega
        · right; exact ⟨by omega, h5⟩
    · rw [if_neg hy, hr]
      constructor
      · rintro ⟨h4, h5⟩
        exact ⟨by omega, h5⟩
      · rintro ⟨h4, x, h5, h6⟩
        refine ⟨?_, x, h5, h6⟩
        rcases Nat.lt_or_ge i j with h7 | h7
        · omega
        · have e : j = i := by omega
          rw [e, h3] at h5
          injection h5 with h5
          exact absurd (h5 ▸ h6) hy
theorem hidx_ge : ∀ {r : List Rv} {i : Nat}, ∀ x ∈ hidx r i, (i : Int) ≤ x := by
  intro r
  induction r with
  | nil => intro i x hx; simp [hidx] at hx
  | cons y r ih =>
    intro i x hx
    rw [hidx] at hx
    split at hx
    · rcases List.mem_cons.1 hx with rfl | hx
      · omega
      · have := ih x hx; omega
    · have := ih x hx; omega
theorem hidx_asc : ∀ {r : List Rv} {i : Nat}, (hidx r i).Pairwise (· < ·) := by
  intro r
  induction r with
  | nil => intro i; simp [hidx]
  | cons y r ih =>
    intro i
    rw [hidx]
    split
    · exact List.pairwise_cons.2 ⟨fun x hx => by have := hidx_ge x hx; omega, ih⟩
    · exact ih
theorem ascends_l0 {xs : List Int} (hl : xs.length ≤ 1000000000) (ha : xs.Pairwise (· < ·)) : ∀ (d i : Nat), i + d = xs.length → 1 ≤ i → Tot (fun k => laws_ascends.l0 k xs i) (fun t => t = true) := by
  intro d
  induction d with
  | zero =>
    intro i hi _
    exact Tot.step (fun _ => laws_ascends.l0.eq_2 ..) (Tot.neg (by omega) (Tot.now rfl))
  | succ d ih =>
    intro i hi h1
    refine Tot.step (fun _ => laws_ascends.l0.eq_2 ..) ?_
    have e : wrap64 ((i : Int) - 1) = ((i - 1 : Nat) : Int) := by rw [w64 (by omega) (by omega)]; omega
    have hlt := List.pairwise_iff_getElem.1 ha (i - 1) i (by omega) (by omega) (by omega)
    rw [e, w64s (by omega), rd_get (i := i) (by omega), rd_get (i := i - 1) (by omega)]
    exact Tot.pos (by omega) (Tot.pos (by omega) (Tot.pos (by omega) (Tot.pos (by omega) (Tot.neg (by omega) (ih (i + 1) (by omega) (by omega))))))
theorem law_l0 {l : List Rv} (h : RV l) (hne : 0 < (hidx l 0).length) : ∀ (d i : Nat), i + d = l.length → Tot (fun k => laws_FnHonest.l0 k l (hidx l 0) i) (fun t => t = true) := by
  have hl := h.1
  have hh := hidx_len (r := l) (i := 0)
  intro d
  induction d with
  | zero =>
    intro i hi
    refine Tot.step (fun _ => laws_FnHonest.l0.eq_2 ..) (Tot.neg (by omega) ?_)
    unfold laws_ascends.f
    refine Tot.bind (ascends_l0 (by omega) hidx_asc ((hidx l 0).length - 1) 1 (by omega) (Nat.le_refl _)) ?_
    rintro _ rfl
    exact Tot.now rfl
  | succ d ih =>
    intro i hi
    have hg : l[i]? = some l[i] := List.getElem?_eq_getElem (by omega)
    have hok := h.2 _ (List.mem_of_getElem? hg)
    unfold okR at hok
    refine Tot.step (fun _ => laws_FnHonest.l0.eq_2 ..) (Tot.pos (by omega) ?_)
    refine Tot.bind (isIn_tot (by omega)) ?_
    rintro _ rfl
    rw [rdRv_at hg, w64s (by omega), implCommit_eq, if_pos hok]
    simp only [Option.bind_some]
    refine Tot.pos (by omega) (Tot.neg ?_ (ih (i + 1) (by omega)))
    have hm := mem_hidx (l := l) (r := l) (i := 0) (j := i) rfl
    have e : decide ((i : Int) ∈ hidx l 0) = hon l[i] := by
      rw [Bool.eq_iff_iff, decide_eq_true_iff, hm]
      constructor
      · rintro ⟨_, x, h5, h6⟩
        rw [hg] at h5
        injection h5 with h5
        rw [h5]; exact h6
      · intro h6
        exact ⟨Nat.zero_le _, _, hg, h6⟩
    rw [e]
    simp [hon]
theorem FnHonest : laws_FnHonest.Pure := by
  intro l hl hl2 hw
  refine Tot.ends (g := fun k => laws_FnHonest.f k l) ?_
  unfold laws_FnHonest.f spec_DrawHonest.f
  refine Tot.ite (fun _ => Tot.now rfl) (fun _ => ?_)
  obtain ⟨b, hb, hb2, hb3⟩ := newReader_tot hw
  rw [hb]
  simp only [Option.bind_some]
  refine Tot.bind (P := fun rs => rs.length ≤ 6) (Tot.bind (someReveals_tot hb3 (Int.le_refl _) (by omega)) ?_) ?_
  · rintro ⟨rs, q⟩ ⟨h1, _⟩
    exact Tot.now h1
  intro rs hrs
  refine Tot.bind (implHonest_tot (by omega)) ?_
  rintro _ rfl
  refine Tot.bind (specHonest_tot (by omega)) ?_
  rintro _ rfl
  have hh := hidx_len (r := rs) (i := 0)
  have hlen : (if RV rs then hidx rs 0 else []).length ≤ 6 := by
    split
    · omega
    · simp
  refine Tot.bind (equalInts_tot (by omega)) ?_
  rintro _ rfl
  refine Tot.pos (by simp) (Tot.step (fun _ => laws_FnHonest.j0.eq_2 ..) ?_)
  by_cases h0 : (if RV rs then hidx rs 0 else []).length = 0
  · refine Tot.pos (by rw [beq_iff_eq]; omega) ?_
    refine Tot.bind (specHonest_tot (by omega)) ?_
    rintro _ rfl
    refine Tot.bind (equalInts_tot (by omega)) ?_
    rintro _ rfl
    exact Tot.now (by simp)
  · by_cases h : RV rs
    · rw [if_pos h] at h0 ⊢
      exact Tot.neg (by rw [beq_iff_eq]; omega) (law_l0 h (by omega) _ 0 (Nat.zero_add _))
    · rw [if_neg h] at h0
      exact absurd rfl h0
end Go.Proofs.Ytdcapmgebjifpaa.Pure
