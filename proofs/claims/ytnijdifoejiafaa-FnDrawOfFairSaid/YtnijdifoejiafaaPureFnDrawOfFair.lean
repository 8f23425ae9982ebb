/- FnDrawOfFair: for every code, each choice is drawn for exactly one of the values of one more member. No condition beyond the statement's own. -/
import Derived.Test.YtnijdifoejiafaaQFnDrawOfFairx4
import Derived.Test.YtnijdifoejiafaaCore
namespace Go.Proofs.Ytnijdifoejiafaa.Pure
open Go.RowKit Go.Proofs.Ytnijdifoejiafaa.PFnDrawOfFair Go.Proofs.YtnijdifoejiafaaW.PrintWords
set_option linter.unusedSimpArgs false
set_option linter.unusedVariables false

/-! the reader -/
theorem pick_tot {b : List Int} (hb : ∀ x ∈ b, 0 ≤ x ∧ x < 256) {p n : Int} (hp : 0 ≤ p) (hp2 : p ≤ 1000000000) (hn : n ≤ 1000000000000) :
    Tot (fun k => spec_reader_pick.f k b p n) (fun r => r.2 = p + 1 ∧ 0 ≤ r.1 ∧ (r.1 < n ∨ r.1 = 0)) := by
  have e1 : wrap64 (p + 1) = p + 1 := w64 (by omega) (by omega)
  have e2 : wrap64 (p + 1 - 1) = p := by rw [w64 (by omega) (by omega)]; omega
  have main : ∀ t : Bool, (t = false → 1 ≤ n ∧ b.length ≠ 0) → Tot (fun k => spec_reader_pick.j0 k n t b (p + 1)) (fun r => r.2 = p + 1 ∧ 0 ≤ r.1 ∧ (r.1 < n ∨ r.1 = 0)) := by
    intro t ht
    refine Tot.step (fun _ => spec_reader_pick.j0.eq_2 ..) ?_
    simp only [e2]
    cases t with
    | true => exact Tot.pos rfl (Tot.now ⟨rfl, Int.le_refl _, .inr rfl⟩)
    | false =>
      obtain ⟨hn1, hne⟩ := ht rfl
      refine Tot.neg (by simp) ?_
      by_cases hlt : p < (b.length : Int)
      · refine Tot.pos hlt (Tot.pos hp (Tot.neg (by omega) ?_))
        have hr := hb _ (rd_mem hp hlt)
        rw [w64 (x := rd b p) (by omega) (by omega), tmod_nn hr.1]
        exact Tot.now ⟨rfl, Int.emod_nonneg _ (by omega), .inl (Int.emod_lt_of_pos _ (by omega))⟩
      · refine Tot.neg hlt (Tot.neg (by omega) ?_)
        have hlen : 0 < (b.length : Int) := by omega
        have i1 : 0 ≤ Int.tmod p b.length ∧ Int.tmod p b.length < b.length := by
          rw [tmod_nn hp]; exact ⟨Int.emod_nonneg _ (by omega), Int.emod_lt_of_pos _ hlen⟩
        have e3 : wrap64 (wrap64 (p * 7) + 3) = p * 7 + 3 := by
          rw [w64 (x := p * 7) (by omega) (by omega)]; exact w64 (by omega) (by omega)
        rw [e3]
        have i2 : 0 ≤ Int.tmod (p * 7 + 3) b.length ∧ Int.tmod (p * 7 + 3) b.length < b.length := by
          rw [tmod_nn (by omega)]; exact ⟨Int.emod_nonneg _ (by omega), Int.emod_lt_of_pos _ hlen⟩
        refine Tot.pos i1.1 (Tot.pos i1.2 (Tot.pos i2.1 (Tot.pos i2.2 (Tot.neg (by omega) ?_))))
        have hu := hb _ (rd_mem i1.1 i1.2)
        have hv := hb _ (rd_mem i2.1 i2.2)
        have hq : 0 ≤ Int.tdiv p b.length ∧ Int.tdiv p b.length ≤ p := by
          rw [tdiv_nn hp]
          exact ⟨Int.ediv_nonneg hp (by omega), Int.ediv_le_self _ hp⟩
        generalize rd b (Int.tmod p b.length) = u at hu ⊢
        generalize rd b (Int.tmod (p * 7 + 3) b.length) = v at hv ⊢
        generalize Int.tdiv p b.length = q at hq ⊢
        rw [w64 (x := u) (by omega) (by omega), w64 (x := v) (by omega) (by omega), w64 (x := q) (by omega) (by omega), w64 (x := u * 131) (by omega) (by omega), w64 (x := v * 1117) (by omega) (by omega), w64 (x := p * 29) (by omega) (by omega), w64 (x := q * 53) (by omega) (by omega),
          w64 (x := u * 131 + v * 1117) (by omega) (by omega), w64 (x := u * 131 + v * 1117 + p * 29) (by omega) (by omega), w64 (x := u * 131 + v * 1117 + p * 29 + q * 53) (by omega) (by omega)]
        have hx : 0 ≤ u * 131 + v * 1117 + p * 29 + q * 53 ∧ u * 131 + v * 1117 + p * 29 + q * 53 < 4611686018427387904 := by omega
        generalize u * 131 + v * 1117 + p * 29 + q * 53 = x at hx ⊢
        rw [tdiv_nn hx.1, w64 (x := x / 64) (by omega) (by omega)]
        have hz := xor_nn hx.1 hx.2 (b := x / 64) (by omega) (by omega)
        rw [tmod_nn hz]
        exact Tot.now ⟨rfl, Int.emod_nonneg _ (by omega), .inl (Int.emod_lt_of_pos _ (by omega))⟩
  unfold spec_reader_pick.f
  rw [e1]
  refine Tot.ite (fun _ => main true (fun h => by cases h)) (fun h => main _ (fun h2 => ⟨by omega, fun h3 => ?_⟩))
  rw [h3] at h2
  simp at h2
theorem one_tot {b : List Int} (hb : ∀ x ∈ b, 0 ≤ x ∧ x < 256) {p : Int} (hp : 0 ≤ p) (hp2 : p ≤ 1000000000) {l : List Int} (hl : 0 < l.length) (hl2 : l.length ≤ 1000) :
    Tot (fun k => spec_reader_one.f k b p l) (fun r => r.2 = p + 1 ∧ r.1 ∈ l) := by
  unfold spec_reader_one.f
  refine Tot.bind (pick_tot hb hp hp2 (by omega)) ?_
  rintro ⟨v, q⟩ ⟨h1, h2, h3⟩
  simp only at h1 h2 h3 ⊢
  have h4 : v < (l.length : Int) := by omega
  exact Tot.pos h2 (Tot.pos h4 (Tot.now ⟨h1, rd_mem h2 h4⟩))
theorem newReader_tot {l : List Int} (h : ∀ x ∈ l, (Lit.int .u8 x).wf = true) : ∃ b, spec_newReader.f l = some (b, 0) ∧ b.length ≤ 2000 ∧ ∀ x ∈ b, 0 ≤ x ∧ x < 256 := by
  unfold spec_newReader.f
  by_cases h1 : (l.length : Int) > 2000
  · rw [if_pos h1, if_pos (by omega)]
    exact ⟨_, rfl, by simp; omega, fun x hx => wf_u8 (h x (List.mem_of_mem_take hx))⟩
  · rw [if_neg h1]
    exact ⟨_, rfl, by omega, fun x hx => wf_u8 (h x hx)⟩
theorem inRange_eq (a b c : Int) : spec_inRange.f a b c = some (decide (b ≤ a ∧ a ≤ c)) := by
  unfold spec_inRange.f
  by_cases h : b ≤ a
  · rw [if_pos h]; simp [h]
  · rw [if_neg h]; simp [h]
/-! reveals -/
abbrev Rv := S68
def rdRv (l : List Rv) (i : Int) : Rv := rd_T68 l i
def okR (r : Rv) : Prop := (0 ≤ r.f1 ∧ r.f1 ≤ 50000) ∧ (0 ≤ r.f2 ∧ r.f2 ≤ 9999)
instance (r : Rv) : Decidable (okR r) := inferInstanceAs (Decidable ((0 ≤ r.f1 ∧ r.f1 ≤ 50000) ∧ (0 ≤ r.f2 ∧ r.f2 ≤ 9999)))
def RV (l : List Rv) : Prop := l.length ≤ 12 ∧ ∀ r ∈ l, okR r
instance (l : List Rv) : Decidable (RV l) := inferInstanceAs (Decidable (l.length ≤ 12 ∧ ∀ r ∈ l, okR r))
def com (v s : Int) : Int := (v * 7919 + s * s + s) % 99991
def hon (r : Rv) : Bool := com r.f1 r.f2 == r.f0
def hsum : List Rv → Int
  | [] => 0
  | r :: l => (if hon r then r.f1 else 0) + hsum l
def hidx : List Rv → Nat → List Int
  | [], _ => []
  | r :: l, i => if hon r then (i : Int) :: hidx l (i + 1) else hidx l (i + 1)
theorem rdRv_at {l : List Rv} {i : Nat} {r : Rv} (h : l[i]? = some r) : rd_T68 l (i : Int) = r := by
  simp [rd_T68, List.getD_eq_getElem?_getD, h]
theorem sq_le {s : Int} (h0 : 0 ≤ s) (h1 : s ≤ 9999) : 0 ≤ s * s ∧ s * s ≤ 99980001 := by
  refine ⟨Int.mul_nonneg h0 h0, ?_⟩
  have := Int.mul_le_mul h1 h1 h0 (by omega)
  omega
theorem com_range {v s : Int} : 0 ≤ com v s ∧ com v s < 99991 := by
  unfold com; omega
theorem commitV {v s : Int} (hv : 0 ≤ v) (hv2 : v ≤ 50000) (hs : 0 ≤ s) (hs2 : s ≤ 9999) : Int.tmod (wrap64 ((wrap64 ((wrap64 (v * 7919)) + (wrap64 (s * s)))) + s)) 99991 = com v s := by
  have h := sq_le hs hs2
  unfold com
  generalize s * s = q at h ⊢
  rw [w64 (x := v * 7919) (by omega) (by omega), w64 (x := q) (by omega) (by omega), w64 (x := v * 7919 + q) (by omega) (by omega), w64 (x := v * 7919 + q + s) (by omega) (by omega), tmod_nn (by omega)]
theorem specCommit_eq {v s : Int} (hv : 0 ≤ v) (hv2 : v ≤ 50000) (hs : 0 ≤ s) (hs2 : s ≤ 9999) : spec_commit.f v s = some (com v s) := by
  unfold spec_commit.f
  rw [commitV hv hv2 hs hs2]
theorem implCommit_eq (v s : Int) : impl_CommitTo.f v s = some (if (0 ≤ v ∧ v ≤ 50000) ∧ (0 ≤ s ∧ s ≤ 9999) then com v s else -1) := by
  unfold impl_CommitTo.f
  by_cases h1 : v < 0
  · rw [if_pos h1, if_neg (by omega)]
  by_cases h2 : v > 50000
  · rw [if_neg h1, if_pos h2, if_neg (by omega)]
  by_cases h3 : s < 0
  · rw [if_neg h1, if_neg h2, if_pos h3, if_neg (by omega)]
  by_cases h4 : s > 9999
  · rw [if_neg h1, if_neg h2, if_neg h3, if_pos h4, if_neg (by omega)]
  rw [if_neg h1, if_neg h2, if_neg h3, if_neg h4, if_pos (by omega), commitV (by omega) (by omega) (by omega) (by omega)]
theorem implValidReveals_l0 {l : List Rv} (hl : l.length ≤ 1000000000) : ∀ (r : List Rv) (i : Nat), l.drop i = r →
    Tot (fun k => impl_validReveals.l0 k l l.length i) (fun t => t = decide (∀ x ∈ r, okR x)) := by
  intro r
  induction r with
  | nil =>
    intro i h
    have := drop_nil h
    exact Tot.step (fun _ => impl_validReveals.l0.eq_2 ..) (Tot.neg (by omega) (Tot.now (by simp)))
  | cons x r ih =>
    intro i h
    obtain ⟨h1, h2, h3⟩ := drop_cons h
    refine Tot.step (fun _ => impl_validReveals.l0.eq_2 ..) ?_
    rw [rdRv_at h3, w64s (by omega), implCommit_eq]
    simp only [Option.bind_some]
    have hc := com_range (v := x.f1) (s := x.f2)
    refine Tot.pos (by omega) (Tot.pos (by omega) (Tot.pos (by omega) ?_))
    by_cases hx : okR x
    · unfold okR at hx
      rw [if_pos hx]
      refine Tot.neg (by omega) ((ih (i + 1) h2).mono ?_)
      rintro t rfl
      rw [decide_eq_decide]
      simp only [List.mem_cons, forall_eq_or_imp]
      exact ⟨fun h => ⟨hx, h⟩, fun h => h.2⟩
    · unfold okR at hx
      rw [if_neg hx]
      refine Tot.pos (by omega) (Tot.now ?_)
      symm
      rw [decide_eq_false_iff_not]
      exact fun h => hx (h x (by simp))
theorem implValidReveals_tot {l : List Rv} (hl : l.length ≤ 1000000000) : Tot (fun k => impl_validReveals.f k l) (fun t => t = decide (RV l)) := by
  unfold impl_validReveals.f
  refine Tot.ite (fun h => Tot.now ?_) (fun h => ?_)
  · symm
    rw [decide_eq_false_iff_not]
    rintro ⟨h2, _⟩
    omega
  · refine (implValidReveals_l0 hl l 0 rfl).mono ?_
    rintro t rfl
    rw [decide_eq_decide]
    exact ⟨fun h2 => ⟨by omega, h2⟩, fun h2 => h2.2⟩
theorem implHonest_l0 {l : List Rv} (hl : l.length ≤ 1000000000) (hR : ∀ r ∈ l, okR r) : ∀ (r : List Rv) (i : Nat) (out : List Int), l.drop i = r → out.length ≤ i →
    Tot (fun k => impl_Honest.l0 k out l l.length i) (fun t => t = out ++ hidx r i) := by
  intro r
  induction r with
  | nil =>
    intro i out h ho
    have := drop_nil h
    exact Tot.step (fun _ => impl_Honest.l0.eq_2 ..) (Tot.neg (by omega) (Tot.now (by simp [hidx])))
  | cons x r ih =>
    intro i out h ho
    obtain ⟨h1, h2, h3⟩ := drop_cons h
    refine Tot.step (fun _ => impl_Honest.l0.eq_2 ..) ?_
    have hx := hR x (List.mem_of_getElem? h3)
    unfold okR at hx
    rw [rdRv_at h3, w64s (by omega), implCommit_eq, if_pos hx]
    simp only [Option.bind_some]
    refine Tot.pos (by omega) (Tot.pos (by omega) (Tot.pos (by omega) (Tot.ite (fun hc => Tot.pos (by omega) ?_) (fun hc => ?_))))
    · refine (ih (i + 1) _ h2 (by simp; omega)).mono ?_
      rintro t rfl
      simp [hidx, hon, hc]
    · refine (ih (i + 1) _ h2 (by omega)).mono ?_
      rintro t rfl
      simp [hidx, hon, hc]
theorem implHonest_tot {l : List Rv} (hl : l.length ≤ 1000000000) : Tot (fun k => impl_Honest.f k l) (fun t => t = if RV l then hidx l 0 else []) := by
  unfold impl_Honest.f
  refine Tot.bind (implValidReveals_tot hl) ?_
  rintro t rfl
  simp only [decide_eq_true_eq]
  refine Tot.ite (fun h => ?_) (fun h => ?_)
  · rw [if_pos h]
    exact implHonest_l0 hl h.2 l 0 [] rfl (Nat.le_refl _)
  · rw [if_neg h]; exact Tot.now rfl
theorem hsum_range : ∀ {l : List Rv}, (∀ r ∈ l, okR r) → 0 ≤ hsum l ∧ hsum l ≤ 50000 * l.length := by
  intro l
  induction l with
  | nil => intro _; simp [hsum]
  | cons x r ih =>
    intro h
    have h1 := ih (fun y hy => h y (List.mem_cons_of_mem _ hy))
    have h2 := h x (by simp)
    unfold okR at h2
    simp only [hsum, List.length_cons]
    split <;> omega
theorem hidx_mem {l : List Rv} : ∀ {r : List Rv} {i : Nat}, l.drop i = r → ∀ x ∈ hidx r i, 0 ≤ x ∧ x < l.length := by
  intro r
  induction r with
  | nil => intro i _ x hx; simp [hidx] at hx
  | cons y r ih =>
    intro i h x hx
    obtain ⟨h1, h2, h3⟩ := drop_cons h
    rw [hidx] at hx
    split at hx
    · rcases List.mem_cons.1 hx with rfl | hx
      · omega
      · exact ih h2 x hx
    · exact ih h2 x hx
theorem hidx_len : ∀ {r : List Rv} {i : Nat}, (hidx r i).length ≤ r.length := by
  intro r
  induction r with
  | nil => intro i; simp [hidx]
  | cons y r ih =>
    intro i
    have := ih (i := i + 1)
    rw [hidx]
    split <;> simp <;> omega
theorem specCommit_some (v s : Int) : ∃ c, spec_commit.f v s = some c := ⟨_, rfl⟩
theorem someReveals_l0 {b : List Int} (hb : ∀ x ∈ b, 0 ≤ x ∧ x < 256) : ∀ (d : Nat) (out : List Rv) (p : Int), 0 ≤ p → p + 20 * d ≤ 100000000 → out.length + d ≤ 1000 →
    Tot (fun k => spec_someReveals.l0 k out d b p) (fun r => r.1.length = out.length + d ∧ p ≤ r.2 ∧ r.2 ≤ p + 20 * d + 20) := by
  intro d
  induction d with
  | zero =>
    intro out p hp hp2 ho
    refine Tot.step (fun _ => spec_someReveals.l0.eq_2 ..) (Tot.neg (by omega) ?_)
    refine Tot.ite (fun h => ?_) (fun h => Tot.now ⟨by simp, by simp, by simp; omega⟩)
    refine Tot.bind (pick_tot hb hp (by omega) (by omega)) ?_
    rintro ⟨v, q⟩ ⟨h1, h2, h3⟩
    simp only at h1 h2 h3 ⊢
    refine Tot.ite (fun h4 => ?_) (fun h4 => Tot.now ⟨by simp, by simp only; omega, by simp only; omega⟩)
    refine Tot.bind (one_tot hb (by omega) (by omega) (by simp) (by simp)) ?_
    rintro ⟨v2, q2⟩ ⟨h5, h6⟩
    simp only at h5 h6 ⊢
    exact Tot.pos (by omega) (Tot.now ⟨by simp, by simp only; omega, by simp only; omega⟩)
  | succ d ih =>
    intro out p hp hp2 ho
    refine Tot.step (fun _ => spec_someReveals.l0.eq_2 ..) (Tot.pos (by omega) ?_)
    have e : wrap64 (((d + 1 : Nat) : Int) - 1) = (d : Int) := by rw [w64 (by omega) (by omega)]; omega
    rw [e]
    refine Tot.bind (pick_tot hb hp (by omega) (by omega)) ?_
    rintro ⟨v, q⟩ ⟨h1, h2, h3⟩
    simp only at h1 h2 h3 ⊢
    refine Tot.bind (pick_tot hb (by omega) (by omega) (by omega)) ?_
    rintro ⟨v2, q2⟩ ⟨g1, g2, g3⟩
    simp only at g1 g2 g3 ⊢
    refine Tot.bind (one_tot hb (by omega) (by omega) (by simp) (by simp)) ?_
    rintro ⟨v3, q3⟩ ⟨f1, f2⟩
    simp only at f1 ⊢
    clear f2
    refine Tot.bind (pick_tot hb (by omega) (by omega) (by omega)) ?_
    rintro ⟨v4, q4⟩ ⟨e1, e2, e3⟩
    simp only at e1 e2 e3 ⊢
    obtain ⟨c, hc⟩ := specCommit_some v3 v4
    rw [hc]
    simp only [Option.bind_some]
    refine Tot.bind (pick_tot hb (by omega) (by omega) (by omega)) ?_
    rintro ⟨v5, q5⟩ ⟨d1, d2, d3⟩
    simp only at d1 d2 d3 ⊢
    refine Tot.ite (fun h4 => ?_) (fun h4 => ?_)
    · refine Tot.bind (pick_tot hb (by omega) (by omega) (by omega)) ?_
      rintro ⟨v6, q6⟩ ⟨c1, c2, c3⟩
      simp only at c1 c2 c3 ⊢
      refine Tot.pos (by omega) ((ih _ q6 (by omega) (by omega) (by simp; omega)).mono ?_)
      rintro r ⟨b1, b2, b3⟩
      refine ⟨by simp at b1; omega, by omega, by omega⟩
    · refine Tot.pos (by omega) ((ih _ q5 (by omega) (by omega) (by simp; omega)).mono ?_)
      rintro r ⟨b1, b2, b3⟩
      refine ⟨by simp at b1; omega, by omega, by omega⟩
theorem someReveals_tot {b : List Int} (hb : ∀ x ∈ b, 0 ≤ x ∧ x < 256) {p : Int} (hp : 0 ≤ p) (hp2 : p ≤ 1000000) :
    Tot (fun k => spec_someReveals.f k b p) (fun r => r.1.length ≤ 6 ∧ p ≤ r.2 ∧ r.2 ≤ p + 200) := by
  unfold spec_someReveals.f
  refine Tot.bind (one_tot hb hp (by omega) (by simp) (by simp)) ?_
  rintro ⟨n, q⟩ ⟨h1, h2⟩
  simp only [List.mem_cons, List.not_mem_nil, or_false] at h1 h2 ⊢
  obtain ⟨m, rfl⟩ := Int.eq_ofNat_of_zero_le (a := n) (by omega)
  refine (someReveals_l0 hb m [] q (by omega) (by omega) (by simp; omega)).mono ?_
  rintro r ⟨b1, b2, b3⟩
  refine ⟨by simp at b1; omega, by omega, by omega⟩
theorem honestSum_l0 {l : List Rv} (hl : l.length ≤ 12) (hR : ∀ r ∈ l, okR r) {ids : List Int} (hids : ids.length ≤ 12) : ∀ (r : List Rv) (i j : Nat) (acc : Int), l.drop i = r → ids.drop j = hidx r i → 0 ≤ acc → acc ≤ 50000 * i →
    Tot (fun k => impl_honestSum.l0 k l acc ids ids.length j) (fun t => t = acc + hsum r) := by
  intro r
  induction r with
  | nil =>
    intro i j acc h hj _ _
    rw [hidx] at hj
    have := drop_nil hj
    exact Tot.step (fun _ => impl_honestSum.l0.eq_2 ..) (Tot.neg (by omega) (Tot.now (by simp [hsum])))
  | cons x r ih =>
    intro i j acc h hj ha ha2
    obtain ⟨h1, h2, h3⟩ := drop_cons h
    rw [hidx] at hj
    rw [hsum]
    by_cases hx : hon x = true
    · rw [if_pos hx] at hj ⊢
      obtain ⟨g1, g2, g3⟩ := drop_cons hj
      have hok := hR x (List.mem_of_getElem? h3)
      unfold okR at hok
      refine Tot.step (fun _ => impl_honestSum.l0.eq_2 ..) ?_
      rw [rd_at g3, rdRv_at h3, w64s (i := j) (by omega), w64 (x := acc + x.f1) (by omega) (by omega)]
      refine Tot.pos (by omega) (Tot.pos (by omega) (Tot.pos (by omega) (Tot.pos (by omega) (Tot.pos (by omega) ?_))))
      refine (ih (i + 1) (j + 1) _ h2 g2 (by omega) (by omega)).mono ?_
      rintro t rfl
      omega
    · rw [if_neg hx] at hj ⊢
      refine (ih (i + 1) j acc h2 hj ha (by omega)).mono ?_
      rintro t rfl
      omega
theorem honestSum_tot {l : List Rv} (h : RV l) : Tot (fun k => impl_honestSum.f k l) (fun t => t = hsum l) := by
  unfold impl_honestSum.f
  refine Tot.bind (implHonest_tot (by have := h.1; omega)) ?_
  rintro t rfl
  rw [if_pos h]
  have h1 := h.1
  have h2 := hidx_len (r := l) (i := 0)
  refine (honestSum_l0 h1 h.2 (by omega) l 0 0 0 rfl rfl (Int.le_refl _) (by omega)).mono ?_
  rintro t rfl
  omega
theorem implDrawOf_tot {l : List Rv} {c : Int} (hl : l.length ≤ 1000000000) : Tot (fun k => impl_DrawOf.f k l c) (fun t => t = if RV l ∧ 1 ≤ c ∧ c ≤ 50000 then (hsum l, hsum l % c) else (-1, -1)) := by
  unfold impl_DrawOf.f
  refine Tot.bind (implValidReveals_tot hl) ?_
  rintro t rfl
  simp only [decide_eq_true_eq]
  refine Tot.ite (fun h => Tot.ite (fun h2 => ?_) (fun h2 => Tot.ite (fun h3 => ?_) (fun h3 => ?_))) (fun h => ?_)
  · rw [if_neg (by omega)]; exact Tot.now rfl
  · rw [if_neg (by omega)]; exact Tot.now rfl
  · rw [if_pos ⟨h, by omega, by omega⟩]
    refine Tot.bind (honestSum_tot h) ?_
    rintro t rfl
    refine Tot.neg (by omega) (Tot.now ?_)
    rw [tmod_nn (hsum_range h.2).1]
  · rw [if_neg (fun h2 => h h2.1)]; exact Tot.now rfl
theorem specValidReveals_l0 {l : List Rv} (hl : l.length ≤ 1000000000) : ∀ (r : List Rv) (i : Nat), l.drop i = r →
    Tot (fun k => spec_validReveals.l0 k l i) (fun t => t = decide (l.length ≤ 12 ∧ ∀ x ∈ r, okR x)) := by
  intro r
  induction r with
  | nil =>
    intro i h
    have := drop_nil h
    refine Tot.step (fun _ => spec_validReveals.l0.eq_2 ..) (Tot.neg (by omega) (Tot.now ?_))
    rw [decide_eq_decide]
    simp
    omega
  | cons x r ih =>
    intro i h
    obtain ⟨h1, h2, h3⟩ := drop_cons h
    refine Tot.step (fun _ => spec_validReveals.l0.eq_2 ..) ?_
    rw [rdRv_at h3, w64s (by omega), inRange_eq, inRange_eq]
    simp only [Option.bind_some, decide_eq_true_eq]
    refine Tot.pos (by omega) (Tot.pos (by omega) (Tot.ite (fun h4 => Tot.ite (fun h5 => ?_) (fun h5 => Tot.now ?_)) (fun h4 => Tot.now ?_)))
    · refine (ih (i + 1) h2).mono ?_
      rintro t rfl
      rw [decide_eq_decide]
      simp only [List.mem_cons, forall_eq_or_imp]
      exact ⟨fun h => ⟨h.1, ⟨h4, h5⟩, h.2⟩, fun h => ⟨h.1, h.2.2⟩⟩
    · symm
      rw [decide_eq_false_iff_not]
      exact fun h => h5 (h.2 x (by simp)).2
    · symm
      rw [decide_eq_false_iff_not]
      exact fun h => h4 (h.2 x (by simp)).1
theorem specValidReveals_tot {l : List Rv} (hl : l.length ≤ 1000000000) : Tot (fun k => spec_validReveals.f k l) (fun t => t = decide (RV l)) := by
  unfold spec_validReveals.f
  exact specValidReveals_l0 hl l 0 rfl
theorem specDrawOf_l0 {l : List Rv} {c : Int} (hc : 1 ≤ c) (hl : l.length ≤ 12) (hR : ∀ r ∈ l, okR r) : ∀ (r : List Rv) (i : Nat) (acc : Int), l.drop i = r → 0 ≤ acc → acc ≤ 50000 * i →
    Tot (fun k => spec_DrawOf.l0 k l c acc i) (fun t => t = (acc + hsum r, (acc + hsum r) % c)) := by
  intro r
  induction r with
  | nil =>
    intro i acc h ha _
    have := drop_nil h
    refine Tot.step (fun _ => spec_DrawOf.l0.eq_2 ..) (Tot.neg (by omega) (Tot.neg (by omega) (Tot.now ?_)))
    rw [hsum, tmod_nn ha]; simp
  | cons x r ih =>
    intro i acc h ha ha2
    obtain ⟨h1, h2, h3⟩ := drop_cons h
    have hok := hR x (List.mem_of_getElem? h3)
    unfold okR at hok
    refine Tot.step (fun _ => spec_DrawOf.l0.eq_2 ..) ?_
    rw [rdRv_at h3, w64s (i := i) (by omega), w64 (x := acc + x.f1) (by omega) (by omega), specCommit_eq hok.1.1 hok.1.2 hok.2.1 hok.2.2, hsum]
    simp only [Option.bind_some]
    refine Tot.pos (by omega) (Tot.pos (by omega) (Tot.ite (fun h4 => ?_) (fun h4 => ?_)))
    · refine (ih (i + 1) _ h2 (by omega) (by omega)).mono ?_
      rintro t rfl
      rw [if_pos (by simp [hon, h4]), Int.add_assoc]
    · refine (ih (i + 1) _ h2 (by omega) (by omega)).mono ?_
      rintro t rfl
      rw [if_neg (by simp [hon, h4]), Int.zero_add]
theorem specDrawOf_tot {l : List Rv} {c : Int} (hl : l.length ≤ 1000000000) : Tot (fun k => spec_DrawOf.f k l c) (fun t => t = if RV l ∧ 1 ≤ c ∧ c ≤ 50000 then (hsum l, hsum l % c) else (-1, -1)) := by
  unfold spec_DrawOf.f
  refine Tot.bind (specValidReveals_tot hl) ?_
  rintro t rfl
  rw [inRange_eq]
  simp only [Option.bind_some, decide_eq_true_eq]
  refine Tot.ite (fun h => Tot.step (fun _ => spec_DrawOf.j0.eq_2 ..) ?_) (fun h => Tot.step (fun _ => spec_DrawOf.j0.eq_2 ..) (Tot.pos rfl ?_))
  · by_cases h2 : 1 ≤ c ∧ c ≤ 50000
    · rw [if_pos ⟨h, h2⟩]
      refine Tot.neg (by simp [h2]) ?_
      refine (specDrawOf_l0 h2.1 h.1 h.2 l 0 0 rfl (Int.le_refl _) (by omega)).mono ?_
      rintro t rfl
      simp
    · rw [if_neg (fun h3 => h2 h3.2)]
      exact Tot.pos (by simp; omega) (Tot.now rfl)
  · rw [if_neg (fun h2 => h h2.1)]; exact Tot.now rfl
theorem Tot.bindv {α β : Type} {g : Nat → Option α} {F : Nat → α → Option β} {v : α} {Q : β → Prop} (h : Tot g (fun t => t = v)) (h2 : Tot (fun k => F k v) Q) : Tot (fun k => (g k).bind (F k)) Q :=
  Tot.bind h (fun a ha => by rw [ha]; exact h2)
theorem hsum_append : ∀ (a b : List Rv), hsum (a ++ b) = hsum a + hsum b := by
  intro a b
  induction a with
  | nil => simp [hsum]
  | cons x a ih => simp only [List.cons_append, hsum, ih]; omega
theorem drawDrawOf_tot {l : List Int} (hw : ∀ x ∈ l, (Lit.int .u8 x).wf = true) : Tot (fun k => spec_DrawDrawOf.f k l) (fun r => r.1.length ≤ 6) := by
  unfold spec_DrawDrawOf.f
  obtain ⟨b, hb, hb2, hb3⟩ := newReader_tot hw
  rw [hb]
  simp only [Option.bind_some]
  refine Tot.bind (someReveals_tot hb3 (Int.le_refl _) (by omega)) ?_
  rintro ⟨rs, q⟩ ⟨h1, h2, h3⟩
  simp only at h1 h2 h3 ⊢
  refine Tot.bind (one_tot hb3 (by omega) (by omega) (by simp) (by simp)) ?_
  rintro ⟨v, q⟩ _
  exact Tot.now h1
theorem lawLoop {l : List Rv} {c : Int} (h : RV l) (hl : l.length < 12) (hc : 1 ≤ c) (hc2 : c ≤ 40) : ∀ (d : Nat) (v : Nat) (met : List Bool), (v : Int) + d = c → (met.length : Int) = c → (∀ j : Nat, met[j]? = some true → ∃ u : Nat, u < v ∧ (hsum l + u) % c = j) →
    Tot (fun k => laws_FnDrawOfFair.l0 k l c met v) (fun t => t = true) := by
  intro d
  induction d with
  | zero =>
    intro v met hv hm hi
    exact Tot.step (fun _ => laws_FnDrawOfFair.l0.eq_2 ..) (Tot.neg (by omega) (Tot.now rfl))
  | succ d ih =>
    intro v met hv hm hi
    refine Tot.step (fun _ => laws_FnDrawOfFair.l0.eq_2 ..) (Tot.pos (by omega) ?_)
    rw [implCommit_eq, if_pos ⟨⟨by omega, by omega⟩, by omega, by omega⟩]
    refine Tot.known (Tot.known (Tot.pos (by simp; omega) (Tot.known (Tot.known (Tot.pos (by simp; omega) ?_)))))
    have hon1 : hon (⟨com (v : Int) 17, (v : Int), 17⟩ : Rv) = true := by unfold hon; simp
    have hs : hsum (([] : List Rv) ++ l ++ [(⟨com (v : Int) 17, (v : Int), 17⟩ : Rv)]) = hsum l + v := by
      rw [List.nil_append, hsum_append, hsum, hsum, if_pos hon1]; show hsum l + ((v : Int) + 0) = hsum l + v; omega
    have hR : RV (([] : List Rv) ++ l ++ [(⟨com (v : Int) 17, (v : Int), 17⟩ : Rv)]) := by
      refine ⟨by simp; omega, fun r hr => ?_⟩
      rw [List.nil_append] at hr
      rcases List.mem_append.1 hr with hr | hr
      · exact h.2 r hr
      · rw [List.mem_singleton.1 hr]
        exact ⟨⟨by show (0 : Int) ≤ v; omega, by show (v : Int) ≤ 50000; omega⟩, by show (0 : Int) ≤ 17; omega, by show (17 : Int) ≤ 9999; omega⟩
    refine Tot.bindv (implDrawOf_tot (by simp; omega)) ?_
    rw [if_pos ⟨hR, hc, by omega⟩, hs]
    dsimp only
    have m1 := Int.emod_nonneg (hsum l + v) (show c ≠ 0 by omega)
    have m2 := Int.emod_lt_of_pos (hsum l + v) (show 0 < c by omega)
    obtain ⟨j, hj⟩ := Int.eq_ofNat_of_zero_le m1
    rw [hj, w64s (by omega)]
    refine Tot.neg (by omega) (Tot.neg (by omega) (Tot.pos (by omega) (Tot.pos (by omega) (Tot.neg ?_ ?_))))
    · intro ht
      have hjl : j < met.length := by omega
      have hg : met[j]? = some true := by
        rw [List.getElem?_eq_getElem hjl]
        simp [rdOf, List.getD_eq_getElem?_getD, List.getElem?_eq_getElem hjl] at ht
        rw [ht]
      obtain ⟨u, hu, e⟩ := hi j hg
      have e2 : (hsum l + u) % c = (hsum l + v) % c := by rw [e, hj]
      have e3 := Int.emod_emod_of_dvd (hsum l + v - (hsum l + u)) (Int.dvd_refl c)
      have e4 : (hsum l + v - (hsum l + u)) % c = 0 := by
        rw [Int.sub_emod, e2]; simp
      have e5 : hsum l + v - (hsum l + u) = (v : Int) - u := by omega
      rw [e5, Int.emod_eq_of_lt (by omega) (by omega)] at e4
      omega
    · refine ih (v + 1) _ (by omega) (by simp only [List.length_set]; exact hm) (fun i hg => ?_)
      by_cases hij : j = i
      · exact ⟨v, by omega, by rw [hj, hij]⟩
      · rw [Int.toNat_natCast, List.getElem?_set_ne hij] at hg
        obtain ⟨u, hu, e⟩ := hi i hg
        exact ⟨u, by omega, e⟩
theorem FnDrawOfFair : laws_FnDrawOfFair.Pure := by
  intro l hl hl2 hw
  refine Tot.ends (g := fun k => laws_FnDrawOfFair.f k l) ?_
  unfold laws_FnDrawOfFair.f
  refine Tot.ite (fun _ => Tot.now rfl) (fun _ => ?_)
  refine Tot.bind (drawDrawOf_tot hw) ?_
  rintro ⟨rs, c⟩ hrs
  dsimp only at hrs ⊢
  refine Tot.bindv (implDrawOf_tot (by omega)) (Tot.bindv (specDrawOf_tot (by omega)) (Tot.pos rfl (Tot.pos rfl ?_)))
  generalize hD : (if RV rs ∧ 1 ≤ c ∧ c ≤ 50000 then (hsum rs, hsum rs % c) else (-1, -1)) = D
  have again : Tot (fun k => laws_FnDrawOfFair.j0 k rs c D.1 D.2 D.1 D.2 true) (fun t => t = true) :=
    Tot.step (fun _ => laws_FnDrawOfFair.j0.eq_2 ..) (Tot.pos rfl (Tot.pos rfl (Tot.now (by simp))))
  refine Tot.ite (fun _ => again) (fun h1 => Tot.ite (fun _ => again) (fun h2 => ?_))
  by_cases h3 : (rs.length : Int) = 12
  · rw [show ((rs.length : Int) == 12) = true by simpa using h3]; exact again
  rw [show ((rs.length : Int) == 12) = false by simpa using h3]
  by_cases h : RV rs ∧ 1 ≤ c ∧ c ≤ 50000
  · refine Tot.step (fun _ => laws_FnDrawOfFair.j0.eq_2 ..) (Tot.neg (by decide) (Tot.pos (by omega) (Tot.pos (by omega) ?_)))
    refine lawLoop h.1 (by have := h.1.1; omega) h.2.1 (by omega) c.toNat 0 _ (by omega) (by rw [List.length_replicate]; omega) (fun j hg => ?_)
    rw [List.getElem?_replicate] at hg
    split at hg
    · injection hg with hg; cases hg
    · cases hg
  · rw [if_neg h] at hD
    exact absurd (by rw [← hD]; decide) h1
end Go.Proofs.Ytnijdifoejiafaa.Pure
