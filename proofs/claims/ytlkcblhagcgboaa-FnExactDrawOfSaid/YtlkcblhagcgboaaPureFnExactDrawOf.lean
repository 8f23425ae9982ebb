/- FnExactDrawOf: for all arguments DrawOf of the program and of the reference agree, and the arguments are left as they were. No condition beyond the statement's own. -/
import Derived.Test.YtlkcblhagcgboaaPFnExactDrawOfx3
import Derived.Test.YtlkcblhagcgboaaCore
namespace Go.Proofs.Ytlkcblhagcgboaa.Pure
open Go.RowKit Go.Proofs.Ytlkcblhagcgboaa.PFnExactDrawOf Go.Proofs.YtlkcblhagcgboaaW.PrintWords
set_option linter.unusedSimpArgs false
set_option linter.unusedVariables false

theorem inRange_eq (a b c : Int) : spec_inRange.f a b c = some (decide (b ≤ a ∧ a ≤ c)) := by
  unfold spec_inRange.f
  by_cases h : b ≤ a
  · rw [if_pos h]; simp [h]
  · rw [if_neg h]; simp [h]
/-! reveals -/
abbrev Rv := S36
def rdRv (l : List Rv) (i : Int) : Rv := rd_T36 l i
def okR (r : Rv) : Prop := (0 ≤ r.f1 ∧ r.f1 ≤ 50000) ∧ (0 ≤ r.f2 ∧ r.f2 ≤ 9999)
instance (r : Rv) : Decidable (okR r) := inferInstanceAs (Decidable ((0 ≤ r.f1 ∧ r.f1 ≤ 50000) ∧ (0 ≤ r.f2 ∧ r.f2 ≤ 9999)))
def RV (l : List Rv) : Prop := l.length ≤ 12 ∧ ∀ r ∈ l, okR r
instance (l : List Rv) : Decidable (RV l) := inferInstanceAs (Decidable (l.length ≤ 12 ∧ ∀ r ∈ l, okR r))
def com (v s : Int) : Int := (v * 7919 + s * s + s) % 99991
def hon (r : Rv) : Bool := com r.f1 r.f2 == r.f0
def hsum : List Rv → Int
  | [] => 0
  | r :: l => (if hon r then r.f1 else 0) + hsum l
def hidx : List Rv → Nat → List Int
  | [], _ => []
  | r :: l, i => if hon r then (i : Int) :: hidx l (i + 1) else hidx l (i + 1)
theorem rdRv_at {l : List Rv} {i : Nat} {r : Rv} (h : l[i]? = some r) : rd_T36 l (i : Int) = r := by
  simp [rd_T36, List.getD_eq_getElem?_getD, h]
theorem sq_le {s : Int} (h0 : 0 ≤ s) (h1 : s ≤ 9999) : 0 ≤ s * s ∧ s * s ≤ 99980001 := by
  refine ⟨Int.mul_nonneg h0 h0, ?_⟩
  have := Int.mul_le_mul h1 h1 h0 (by omega)
  omega
theorem com_range {v s : Int} : 0 ≤ com v s ∧ com v s < 99991 := by
  unfold com; omega
theorem commitV {v s : Int} (hv : 0 ≤ v) (hv2 : v ≤ 50000) (hs : 0 ≤ s) (hs2 : s ≤ 9999) : Int.tmod (wrap64 ((wrap64 ((wrap64 (v * 7919)) + (wrap64 (s * s)))) + s)) 99991 = com v s := by
  have h := sq_le hs hs2
  unfold com
  generalize s * s = q at h ⊢
  rw [w64 (x := v * 7919) (by omega) (by omega), w64 (x := q) (by omega) (by omega), w64 (x := v * 7919 + q) (by omega) (by omega), w64 (x := v * 7919 + q + s) (by omega) (by omega), tmod_nn (by omega)]
theorem specCommit_eq {v s : Int} (hv : 0 ≤ v) (hv2 : v ≤ 50000) (hs : 0 ≤ s) (hs2 : s ≤ 9999) : spec_commit.f v s = some (com v s) := by
  unfold spec_commit.f
  rw [commitV hv hv2 hs hs2]
theorem implCommit_eq (v s : Int) : impl_CommitTo.f v s = some (if (0 ≤ v ∧ v ≤ 50000) ∧ (0 ≤ s ∧ s ≤ 9999) then com v s else -1) := by
  unfold impl_CommitTo.f
  by_cases h1 : v < 0
  · rw [if_pos h1, if_neg (by omega)]
  by_cases h2 : v > 50000
  · rw [if_neg h1, if_pos h2, if_neg (by omega)]
  by_cases h3 : s < 0
  · rw [if_neg h1, if_neg h2, if_pos h3, if_neg (by omega)]
  by_cases h4 : s > 9999
  · rw [if_neg h1, if_neg h2, if_neg h3, if_pos h4, if_neg (by omega)]
  rw [if_neg h1, if_neg h2, if_neg h3, if_neg h4, if_pos (by omega), commitV (by omega) (by omega) (by omega) (by omega)]
theorem implValidReveals_l0 {l : List Rv} (hl : l.length ≤ 1000000000) : ∀ (r : List Rv) (i : Nat), l.drop i = r →
    Tot (fun k => impl_validReveals.l0 k l l.length i) (fun t => t = decide (∀ x ∈ r, okR x)) := by
  intro r
  induction r with
  | nil =>
    intro i h
    have := drop_nil h
    exact Tot.step (fun _ => impl_validReveals.l0.eq_2 ..) (Tot.neg (by omega) (Tot.now (by simp)))
  | cons x r ih =>
    intro i h
    obtain ⟨h1, h2, h3⟩ := drop_cons h
    refine Tot.step (fun _ => impl_validReveals.l0.eq_2 ..) ?_
    rw [rdRv_at h3, w64s (by omega), implCommit_eq]
    simp only [Option.bind_some]
    have hc := com_range (v := x.f1) (s := x.f2)
    refine Tot.pos (by omega) (Tot.pos (by omega) (Tot.pos (by omega) ?_))
    by_cases hx : okR x
    · unfold okR at hx
      rw [if_pos hx]
      refine Tot.neg (by omega) ((ih (i + 1) h2).mono ?_)
      rintro t rfl
      rw [decide_eq_decide]
      simp only [List.mem_cons, forall_eq_or_imp]
      exact ⟨fun h => ⟨hx, h⟩, fun h => h.2⟩
    · unfold okR at hx
      rw [if_neg hx]
      refine Tot.pos (by omega) (Tot.now ?_)
      symm
      rw [decide_eq_false_iff_not]
      exact fun h => hx (h x (by simp))
theorem implValidReveals_tot {l : List Rv} (hl : l.length ≤ 1000000000) : Tot (fun k => impl_validReveals.f k l) (fun t => t = decide (RV l)) := by
  unfold impl_validReveals.f
  refine Tot.ite (fun h => Tot.now ?_) (fun h => ?_)
  · symm
    rw [decide_eq_false_iff_not]
    rintro ⟨h2, _⟩
    omega
  · refine (implValidReveals_l0 hl l 0 rfl).mono ?_
    rintro t rfl
    rw [decide_eq_decide]
    exact ⟨fun h2 => ⟨by omega, h2⟩, fun h2 => h2.2⟩
theorem implHonest_l0 {l : List Rv} (hl : l.length ≤ 1000000000) (hR : ∀ r ∈ l, okR r) : ∀ (r : List Rv) (i : Nat) (out : List Int), l.drop i = r → out.length ≤ i →
    Tot (fun k => impl_Honest.l0 k out l l.length i) (fun t => t = out ++ hidx r i) := by
  intro r
  induction r with
  | nil =>
    intro i out h ho
    have := drop_nil h
    exact Tot.step (fun _ => impl_Honest.l0.eq_2 ..) (Tot.neg (by omega) (Tot.now (by simp [hidx])))
  | cons x r ih =>
    intro i out h ho
    obtain ⟨h1, h2, h3⟩ := drop_cons h
    refine Tot.step (fun _ => impl_Honest.l0.eq_2 ..) ?_
    have hx := hR x (List.mem_of_getElem? h3)
    unfold okR at hx
    rw [rdRv_at h3, w64s (by omega), implCommit_eq, if_pos hx]
    simp only [Option.bind_some]
    refine Tot.pos (by omega) (Tot.pos (by omega) (Tot.pos (by omega) (Tot.ite (fun hc => Tot.pos (by omega) ?_) (fun hc => ?_))))
    · refine (ih (i + 1) _ h2 (by simp; omega)).mono ?_
      rintro t rfl
      simp [hidx, hon, hc]
    · refine (ih (i + 1) _ h2 (by omega)).mono ?_
      rintro t rfl
      simp [hidx, hon, hc]
theorem implHonest_tot {l : List Rv} (hl : l.length ≤ 1000000000) : Tot (fun k => impl_Honest.f k l) (fun t => t = if RV l then hidx l 0 else []) := by
  unfold impl_Honest.f
  refine Tot.bind (implValidReveals_tot hl) ?_
  rintro t rfl
  simp only [decide_eq_true_eq]
  refine Tot.ite (fun h => ?_) (fun h => ?_)
  · rw [if_pos h]
    exact implHonest_l0 hl h.2 l 0 [] rfl (Nat.le_refl _)
  · rw [if_neg h]; exact Tot.now rfl
theorem hsum_range : ∀ {l : List Rv}, (∀ r ∈ l, okR r) → 0 ≤ hsum l ∧ hsum l ≤ 50000 * l.length := by
  intro l
  induction l with
  | nil => intro _; simp [hsum]
  | cons x r ih =>
    intro h
    have h1 := ih (fun y hy => h y (List.mem_cons_of_mem _ hy))
    have h2 := h x (by simp)
    unfold okR at h2
    simp only [hsum, List.length_cons]
    split <;> omega
theorem hidx_mem {l : List Rv} : ∀ {r : List Rv} {i : Nat}, l.drop i = r → ∀ x ∈ hidx r i, 0 ≤ x ∧ x < l.length := by
  intro r
  induction r with
  | nil => intro i _ x hx; simp [hidx] at hx
  | cons y r ih =>
    intro i h x hx
    obtain ⟨h1, h2, h3⟩ := drop_cons h
    rw [hidx] at hx
    split at hx
    · rcases List.mem_cons.1 hx with rfl | hx
      · omega
      · exact ih h2 x hx
    · exact ih h2 x hx
theorem hidx_len : ∀ {r : List Rv} {i : Nat}, (hidx r i).length ≤ r.length := by
  intro r
  induction r with
  | nil => intro i; simp [hidx]
  | cons y r ih =>
    intro i
    have := ih (i := i + 1)
    rw [hidx]
    split <;> simp <;> omega
theorem honestSum_l0 {l : List Rv} (hl : l.length ≤ 12) (hR : ∀ r ∈ l, okR r) {ids : List Int} (hids : ids.length ≤ 12) : ∀ (r : List Rv) (i j : Nat) (acc : Int), l.drop i = r → ids.drop j = hidx r i → 0 ≤ acc → acc ≤ 50000 * i →
    Tot (fun k => impl_honestSum.l0 k l acc ids ids.length j) (fun t => t = acc + hsum r) := by
  intro r
  induction r with
  | nil =>
    intro i j acc h hj _ _
    rw [hidx] at hj
    have := drop_nil hj
    exact Tot.step (fun _ => impl_honestSum.l0.eq_2 ..) (Tot.neg (by omega) (Tot.now (by simp [hsum])))
  | cons x r ih =>
    intro i j acc h hj ha ha2
    obtain ⟨h1, h2, h3⟩ := drop_cons h
    rw [hidx] at hj
    rw [hsum]
    by_cases hx : hon x = true
    · rw [if_pos hx] at hj ⊢
      obtain ⟨g1, g2, g3⟩ := drop_cons hj
      have hok := hR x (List.mem_of_getElem? h3)
      unfold okR at hok
      refine Tot.step (fun _ => impl_honestSum.l0.eq_2 ..) ?_
      rw [rd_at g3, rdRv_at h3, w64s (i := j) (by omega), w64 (x := acc + x.f1) (by omega) (by omega)]
      refine Tot.pos (by omega) (Tot.pos (by omega) (Tot.pos (by omega) (Tot.pos (by omega) (Tot.pos (by omega) ?_))))
      refine (ih (i + 1) (j + 1) _ h2 g2 (by omega) (by omega)).mono ?_
      rintro t rfl
      omega
    · rw [if_neg hx] at hj ⊢
      refine (ih (i + 1) j acc h2 hj ha (by omega)).mono ?_
      rintro t rfl
      omega
theorem honestSum_tot {l : List Rv} (h : RV l) : Tot (fun k => impl_honestSum.f k l) (fun t => t = hsum l) := by
  unfold impl_honestSum.f
  refine Tot.bind (implHonest_tot (by have := h.1; omega)) ?_
  rintro t rfl
  rw [if_pos h]
  have h1 := h.1
  have h2 := hidx_len (r := l) (i := 0)
  refine (honestSum_l0 h1 h.2 (by omega) l 0 0 0 rfl rfl (Int.le_refl _) (by omega)).mono ?_
  rintro t rfl
  omega
theorem implDrawOf_tot {l : List Rv} {c : Int} (hl : l.length ≤ 1000000000) : Tot (fun k => impl_DrawOf.f k l c) (fun t => t = if RV l ∧ 1 ≤ c ∧ c ≤ 50000 then (hsum l, hsum l % c) else (-1, -1)) := by
  unfold impl_DrawOf.f
  refine Tot.bind (implValidReveals_tot hl) ?_
  rintro t rfl
  simp only [decide_eq_true_eq]
  refine Tot.ite (fun h => Tot.ite (fun h2 => ?_) (fun h2 => Tot.ite (fun h3 => ?_) (fun h3 => ?_))) (fun h => ?_)
  · rw [if_neg (by omega)]; exact Tot.now rfl
  · rw [if_neg (by omega)]; exact Tot.now rfl
  · rw [if_pos ⟨h, by omega, by omega⟩]
    refine Tot.bind (honestSum_tot h) ?_
    rintro t rfl
    refine Tot.neg (by omega) (Tot.now ?_)
    rw [tmod_nn (hsum_range h.2).1]
  · rw [if_neg (fun h2 => h h2.1)]; exact Tot.now rfl
theorem specValidReveals_l0 {l : List Rv} (hl : l.length ≤ 1000000000) : ∀ (r : List Rv) (i : Nat), l.drop i = r →
    Tot (fun k => spec_validReveals.l0 k l i) (fun t => t = decide (l.length ≤ 12 ∧ ∀ x ∈ r, okR x)) := by
  intro r
  induction r with
  | nil =>
    intro i h
    have := drop_nil h
    refine Tot.step (fun _ => spec_validReveals.l0.eq_2 ..) (Tot.neg (by omega) (Tot.now ?_))
    rw [decide_eq_decide]
    simp
    omega
  | cons x r ih =>
    intro i h
    obtain ⟨h1, h2, h3⟩ := drop_cons h
    refine Tot.step (fun _ => spec_validReveals.l0.eq_2 ..) ?_
    rw [rdRv_at h3, w64s (by omega), inRange_eq, inRange_eq]
    simp only [Option.bind_some, decide_eq_true_eq]
    refine Tot.pos (by omega) (Tot.pos (by omega) (Tot.ite (fun h4 => Tot.ite (fun h5 => ?_) (fun h5 => Tot.now ?_)) (fun h4 => Tot.now ?_)))
    · refine (ih (i + 1) h2).mono ?_
      rintro t rfl
      rw [decide_eq_decide]
      simp only [List.mem_cons, forall_eq_or_imp]
      exact ⟨fun h => ⟨h.1, ⟨h4, h5⟩, h.2⟩, fun h => ⟨h.1, h.2.2⟩⟩
    · symm
      rw [decide_eq_false_iff_not]
      exact fun h => h5 (h.2 x (by simp)).2
    · symm
      rw [decide_eq_false_iff_not]
      exact fun h => h4 (h.2 x (by simp)).1
theorem specValidReveals_tot {l : List Rv} (hl : l.length ≤ 1000000000) : Tot (fun k => spec_validReveals.f k l) (fun t => t = decide (RV l)) := by
  unfold spec_validReveals.f
  exact specValidReveals_l0 hl l 0 rfl
theorem specDrawOf_l0 {l : List Rv} {c : Int} (hc : 1 ≤ c) (hl : l.length ≤ 12) (hR : ∀ r ∈ l, okR r) : ∀ (r : List Rv) (i : Nat) (acc : Int), l.drop i = r → 0 ≤ acc → acc ≤ 50000 * i →
    Tot (fun k => spec_DrawOf.l0 k l c acc i) (fun t => t = (acc + hsum r, (acc + hsum r) % c)) := by
  intro r
  induction r with
  | nil =>
    intro i acc h ha _
    have := drop_nil h
    refine Tot.step (fun _ => spec_DrawOf.l0.eq_2 ..) (Tot.neg (by omega) (Tot.neg (by omega) (Tot.now ?_)))
    rw [hsum, tmod_nn ha]; simp
  | cons x r ih =>
    intro i acc h ha ha2
    obtain ⟨h1, h2, h3⟩ := drop_cons h
    have hok := hR x (List.mem_of_getElem? h3)
    unfold okR at hok
    refine Tot.step (fun _ => spec_DrawOf.l0.eq_2 ..) ?_
    rw [rdRv_at h3, w64s (i := i) (by omega), w64 (x := acc + x.f1) (by omega) (by omega), specCommit_eq hok.1.1 hok.1.2 hok.2.1 hok.2.2, hsum]
    simp only [Option.bind_some]
    refine Tot.pos (by omega) (Tot.pos (by omega) (Tot.ite (fun h4 => ?_) (fun h4 => ?_)))
    · refine (ih (i + 1) _ h2 (by omega) (by omega)).mono ?_
      rintro t rfl
      rw [if_pos (by simp [hon, h4]), Int.add_assoc]
    · refine (ih (i + 1) _ h2 (by omega) (by omega)).mono ?_
      rintro t rfl
      rw [if_neg (by simp [hon, h4]), Int.zero_add]
theorem specDrawOf_tot {l : List Rv} {c : Int} (hl : l.length ≤ 1000000000) : Tot (fun k => spec_DrawOf.f k l c) (fun t => t = if RV l ∧ 1 ≤ c ∧ c ≤ 50000 then (hsum l, hsum l % c) else (-1, -1)) := by
  unfold spec_DrawOf.f
  refine Tot.bind (specValidReveals_tot hl) ?_
  rintro t rfl
  rw [inRange_eq]
  simp only [Option.bind_some, decide_eq_true_eq]
  refine Tot.ite (fun h => Tot.step (fun _ => spec_DrawOf.j0.eq_2 ..) ?_) (fun h => Tot.step (fun _ => spec_DrawOf.j0.eq_2 ..) (Tot.pos rfl ?_))
  · by_cases h2 : 1 ≤ c ∧ c ≤ 50000
    · rw [if_pos ⟨h, h2⟩]
      refine Tot.neg (by simp [h2]) ?_
      refine (specDrawOf_l0 h2.1 h.1 h.2 l 0 0 rfl (Int.le_refl _) (by omega)).mono ?_
      rintro t rfl
      simp
    · rw [if_neg (fun h3 => h2 h3.2)]
      exact Tot.pos (by simp; omega) (Tot.now rfl)
  · rw [if_neg (fun h2 => h h2.1)]; exact Tot.now rfl
/-! the mirror of Reveal -/
def convReveal (r : S83) : S36 := ⟨r.f0, r.f1, r.f2⟩
theorem rdLReveal_at {l : List S83} {i : Nat} {r : S83} (h : l[i]? = some r) : rd_T83 l (i : Int) = r := by
  simp [rd_T83, List.getD_eq_getElem?_getD, h]
theorem rdIReveal_at {l : List S36} {i : Nat} {r : S36} (h : l[i]? = some r) : rd_T36 l (i : Int) = r := by
  simp [rd_T36, List.getD_eq_getElem?_getD, h]
theorem szReveal_eq {l : List S83} (hl : l.length ≤ maxLen) {a : Int} (ha : 0 ≤ a) (ha2 : a ≤ 1048576) : laws_szRevealS.f l a = some (if a - (l.length : Int) < 0 then -1 else a - (l.length : Int)) := by
  unfold maxLen at hl
  unfold laws_szRevealS.f
  rw [w64 (x := a - (l.length : Int)) (by omega) (by omega)]
  split <;> rfl
theorem toReveal_l0 {xs : List S83} (hl : xs.length ≤ 1000000000) : ∀ (d i : Nat), i + d = xs.length →
    Tot (fun k => laws_toRevealS.l0 k xs ((xs.take i).map convReveal ++ List.replicate d z36) i) (fun t => t = xs.map convReveal) := by
  intro d
  induction d with
  | zero =>
    intro i hi
    exact Tot.step (fun _ => laws_toRevealS.l0.eq_2 ..) (Tot.neg (by omega) (Tot.now (by rw [List.replicate_zero, List.append_nil, List.take_of_length_le (by omega)])))
  | succ d ih =>
    intro i hi
    refine Tot.step (fun _ => laws_toRevealS.l0.eq_2 ..) ?_
    have hg : xs[i]? = some xs[i] := List.getElem?_eq_getElem (by omega)
    rw [rdLReveal_at hg, w64s (by omega), Int.toNat_natCast]
    refine Tot.pos (by omega) (Tot.pos (by omega) ?_)
    refine Tot.known (F := fun k (t : Int × Int × Int) => if (i : Int) < (((xs.take i).map convReveal ++ List.replicate (d + 1) z36).length : Int) then laws_toRevealS.l0 k xs (((xs.take i).map convReveal ++ List.replicate (d + 1) z36).set i (⟨t.1, t.2.1, t.2.2⟩ : S36)) ((i + 1 : Nat) : Int) else none) ?_
    refine Tot.pos (by rw [List.length_append, List.length_replicate, List.length_map, List.length_take]; omega) ?_
    have h := ih (i + 1) (by omega)
    rw [← set_fill_map (z := z36) (d := d) (show i < xs.length by omega)] at h
    exact h
theorem toReveal_tot {xs : List S83} (hl : xs.length ≤ 1000000000) : Tot (fun k => laws_toRevealS.f k xs) (fun t => t = xs.map convReveal) := by
  unfold laws_toRevealS.f
  refine Tot.pos (by omega) (Tot.pos (by omega) ?_)
  rw [Int.toNat_natCast]
  exact toReveal_l0 hl xs.length 0 (by omega)
theorem eqReveal_l0 {xs : List S36} (hl : xs.length ≤ 1000000000) : ∀ (d i : Nat), i + d = xs.length → Tot (fun k => laws_eqRevealS.l0 k xs xs i) (fun t => t = true) := by
  intro d
  induction d with
  | zero =>
    intro i hi
    exact Tot.step (fun _ => laws_eqRevealS.l0.eq_2 ..) (Tot.neg (by omega) (Tot.now rfl))
  | succ d ih =>
    intro i hi
    refine Tot.step (fun _ => laws_eqRevealS.l0.eq_2 ..) ?_
    have hg : xs[i]? = some xs[i] := List.getElem?_eq_getElem (by omega)
    have he : ∀ r : S36, laws_eqReveal.f r.f0 r.f1 r.f2 r.f0 r.f1 r.f2 = some true := fun r => by simp [laws_eqReveal.f]
    rw [rdIReveal_at hg, w64s (by omega), he]
    refine Tot.pos (by omega) (Tot.pos (by omega) (Tot.pos (by omega) ?_))
    refine Tot.known (F := fun k (t : Bool) => if t = true then laws_eqRevealS.l0 k xs xs ((i + 1 : Nat) : Int) else some false) ?_
    exact Tot.pos rfl (ih (i + 1) (by omega))
theorem eqReveal_tot {xs : List S36} (hl : xs.length ≤ 1000000000) : Tot (fun k => laws_eqRevealS.f k xs xs) (fun t => t = true) := by
  unfold laws_eqRevealS.f
  exact Tot.pos rfl (eqReveal_l0 hl xs.length 0 (by omega))

theorem FnExactDrawOf : ∀ (l : List S83) (c : Int), l.length ≤ maxLen → (∀ x ∈ l, (Lit.int .i64 x.f0).wf = true ∧ (Lit.int .i64 x.f1).wf = true ∧ (Lit.int .i64 x.f2).wf = true) → (Lit.int .i64 c).wf = true → ∃ k, laws_FnExactDrawOf.f k l c = some true := by
  intro l c hl hw hc
  refine Tot.ends (g := fun k => laws_FnExactDrawOf.f k l c) ?_
  unfold laws_FnExactDrawOf.f
  rw [szReveal_eq hl (by omega) (by omega)]
  by_cases h0 : (1048576 : Int) - (l.length : Int) < 0
  · rw [if_pos h0]
    simp only [Option.bind_some]
    exact Tot.pos (by omega) (Tot.now rfl)
  rw [if_neg h0]
  simp only [Option.bind_some]
  refine Tot.neg (by omega) ?_
  refine Tot.bind (toReveal_tot (by omega)) ?_
  rintro _ rfl
  have hm : (l.map convReveal).length = l.length := List.length_map _
  refine Tot.bind (specDrawOf_tot (by omega)) ?_
  rintro _ rfl
  refine Tot.bind (toReveal_tot (by omega)) ?_
  rintro _ rfl
  refine Tot.bind (implDrawOf_tot (by omega)) ?_
  rintro _ rfl
  refine Tot.pos rfl (Tot.step (fun _ => laws_FnExactDrawOf.j0.eq_2 ..) (Tot.neg (by simp) ?_))
  refine Tot.bind (toReveal_tot (by omega)) ?_
  rintro _ rfl
  refine Tot.bind (eqReveal_tot (by omega)) ?_
  rintro _ rfl
  exact Tot.pos rfl (Tot.now rfl)
end Go.Proofs.Ytlkcblhagcgboaa.Pure
