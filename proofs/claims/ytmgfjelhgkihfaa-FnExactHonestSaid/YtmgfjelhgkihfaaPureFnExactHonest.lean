/- FnExactHonest: for all arguments Honest of the program and of the reference agree, and memory is kept apart. No condition beyond the statement's own. -/
import Derived.Test.YtmgfjelhgkihfaaPFnExactHonestx3
import Derived.Test.YtmgfjelhgkihfaaCore
namespace Go.Proofs.Ytmgfjelhgkihfaa.Pure
open Go.RowKit Go.Proofs.Ytmgfjelhgkihfaa.PFnExactHonest Go.Proofs.YtmgfjelhgkihfaaW.PrintWords
set_option linter.unusedSimpArgs false
set_option linter.unusedVariables false

theorem inRange_eq (a b c : Int) : spec_inRange.f a b c = some (decide (b ≤ a ∧ a ≤ c)) := by
  unfold spec_inRange.f
  by_cases h : b ≤ a
  · rw [if_pos h]; simp [h]
  · rw [if_neg h]; simp [h]
/-! reveals -/
abbrev Rv := S123
def rdRv (l : List Rv) (i : Int) : Rv := rd_T123 l i
def okR (r : Rv) : Prop := (0 ≤ r.f1 ∧ r.f1 ≤ 50000) ∧ (0 ≤ r.f2 ∧ r.f2 ≤ 9999)
instance (r : Rv) : Decidable (okR r) := inferInstanceAs (Decidable ((0 ≤ r.f1 ∧ r.f1 ≤ 50000) ∧ (0 ≤ r.f2 ∧ r.f2 ≤ 9999)))
def RV (l : List Rv) : Prop := l.length ≤ 12 ∧ ∀ r ∈ l, okR r
instance (l : List Rv) : Decidable (RV l) := inferInstanceAs (Decidable (l.length ≤ 12 ∧ ∀ r ∈ l, okR r))
def com (v s : Int) : Int := (v * 7919 + s * s + s) % 99991
def hon (r : Rv) : Bool := com r.f1 r.f2 == r.f0
def hsum : List Rv → Int
  | [] => 0
  | r :: l => (if hon r then r.f1 else 0) + hsum l
def hidx : List Rv → Nat → List Int
  | [], _ => []
  | r :: l, i => if hon r then (i : Int) :: hidx l (i + 1) else hidx l (i + 1)
theorem rdRv_at {l : List Rv} {i : Nat} {r : Rv} (h : l[i]? = some r) : rd_T123 l (i : Int) = r := by
  simp [rd_T123, List.getD_eq_getElem?_getD, h]
theorem sq_le {s : Int} (h0 : 0 ≤ s) (h1 : s ≤ 9999) : 0 ≤ s * s ∧ s * s ≤ 99980001 := by
  refine ⟨Int.mul_nonneg h0 h0, ?_⟩
  have := Int.mul_le_mul h1 h1 h0 (by omega)
  omega
theorem com_range {v s : Int} : 0 ≤ com v s ∧ com v s < 99991 := by
  unfold com; omega
theorem commitV {v s : Int} (hv : 0 ≤ v) (hv2 : v ≤ 50000) (hs : 0 ≤ s) (hs2 : s ≤ 9999) : Int.tmod (wrap64 ((wrap64 ((wrap64 (v * 7919)) + (wrap64 (s * s)))) + s)) 99991 = com v s := by
  have h := sq_le hs hs2
  unfold com
  generalize s * s = q at h ⊢
  rw [w64 (x := v * 7919) (by omega) (by omega), w64 (x := q) (by omega) (by omega), w64 (x := v * 7919 + q) (by omega) (by omega), w64 (x := v * 7919 + q + s) (by omega) (by omega), tmod_nn (by omega)]
theorem specCommit_eq {v s : Int} (hv : 0 ≤ v) (hv2 : v ≤ 50000) (hs : 0 ≤ s) (hs2 : s ≤ 9999) : spec_commit.f v s = some (com v s) := by
  unfold spec_commit.f
  rw [commitV hv hv2 hs hs2]
theorem implCommit_eq (v s : Int) : impl_CommitTo.f v s = some (if (0 ≤ v ∧ v ≤ 50000) ∧ (0 ≤ s ∧ s ≤ 9999) then com v s else -1) := by
  unfold impl_CommitTo.f
  by_cases h1 : v < 0
  · rw [if_pos h1, if_neg (by omega)]
  by_cases h2 : v > 50000
  · rw [if_neg h1, if_pos h2, if_neg (by omega)]
  by_cases h3 : s < 0
  · rw [if_neg h1, if_neg h2, if_pos h3, if_neg (by omega)]
  by_cases h4 : s > 9999
  · rw [if_neg h1, if_neg h2, if_neg h3, if_pos h4, if_neg (by omega)]
  rw [if_neg h1, if_neg h2, if_neg h3, if_neg h4, if_pos (by omega), commitV (by omega) (by omega) (by omega) (by omega)]
theorem implValidReveals_l0 {l : List Rv} (hl : l.length ≤ 1000000000) : ∀ (r : List Rv) (i : Nat), l.drop i = r →
    Tot (fun k => impl_validReveals.l0 k l l.length i) (fun t => t = decide (∀ x ∈ r, okR x)) := by
  intro r
  induction r with
  | nil =>
    intro i h
    have := drop_nil h
    exact Tot.step (fun _ => impl_validReveals.l0.eq_2 ..) (Tot.neg (by omega) (Tot.now (by simp)))
  | cons x r ih =>
    intro i h
    obtain ⟨h1, h2, h3⟩ := drop_cons h
    refine Tot.step (fun _ => impl_validReveals.l0.eq_2 ..) ?_
    rw [rdRv_at h3, w64s (by omega), implCommit_eq]
    simp only [Option.bind_some]
    have hc := com_range (v := x.f1) (s := x.f2)
    refine Tot.pos (by omega) (Tot.pos (by omega) (Tot.pos (by omega) ?_))
    by_cases hx : okR x
    · unfold okR at hx
      rw [if_pos hx]
      refine Tot.neg (by omega) ((ih (i + 1) h2).mono ?_)
      rintro t rfl
      rw [decide_eq_decide]
      simp only [List.mem_cons, forall_eq_or_imp]
      exact ⟨fun h => ⟨hx, h⟩, fun h => h.2⟩
    · unfold okR at hx
      rw [if_neg hx]
      refine Tot.pos (by omega) (Tot.now ?_)
      symm
      rw [decide_eq_false_iff_not]
      exact fun h => hx (h x (by simp))
theorem implValidReveals_tot {l : List Rv} (hl : l.length ≤ 1000000000) : Tot (fun k => impl_validReveals.f k l) (fun t => t = decide (RV l)) := by
  unfold impl_validReveals.f
  refine Tot.ite (fun h => Tot.now ?_) (fun h => ?_)
  · symm
    rw [decide_eq_false_iff_not]
    rintro ⟨h2, _⟩
    omega
  · refine (implValidReveals_l0 hl l 0 rfl).mono ?_
    rintro t rfl
    rw [decide_eq_decide]
    exact ⟨fun h2 => ⟨by omega, h2⟩, fun h2 => h2.2⟩
theorem implHonest_l0 {l : List Rv} (hl : l.length ≤ 1000000000) (hR : ∀ r ∈ l, okR r) : ∀ (r : List Rv) (i : Nat) (out : List Int), l.drop i = r → out.length ≤ i →
    Tot (fun k => impl_Honest.l0 k out l l.length i) (fun t => t = out ++ hidx r i) := by
  intro r
  induction r with
  | nil =>
    intro i out h ho
    have := drop_nil h
    exact Tot.step (fun _ => impl_Honest.l0.eq_2 ..) (Tot.neg (by omega) (Tot.now (by simp [hidx])))
  | cons x r ih =>
    intro i out h ho
    obtain ⟨h1, h2, h3⟩ := drop_cons h
    refine Tot.step (fun _ => impl_Honest.l0.eq_2 ..) ?_
    have hx := hR x (List.mem_of_getElem? h3)
    unfold okR at hx
    rw [rdRv_at h3, w64s (by omega), implCommit_eq, if_pos hx]
    simp only [Option.bind_some]
    refine Tot.pos (by omega) (Tot.pos (by omega) (Tot.pos (by omega) (Tot.ite (fun hc => Tot.pos (by omega) ?_) (fun hc => ?_))))
    · refine (ih (i + 1) _ h2 (by simp; omega)).mono ?_
      rintro t rfl
      simp [hidx, hon, hc]
    · refine (ih (i + 1) _ h2 (by omega)).mono ?_
      rintro t rfl
      simp [hidx, hon, hc]
theorem implHonest_tot {l : List Rv} (hl : l.length ≤ 1000000000) : Tot (fun k => impl_Honest.f k l) (fun t => t = if RV l then hidx l 0 else []) := by
  unfold impl_Honest.f
  refine Tot.bind (implValidReveals_tot hl) ?_
  rintro t rfl
  simp only [decide_eq_true_eq]
  refine Tot.ite (fun h => ?_) (fun h => ?_)
  · rw [if_pos h]
    exact implHonest_l0 hl h.2 l 0 [] rfl (Nat.le_refl _)
  · rw [if_neg h]; exact Tot.now rfl
theorem hsum_range : ∀ {l : List Rv}, (∀ r ∈ l, okR r) → 0 ≤ hsum l ∧ hsum l ≤ 50000 * l.length := by
  intro l
  induction l with
  | nil => intro _; simp [hsum]
  | cons x r ih =>
    intro h
    have h1 := ih (fun y hy => h y (List.mem_cons_of_mem _ hy))
    have h2 := h x (by simp)
    unfold okR at h2
    simp only [hsum, List.length_cons]
    split <;> omega
theorem hidx_mem {l : List Rv} : ∀ {r : List Rv} {i : Nat}, l.drop i = r → ∀ x ∈ hidx r i, 0 ≤ x ∧ x < l.length := by
  intro r
  induction r with
  | nil => intro i _ x hx; simp [hidx] at hx
  | cons y r ih =>
    intro i h x hx
    obtain ⟨h1, h2, h3⟩ := drop_cons h
    rw [hidx] at hx
    split at hx
    · rcases List.mem_cons.1 hx with rfl | hx
      · omega
      · exact ih h2 x hx
    · exact ih h2 x hx
theorem hidx_len : ∀ {r : List Rv} {i : Nat}, (hidx r i).length ≤ r.length := by
  intro r
  induction r with
  | nil => intro i; simp [hidx]
  | cons y r ih =>
    intro i
    have := ih (i := i + 1)
    rw [hidx]
    split <;> simp <;> omega
theorem specValidReveals_l0 {l : List Rv} (hl : l.length ≤ 1000000000) : ∀ (r : List Rv) (i : Nat), l.drop i = r →
    Tot (fun k => spec_validReveals.l0 k l i) (fun t => t = decide (l.length ≤ 12 ∧ ∀ x ∈ r, okR x)) := by
  intro r
  induction r with
  | nil =>
    intro i h
    have := drop_nil h
    refine Tot.step (fun _ => spec_validReveals.l0.eq_2 ..) (Tot.neg (by omega) (Tot.now ?_))
    rw [decide_eq_decide]
    simp
    omega
  | cons x r ih =>
    intro i h
    obtain ⟨h1, h2, h3⟩ := drop_cons h
    refine Tot.step (fun _ => spec_validReveals.l0.eq_2 ..) ?_
    rw [rdRv_at h3, w64s (by omega), inRange_eq, inRange_eq]
    simp only [Option.bind_some, decide_eq_true_eq]
    refine Tot.pos (by omega) (Tot.pos (by omega) (Tot.ite (fun h4 => Tot.ite (fun h5 => ?_) (fun h5 => Tot.now ?_)) (fun h4 => Tot.now ?_)))
    · refine (ih (i + 1) h2).mono ?_
      rintro t rfl
      rw [decide_eq_decide]
      simp only [List.mem_cons, forall_eq_or_imp]
      exact ⟨fun h => ⟨h.1, ⟨h4, h5⟩, h.2⟩, fun h => ⟨h.1, h.2.2⟩⟩
    · symm
      rw [decide_eq_false_iff_not]
      exact fun h => h5 (h.2 x (by simp)).2
    · symm
      rw [decide_eq_false_iff_not]
      exact fun h => h4 (h.2 x (by simp)).1
theorem specValidReveals_tot {l : List Rv} (hl : l.length ≤ 1000000000) : Tot (fun k => spec_validReveals.f k l) (fun t => t = decide (RV l)) := by
  unfold spec_validReveals.f
  exact specValidReveals_l0 hl l 0 rfl
theorem specHonest_l0 {l : List Rv} (hl : l.length ≤ 1000000000) (hR : ∀ r ∈ l, okR r) : ∀ (r : List Rv) (i : Nat) (out : List Int), l.drop i = r → out.length ≤ i →
    Tot (fun k => spec_Honest.l0 k l out i) (fun t => t = out ++ hidx r i) := by
  intro r
  induction r with
  | nil =>
    intro i out h ho
    have := drop_nil h
    exact Tot.step (fun _ => spec_Honest.l0.eq_2 ..) (Tot.neg (by omega) (Tot.now (by simp [hidx])))
  | cons x r ih =>
    intro i out h ho
    obtain ⟨h1, h2, h3⟩ := drop_cons h
    refine Tot.step (fun _ => spec_Honest.l0.eq_2 ..) ?_
    have hx := hR x (List.mem_of_getElem? h3)
    unfold okR at hx
    rw [rdRv_at h3, w64s (by omega), specCommit_eq hx.1.1 hx.1.2 hx.2.1 hx.2.2]
    simp only [Option.bind_some]
    refine Tot.pos (by omega) (Tot.pos (by omega) (Tot.ite (fun hc => Tot.pos (by omega) ?_) (fun hc => ?_)))
    · refine (ih (i + 1) _ h2 (by simp; omega)).mono ?_
      rintro t rfl
      simp [hidx, hon, hc]
    · refine (ih (i + 1) _ h2 (by omega)).mono ?_
      rintro t rfl
      simp [hidx, hon, hc]
theorem specHonest_tot {l : List Rv} (hl : l.length ≤ 1000000000) : Tot (fun k => spec_Honest.f k l) (fun t => t = if RV l then hidx l 0 else []) := by
  unfold spec_Honest.f
  refine Tot.bind (specValidReveals_tot hl) ?_
  rintro t rfl
  simp only [decide_eq_true_eq]
  refine Tot.ite (fun h => ?_) (fun h => ?_)
  · rw [if_pos h]
    exact specHonest_l0 hl h.2 l 0 [] rfl (Nat.le_refl _)
  · rw [if_neg h]; exact Tot.now rfl
/-! the mirror of Reveal -/
def convReveal (r : S125) : S123 := ⟨r.f0, r.f1, r.f2⟩
theorem rdLReveal_at {l : List S125} {i : Nat} {r : S125} (h : l[i]? = some r) : rd_T125 l (i : Int) = r := by
  simp [rd_T125, List.getD_eq_getElem?_getD, h]
theorem rdIReveal_at {l : List S123} {i : Nat} {r : S123} (h : l[i]? = some r) : rd_T123 l (i : Int) = r := by
  simp [rd_T123, List.getD_eq_getElem?_getD, h]
theorem szReveal_eq {l : List S125} (hl : l.length ≤ maxLen) {a : Int} (ha : 0 ≤ a) (ha2 : a ≤ 1048576) : laws_szRevealS.f l a = some (if a - (l.length : Int) < 0 then -1 else a - (l.length : Int)) := by
  unfold maxLen at hl
  unfold laws_szRevealS.f
  rw [w64 (x := a - (l.length : Int)) (by omega) (by omega)]
  split <;> rfl
theorem toReveal_l0 {xs : List S125} (hl : xs.length ≤ 1000000000) : ∀ (d i : Nat), i + d = xs.length →
    Tot (fun k => laws_toRevealS.l0 k xs ((xs.take i).map convReveal ++ List.replicate d z123) i) (fun t => t = xs.map convReveal) := by
  intro d
  induction d with
  | zero =>
    intro i hi
    exact Tot.step (fun _ => laws_toRevealS.l0.eq_2 ..) (Tot.neg (by omega) (Tot.now (by rw [List.replicate_zero, List.append_nil, List.take_of_length_le (by omega)])))
  | succ d ih =>
    intro i hi
    refine Tot.step (fun _ => laws_toRevealS.l0.eq_2 ..) ?_
    have hg : xs[i]? = some xs[i] := List.getElem?_eq_getElem (by omega)
    rw [rdLReveal_at hg, w64s (by omega), Int.toNat_natCast]
    refine Tot.pos (by omega) (Tot.pos (by omega) ?_)
    refine Tot.known (F := fun k (t : Int × Int × Int) => if (i : Int) < (((xs.take i).map convReveal ++ List.replicate (d + 1) z123).length : Int) then laws_toRevealS.l0 k xs (((xs.take i).map convReveal ++ List.replicate (d + 1) z123).set i (⟨t.1, t.2.1, t.2.2⟩ : S123)) ((i + 1 : Nat) : Int) else none) ?_
    refine Tot.pos (by rw [List.length_append, List.length_replicate, List.length_map, List.length_take]; omega) ?_
    have h := ih (i + 1) (by omega)
    rw [← set_fill_map (z := z123) (d := d) (show i < xs.length by omega)] at h
    exact h
theorem toReveal_tot {xs : List S125} (hl : xs.length ≤ 1000000000) : Tot (fun k => laws_toRevealS.f k xs) (fun t => t = xs.map convReveal) := by
  unfold laws_toRevealS.f
  refine Tot.pos (by omega) (Tot.pos (by omega) ?_)
  rw [Int.toNat_natCast]
  exact toReveal_l0 hl xs.length 0 (by omega)
theorem eqReveal_l0 {xs : List S123} (hl : xs.length ≤ 1000000000) : ∀ (d i : Nat), i + d = xs.length → Tot (fun k => laws_eqRevealS.l0 k xs xs i) (fun t => t = true) := by
  intro d
  induction d with
  | zero =>
    intro i hi
    exact Tot.step (fun _ => laws_eqRevealS.l0.eq_2 ..) (Tot.neg (by omega) (Tot.now rfl))
  | succ d ih =>
    intro i hi
    refine Tot.step (fun _ => laws_eqRevealS.l0.eq_2 ..) ?_
    have hg : xs[i]? = some xs[i] := List.getElem?_eq_getElem (by omega)
    have he : ∀ r : S123, laws_eqReveal.f r.f0 r.f1 r.f2 r.f0 r.f1 r.f2 = some true := fun r => by simp [laws_eqReveal.f]
    rw [rdIReveal_at hg, w64s (by omega), he]
    refine Tot.pos (by omega) (Tot.pos (by omega) (Tot.pos (by omega) ?_))
    refine Tot.known (F := fun k (t : Bool) => if t = true then laws_eqRevealS.l0 k xs xs ((i + 1 : Nat) : Int) else some false) ?_
    exact Tot.pos rfl (ih (i + 1) (by omega))
theorem eqReveal_tot {xs : List S123} (hl : xs.length ≤ 1000000000) : Tot (fun k => laws_eqRevealS.f k xs xs) (fun t => t = true) := by
  unfold laws_eqRevealS.f
  exact Tot.pos rfl (eqReveal_l0 hl xs.length 0 (by omega))

theorem eqIntS_l0 {a b : List Int} (hl : a.length = b.length) (ha : a.length ≤ 1000000000000) : ∀ (r s : List Int) (i : Nat), a.drop i = r → b.drop i = s →
    Tot (fun k => laws_eqIntS.l0 k a b i) (fun t => t = decide (r = s)) := by
  intro r
  induction r with
  | nil =>
    intro s i h h2
    have h3 := drop_nil h
    have h4 : s = [] := by rw [← h2]; exact List.drop_eq_nil_of_le (by omega)
    exact Tot.step (fun _ => laws_eqIntS.l0.eq_2 ..) (Tot.neg (by omega) (Tot.now (by simp [h4])))
  | cons x r ih =>
    intro s i h h2
    obtain ⟨h3, h4, h5⟩ := drop_cons h
    cases s with
    | nil => have := drop_nil h2; omega
    | cons y s =>
      obtain ⟨g3, g4, g5⟩ := drop_cons h2
      refine Tot.step (fun _ => laws_eqIntS.l0.eq_2 ..) ?_
      rw [rd_at h5, rd_at g5, w64s (by omega)]
      refine Tot.pos (by omega) (Tot.pos (by omega) (Tot.pos (by omega) (Tot.ite (fun e => ?_) (fun e => Tot.now (by simp [e])))))
      refine (ih s (i + 1) h4 g4).mono ?_
      rintro t rfl
      simp [e]
theorem eqIntS_tot {a b : List Int} (ha : a.length ≤ 1000000000000) : Tot (fun k => laws_eqIntS.f k a b) (fun t => t = decide (a = b)) := by
  unfold laws_eqIntS.f
  refine Tot.ite (fun h => ?_) (fun h => Tot.now ?_)
  · exact eqIntS_l0 (by omega) ha a b 0 rfl rfl
  · symm
    rw [decide_eq_false_iff_not]
    rintro rfl
    exact h rfl
theorem markIntS_l0 : ∀ (d i : Nat) (xs : List Int) (m : Int), xs.length ≤ 1000000000000 → 0 ≤ m → m + d ≤ 1000000000000 → i + d = xs.length →
    Tot (fun k => laws_markIntS.l0 k xs m i) (fun t => t = (m + d, xs.take i ++ ramp m d)) := by
  intro d
  induction d with
  | zero =>
    intro i xs m hl hm hm2 hi
    refine Tot.step (fun _ => laws_markIntS.l0.eq_2 ..) (Tot.neg (by omega) (Tot.now ?_))
    rw [List.take_of_length_le (by omega)]
    simp [ramp]
  | succ d ih =>
    intro i xs m hl hm hm2 hi
    refine Tot.step (fun _ => laws_markIntS.l0.eq_2 ..) ?_
    rw [w64s (by omega), w64 (x := m + 1) (by omega) (by omega), Int.toNat_natCast]
    refine Tot.pos (by omega) (Tot.pos (by omega) ((ih (i + 1) _ (m + 1) (by simp; omega) (by omega) (by omega) (by simp; omega)).mono ?_))
    rintro t rfl
    rw [take_set_succ (by omega)]
    simp [ramp]
    omega
theorem markIntS_tot {xs : List Int} (hl : xs.length ≤ 100000000000) {m : Int} (hm : 0 ≤ m) (hm2 : m ≤ 100000000000) : Tot (fun k => laws_markIntS.f k xs m) (fun t => t = (m + xs.length, ramp m xs.length)) := by
  unfold laws_markIntS.f
  refine (markIntS_l0 xs.length 0 xs m (by omega) hm (by omega) (by omega)).mono ?_
  rintro t rfl
  simp
theorem heldIntS_l0 {xs : List Int} (hl : xs.length ≤ 1000000000000) : ∀ (d i : Nat) (m : Int), 0 ≤ m → m + d ≤ 1000000000000 → i + d = xs.length → xs.drop i = ramp m d →
    Tot (fun k => laws_heldIntS.l0 k xs m i) (fun t => t = m + d) := by
  intro d
  induction d with
  | zero =>
    intro i m hm hm2 hi h
    exact Tot.step (fun _ => laws_heldIntS.l0.eq_2 ..) (Tot.neg (by omega) (Tot.now (by simp)))
  | succ d ih =>
    intro i m hm hm2 hi h
    rw [ramp] at h
    obtain ⟨h3, h4, h5⟩ := drop_cons h
    refine Tot.step (fun _ => laws_heldIntS.l0.eq_2 ..) ?_
    rw [w64s (by omega), w64 (x := m + 1) (by omega) (by omega), rd_at h5]
    refine Tot.pos (by omega) (Tot.pos (by omega) (Tot.pos rfl ((ih (i + 1) (m + 1) (by omega) (by omega) (by omega) h4).mono ?_)))
    rintro t rfl
    omega
theorem heldIntS_tot {n : Nat} (hl : n ≤ 100000000000) {m : Int} (hm : 0 ≤ m) (hm2 : m ≤ 100000000000) : Tot (fun k => laws_heldIntS.f k (ramp m n) m) (fun t => t = m + n) := by
  unfold laws_heldIntS.f
  have h := ramp_length m n
  exact heldIntS_l0 (by omega) n 0 m hm (by omega) (by omega) rfl
theorem markReveal_l0 : ∀ (d i : Nat) (xs : List Rv) (m : Int), xs.length ≤ 1000000000 → 0 ≤ m → m + 3 * d ≤ 1000000000000 → i + d = xs.length →
    Tot (fun k => laws_markRevealS.l0 k xs m i) (fun t => 0 ≤ t.1) := by
  intro d
  induction d with
  | zero =>
    intro i xs m hl hm hm2 hi
    exact Tot.step (fun _ => laws_markRevealS.l0.eq_2 ..) (Tot.neg (by omega) (Tot.now hm))
  | succ d ih =>
    intro i xs m hl hm hm2 hi
    refine Tot.step (fun _ => laws_markRevealS.l0.eq_2 ..) ?_
    rw [w64s (by omega), w64 (x := m + 1) (by omega) (by omega), w64 (x := m + 1 + 1) (by omega) (by omega), w64 (x := m + 1 + 1 + 1) (by omega) (by omega)]
    refine Tot.pos (by omega) (Tot.pos (by omega) (Tot.known (Tot.known ?_)))
    exact ih (i + 1) _ _ (by simp only [List.length_set]; exact hl) (by omega) (by omega) (by simp only [List.length_set]; omega)
theorem FnExactHonest : ∀ (l : List S125), l.length ≤ maxLen → (∀ x ∈ l, (Lit.int .i64 x.f0).wf = true ∧ (Lit.int .i64 x.f1).wf = true ∧ (Lit.int .i64 x.f2).wf = true) → ∃ k, laws_FnExactHonest.f k l = some true := by
  intro l hl hw
  refine Tot.ends (g := fun k => laws_FnExactHonest.f k l) ?_
  unfold laws_FnExactHonest.f
  rw [szReveal_eq hl (by omega) (by omega)]
  by_cases h0 : (1048576 : Int) - (l.length : Int) < 0
  · rw [if_pos h0]
    simp only [Option.bind_some]
    exact Tot.pos (by omega) (Tot.now rfl)
  rw [if_neg h0]
  simp only [Option.bind_some]
  refine Tot.neg (by omega) ?_
  refine Tot.bind (toReveal_tot (by omega)) ?_
  rintro _ rfl
  have hm : (l.map convReveal).length = l.length := List.length_map _
  have hh : (if RV (l.map convReveal) then hidx (l.map convReveal) 0 else []).length ≤ 1000000000 := by
    split
    · have := hidx_len (r := l.map convReveal) (i := 0); omega
    · simp
  refine Tot.bind (specHonest_tot (by omega)) ?_
  rintro _ rfl
  refine Tot.bind (toReveal_tot (by omega)) ?_
  rintro _ rfl
  refine Tot.bind (implHonest_tot (by omega)) ?_
  rintro _ rfl
  have hagain := implHonest_tot (l := l.map convReveal) (by omega)
  generalize (if RV (l.map convReveal) then hidx (l.map convReveal) 0 else []) = hs at hh hagain ⊢
  refine Tot.bind (eqIntS_tot (by omega)) ?_
  rintro _ rfl
  refine Tot.pos (by simp) ?_
  refine Tot.bind (toReveal_tot (by omega)) ?_
  rintro _ rfl
  refine Tot.bind (eqReveal_tot (by omega)) ?_
  rintro _ rfl
  refine Tot.pos rfl ?_
  refine Tot.bind (P := fun t => 0 ≤ t.1) ?_ ?_
  · unfold laws_markRevealS.f
    exact markReveal_l0 _ 0 _ 1 (by omega) (by omega) (by omega) (Nat.zero_add _)
  rintro ⟨m, ys⟩ hm2
  simp only at hm2
  refine Tot.neg (by simp only; omega) ?_
  refine Tot.bind (eqIntS_tot (by omega)) ?_
  rintro _ rfl
  refine Tot.step (fun _ => laws_FnExactHonest.j0.eq_2 ..) (Tot.neg (by simp) ?_)
  refine Tot.bind (markIntS_tot (by omega) (by omega) (by omega)) ?_
  rintro _ rfl
  dsimp only
  refine Tot.bind (heldIntS_tot (by omega) (by omega) (by omega)) ?_
  rintro _ rfl
  refine Tot.neg (by omega) (Tot.pos rfl ?_)
  refine Tot.bind (toReveal_tot (by omega)) ?_
  rintro _ rfl
  refine Tot.bind hagain ?_
  rintro _ rfl
  refine Tot.bind (eqIntS_tot (by omega)) ?_
  rintro _ rfl
  refine Tot.pos (by simp) ?_
  refine Tot.bind (heldIntS_tot (by omega) (by omega) (by omega)) ?_
  rintro _ rfl
  exact Tot.neg (by omega) (Tot.pos rfl (Tot.now rfl))
end Go.Proofs.Ytmgfjelhgkihfaa.Pure
