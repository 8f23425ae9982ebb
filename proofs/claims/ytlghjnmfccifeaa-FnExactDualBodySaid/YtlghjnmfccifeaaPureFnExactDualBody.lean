/- FnExactDualBody: for all arguments DualBody of the program and of the reference agree, and memory is kept apart. No condition beyond the statement's own. -/
import Derived.Test.YtlghjnmfccifeaaQFnExactDualBodyx4
import Derived.Test.YtlghjnmfccifeaaCore
namespace Go.Proofs.Ytlghjnmfccifeaa.Pure
open Go.RowKit Go.Proofs.Ytlghjnmfccifeaa.PFnExactDualBody Go.Proofs.YtlghjnmfccifeaaW.PrintWords
set_option linter.unusedSimpArgs false
set_option linter.unusedVariables false

def sumL : List Int → Int
  | [] => 0
  | x :: r => x + sumL r
theorem sumL_bound {l : List Int} (h : ∀ x ∈ l, 0 ≤ x ∧ x ≤ 1000000) : 0 ≤ sumL l ∧ sumL l ≤ 1000000 * l.length := by
  induction l with
  | nil => simp [sumL]
  | cons x r ih =>
    have h1 := ih (fun y hy => h y (List.mem_cons_of_mem _ hy))
    have h2 := h x (by simp)
    simp only [sumL, List.length_cons]
    omega
/-- A valid body. -/
def VB (ws : List Int) (need : Int) : Prop := (1 ≤ ws.length ∧ ws.length ≤ 12) ∧ (∀ w ∈ ws, 0 ≤ w ∧ w ≤ 100) ∧ 1 ≤ need ∧ need ≤ sumL ws
instance (ws : List Int) (need : Int) : Decidable (VB ws need) := inferInstanceAs (Decidable ((1 ≤ ws.length ∧ ws.length ≤ 12) ∧ (∀ w ∈ ws, 0 ≤ w ∧ w ≤ 100) ∧ 1 ≤ need ∧ need ≤ sumL ws))
theorem dfalse {p : Prop} {i : Decidable p} (h : ¬ p) : false = @decide p i := by
  symm; rw [decide_eq_false_iff_not]; exact h
theorem dtrue {p : Prop} {i : Decidable p} (h : p) : true = @decide p i := by
  symm; rw [decide_eq_true_iff]; exact h
theorem allWithin_l0 {xs : List Int} {lo hi : Int} (hl : xs.length ≤ 1000000000000) : ∀ (r : List Int) (i : Nat), xs.drop i = r →
    Tot (fun k => impl_allWithin.l0 k lo hi xs xs.length i) (fun t => t = decide (∀ x ∈ r, lo ≤ x ∧ x ≤ hi)) := by
  intro r
  induction r with
  | nil =>
    intro i h
    have := drop_nil h
    exact Tot.step (fun _ => impl_allWithin.l0.eq_2 ..) (Tot.neg (by omega) (Tot.now (by simp)))
  | cons x r ih =>
    intro i h
    obtain ⟨h1, h2, h3⟩ := drop_cons h
    refine Tot.step (fun _ => impl_allWithin.l0.eq_2 ..) ?_
    rw [rd_at h3, w64s (by omega)]
    refine Tot.pos (by omega) (Tot.pos (by omega) (Tot.pos (by omega) (Tot.ite (fun h4 => Tot.now ?_) (fun h4 => Tot.ite (fun h5 => Tot.now ?_) (fun h5 => ?_)))))
    · symm
      rw [decide_eq_false_iff_not]
      exact fun h => by have := h x (by simp); omega
    · symm
      rw [decide_eq_false_iff_not]
      exact fun h => by have := h x (by simp); omega
    · refine (ih (i + 1) h2).mono ?_
      rintro t rfl
      rw [decide_eq_decide]
      simp only [List.mem_cons, forall_eq_or_imp]
      exact ⟨fun h => ⟨⟨by omega, by omega⟩, h⟩, fun h => h.2⟩
theorem allWithin_tot {xs : List Int} {lo hi : Int} (hl : xs.length ≤ 1000000000000) : Tot (fun k => impl_allWithin.f k xs lo hi) (fun t => t = decide (∀ x ∈ xs, lo ≤ x ∧ x ≤ hi)) := by
  unfold impl_allWithin.f
  exact allWithin_l0 hl xs 0 rfl
theorem implSum_l0 {xs : List Int} (hl : xs.length ≤ 1000000) (hx : ∀ x ∈ xs, 0 ≤ x ∧ x ≤ 1000000) : ∀ (r : List Int) (i : Nat) (acc : Int), xs.drop i = r → 0 ≤ acc → acc ≤ 1000000 * i →
    Tot (fun k => impl_sumOf.l0 k acc xs xs.length i) (fun t => t = acc + sumL r) := by
  intro r
  induction r with
  | nil =>
    intro i acc h _ _
    have := drop_nil h
    exact Tot.step (fun _ => impl_sumOf.l0.eq_2 ..) (Tot.neg (by omega) (Tot.now (by simp [sumL])))
  | cons x r ih =>
    intro i acc h ha ha2
    obtain ⟨h1, h2, h3⟩ := drop_cons h
    have h4 := hx x (List.mem_of_getElem? h3)
    refine Tot.step (fun _ => impl_sumOf.l0.eq_2 ..) ?_
    rw [rd_at h3, w64s (by omega), w64 (x := acc + x) (by omega) (by omega)]
    refine Tot.pos (by omega) (Tot.pos (by omega) (Tot.pos (by omega) ((ih (i + 1) (acc + x) h2 (by omega) (by omega)).mono ?_)))
    rintro t rfl
    rw [sumL]; omega
theorem implSum_tot {xs : List Int} (hl : xs.length ≤ 1000000) (hx : ∀ x ∈ xs, 0 ≤ x ∧ x ≤ 1000000) : Tot (fun k => impl_sumOf.f k xs) (fun t => t = sumL xs) := by
  unfold impl_sumOf.f
  refine (implSum_l0 hl hx xs 0 0 rfl (Int.le_refl _) (by omega)).mono ?_
  rintro t rfl
  omega
theorem implVB_tot {ws : List Int} {need : Int} (hl : ws.length ≤ 1000000000) : Tot (fun k => impl_ValidBody.f k ws need) (fun t => t = decide (VB ws need)) := by
  unfold impl_ValidBody.f
  refine Tot.ite (fun h => Tot.now (dfalse fun h2 => by have := h2.1; omega)) (fun h => Tot.ite (fun h1 => Tot.now (dfalse fun h2 => by have := h2.1; omega)) (fun h1 => ?_))
  refine Tot.bind (allWithin_tot (by omega)) ?_
  rintro _ rfl
  simp only [decide_eq_true_eq]
  refine Tot.ite (fun h2 => Tot.ite (fun h3 => ?_) (fun h3 => Tot.now (dfalse fun h4 => h3 h4.2.2.1))) (fun h2 => Tot.now (dfalse fun h4 => h2 h4.2.1))
  refine Tot.bind (implSum_tot (by omega) (fun x hx => ⟨(h2 x hx).1, by have := (h2 x hx).2; omega⟩)) ?_
  rintro _ rfl
  refine Tot.now ?_
  rw [decide_eq_decide]
  exact ⟨fun h4 => ⟨by omega, h2, h3, h4⟩, fun h4 => h4.2.2.2⟩
theorem inRange_eq (a b c : Int) : spec_inRange.f a b c = some (decide (b ≤ a ∧ a ≤ c)) := by
  unfold spec_inRange.f
  by_cases h : b ≤ a
  · rw [if_pos h]; simp [h]
  · rw [if_neg h]; simp [h]
theorem allIn_l0 {xs : List Int} {lo hi : Int} (hl : xs.length ≤ 1000000000000) : ∀ (r : List Int) (i : Nat), xs.drop i = r →
    Tot (fun k => spec_allIn.l0 k xs lo hi i) (fun t => t = decide (∀ x ∈ r, lo ≤ x ∧ x ≤ hi)) := by
  intro r
  induction r with
  | nil =>
    intro i h
    have := drop_nil h
    exact Tot.step (fun _ => spec_allIn.l0.eq_2 ..) (Tot.neg (by omega) (Tot.now (by simp)))
  | cons x r ih =>
    intro i h
    obtain ⟨h1, h2, h3⟩ := drop_cons h
    refine Tot.step (fun _ => spec_allIn.l0.eq_2 ..) ?_
    rw [rd_at h3, w64s (by omega), inRange_eq]
    simp only [Option.bind_some, decide_eq_true_eq]
    refine Tot.pos (by omega) (Tot.pos (by omega) (Tot.ite (fun h4 => ?_) (fun h4 => Tot.now ?_)))
    · refine (ih (i + 1) h2).mono ?_
      rintro t rfl
      rw [decide_eq_decide]
      simp only [List.mem_cons, forall_eq_or_imp]
      exact ⟨fun h => ⟨h4, h⟩, fun h => h.2⟩
    · symm
      rw [decide_eq_false_iff_not]
      exact fun h => h4 (h x (by simp))
theorem allIn_tot {xs : List Int} {lo hi : Int} (hl : xs.length ≤ 1000000000000) : Tot (fun k => spec_allIn.f k xs lo hi) (fun t => t = decide (∀ x ∈ xs, lo ≤ x ∧ x ≤ hi)) := by
  unfold spec_allIn.f
  exact allIn_l0 hl xs 0 rfl
theorem specTotal_l0 {xs : List Int} (hl : xs.length ≤ 1000000) (hx : ∀ x ∈ xs, 0 ≤ x ∧ x ≤ 1000000) : ∀ (r : List Int) (i : Nat) (acc : Int), xs.drop i = r → 0 ≤ acc → acc ≤ 1000000 * i →
    Tot (fun k => spec_total.l0 k xs acc i) (fun t => t = acc + sumL r) := by
  intro r
  induction r with
  | nil =>
    intro i acc h _ _
    have := drop_nil h
    exact Tot.step (fun _ => spec_total.l0.eq_2 ..) (Tot.neg (by omega) (Tot.now (by simp [sumL])))
  | cons x r ih =>
    intro i acc h ha ha2
    obtain ⟨h1, h2, h3⟩ := drop_cons h
    have h4 := hx x (List.mem_of_getElem? h3)
    refine Tot.step (fun _ => spec_total.l0.eq_2 ..) ?_
    rw [rd_at h3, w64s (by omega), w64 (x := acc + x) (by omega) (by omega)]
    refine Tot.pos (by omega) (Tot.pos (by omega) ((ih (i + 1) (acc + x) h2 (by omega) (by omega)).mono ?_))
    rintro t rfl
    rw [sumL]; omega
theorem specTotal_tot {xs : List Int} (hl : xs.length ≤ 1000000) (hx : ∀ x ∈ xs, 0 ≤ x ∧ x ≤ 1000000) : Tot (fun k => spec_total.f k xs) (fun t => t = sumL xs) := by
  unfold spec_total.f
  refine (specTotal_l0 hl hx xs 0 0 rfl (Int.le_refl _) (by omega)).mono ?_
  rintro t rfl
  omega
theorem specVB_tot {ws : List Int} {need : Int} (hl : ws.length ≤ 1000000000) : Tot (fun k => spec_validBody.f k ws need) (fun t => t = decide (VB ws need)) := by
  unfold spec_validBody.f
  rw [inRange_eq]
  simp only [Option.bind_some, decide_eq_true_eq]
  refine Tot.ite (fun h => ?_) (fun h => Tot.now (dfalse fun h2 => by have := h2.1; omega))
  refine Tot.bind (allIn_tot (by omega)) ?_
  rintro _ rfl
  simp only [decide_eq_true_eq]
  refine Tot.ite (fun h2 => ?_) (fun h2 => Tot.now (dfalse fun h4 => h2 h4.2.1))
  refine Tot.bind (specTotal_tot (by omega) (fun x hx => ⟨(h2 x hx).1, by have := (h2 x hx).2; omega⟩)) ?_
  rintro _ rfl
  rw [inRange_eq]
  simp only [Option.bind_some]
  refine Tot.now ?_
  rw [decide_eq_decide]
  exact ⟨fun h4 => ⟨by omega, h2, h4.1, h4.2⟩, fun h4 => h4.2.2⟩
theorem copyInts_eq {l : List Int} (h : l.length < 17592186044416) : spec_copyInts.f l = some l := by
  simp [spec_copyInts.f, h]
theorem Tot.bindv {α β : Type} {g : Nat → Option α} {F : Nat → α → Option β} {v : α} {Q : β → Prop} (h : Tot g (fun t => t = v)) (h2 : Tot (fun k => F k v) Q) : Tot (fun k => (g k).bind (F k)) Q :=
  Tot.bind h (fun a ha => by rw [ha]; exact h2)
theorem clone_eq {l : List Int} (h : l.length < 17592186044416) : slices_Clone_int_int.f l = some l := by
  simp [slices_Clone_int_int.f, h]
/-- The dual body. -/
def dual (ws : List Int) (need : Int) : List Int × Int := if VB ws need then (ws, sumL ws - need + 1) else ([], 0)
theorem implDual_tot {ws : List Int} {need : Int} (hl : ws.length ≤ 1000000000) : Tot (fun k => impl_DualBody.f k ws need) (fun t => t = dual ws need) := by
  unfold impl_DualBody.f dual
  refine Tot.bindv (implVB_tot hl) (Tot.ite (fun h => ?_) (fun h => Tot.now (by rw [if_neg (fun h2 => h (decide_eq_true h2))])))
  have h := of_decide_eq_true h
  have hw := h.2.1
  have hb := sumL_bound (l := ws) (fun x hx => ⟨(hw x hx).1, by have := (hw x hx).2; omega⟩)
  have hlen := h.1.2
  have hn := h.2.2
  rw [if_pos h, clone_eq (by omega)]
  refine Tot.known (Tot.bindv (implSum_tot (by omega) (fun x hx => ⟨(hw x hx).1, by have := (hw x hx).2; omega⟩)) (Tot.now ?_))
  rw [w64 (x := sumL ws - need) (by omega) (by omega), w64 (x := sumL ws - need + 1) (by omega) (by omega)]
theorem specDual_tot {ws : List Int} {need : Int} (hl : ws.length ≤ 1000000000) : Tot (fun k => spec_DualBody.f k ws need) (fun t => t = dual ws need) := by
  unfold spec_DualBody.f dual
  refine Tot.bindv (specVB_tot hl) (Tot.ite (fun h => ?_) (fun h => Tot.now (by rw [if_neg (fun h2 => h (decide_eq_true h2))])))
  have h := of_decide_eq_true h
  have hw := h.2.1
  have hb := sumL_bound (l := ws) (fun x hx => ⟨(hw x hx).1, by have := (hw x hx).2; omega⟩)
  have hlen := h.1.2
  have hn := h.2.2
  rw [if_pos h, copyInts_eq (by omega)]
  refine Tot.known (Tot.bindv (specTotal_tot (by omega) (fun x hx => ⟨(hw x hx).1, by have := (hw x hx).2; omega⟩)) (Tot.now ?_))
  rw [w64 (x := sumL ws - need) (by omega) (by omega), w64 (x := sumL ws - need + 1) (by omega) (by omega)]
theorem toIntS_l0 {xs : List Int} (hl : xs.length ≤ 1000000000000) : ∀ (d i : Nat), i + d = xs.length →
    Tot (fun k => laws_toIntS.l0 k xs (xs.take i ++ List.replicate d 0) i) (fun t => t = xs) := by
  intro d
  induction d with
  | zero =>
    intro i hi
    exact Tot.step (fun _ => laws_toIntS.l0.eq_2 ..) (Tot.neg (by omega) (Tot.now (by rw [List.replicate_zero, List.append_nil]; exact List.take_of_length_le (by omega))))
  | succ d ih =>
    intro i hi
    refine Tot.step (fun _ => laws_toIntS.l0.eq_2 ..) ?_
    rw [rd_get (by omega), w64s (by omega), Int.toNat_natCast, set_fill (by omega)]
    exact Tot.pos (by omega) (Tot.pos (by omega) (Tot.pos (by rw [List.length_append, List.length_replicate, List.length_take]; omega) (ih (i + 1) (by omega))))
theorem toIntS_tot {xs : List Int} (hl : xs.length ≤ 1000000000000) : Tot (fun k => laws_toIntS.f k xs) (fun t => t = xs) := by
  unfold laws_toIntS.f
  refine Tot.pos (by omega) (Tot.pos (by omega) ?_)
  rw [Int.toNat_natCast]
  have := toIntS_l0 hl xs.length 0 (by omega)
  rw [List.take_zero, List.nil_append] at this
  exact this
theorem eqIntS_l0 {a b : List Int} (hl : a.length = b.length) (ha : a.length ≤ 1000000000000) : ∀ (r s : List Int) (i : Nat), a.drop i = r → b.drop i = s →
    Tot (fun k => laws_eqIntS.l0 k a b i) (fun t => t = decide (r = s)) := by
  intro r
  induction r with
  | nil =>
    intro s i h h2
    have h3 := drop_nil h
    have h4 : s = [] := by rw [← h2]; exact List.drop_eq_nil_of_le (by omega)
    exact Tot.step (fun _ => laws_eqIntS.l0.eq_2 ..) (Tot.neg (by omega) (Tot.now (by simp [h4])))
  | cons x r ih =>
    intro s i h h2
    obtain ⟨h3, h4, h5⟩ := drop_cons h
    cases s with
    | nil => have := drop_nil h2; omega
    | cons y s =>
      obtain ⟨g3, g4, g5⟩ := drop_cons h2
      refine Tot.step (fun _ => laws_eqIntS.l0.eq_2 ..) ?_
      rw [rd_at h5, rd_at g5, w64s (by omega)]
      refine Tot.pos (by omega) (Tot.pos (by omega) (Tot.pos (by omega) (Tot.ite (fun e => ?_) (fun e => Tot.now (by simp [e])))))
      refine (ih s (i + 1) h4 g4).mono ?_
      rintro t rfl
      simp [e]
theorem eqIntS_tot {a b : List Int} (ha : a.length ≤ 1000000000000) : Tot (fun k => laws_eqIntS.f k a b) (fun t => t = decide (a = b)) := by
  unfold laws_eqIntS.f
  refine Tot.ite (fun h => ?_) (fun h => Tot.now ?_)
  · exact eqIntS_l0 (by omega) ha a b 0 rfl rfl
  · symm
    rw [decide_eq_false_iff_not]
    rintro rfl
    exact h rfl
theorem szIntS_eq {l : List Int} (hl : l.length ≤ maxLen) {a : Int} (ha : 0 ≤ a) (ha2 : a ≤ 1048576) : laws_szIntS.f l a = some (if a - (l.length : Int) < 0 then -1 else a - (l.length : Int)) := by
  unfold maxLen at hl
  unfold laws_szIntS.f
  rw [w64 (x := a - (l.length : Int)) (by omega) (by omega)]
  split <;> rfl
theorem szBody_eq {l : List Int} {n : Int} (hl : l.length ≤ maxLen) {a : Int} (ha : 0 ≤ a) (ha2 : a ≤ 1048576) : laws_szBody.f l n a = some (if a - (l.length : Int) < 0 then -1 else a - (l.length : Int)) := by
  unfold laws_szBody.f
  rw [szIntS_eq hl ha ha2]
  simp only [Option.bind_some]
  by_cases h : a - (l.length : Int) < 0
  · rw [if_pos h, if_pos (by omega)]
  · rw [if_neg h, if_neg h]
theorem toBody_tot {l : List Int} {n : Int} (hl : l.length ≤ 1000000000) : Tot (fun k => laws_toBody.f k l n) (fun t => t = (l, n)) := by
  unfold laws_toBody.f
  refine Tot.bind (toIntS_tot (by omega)) ?_
  rintro _ rfl
  exact Tot.now rfl
theorem eqBody_tot {l : List Int} {n : Int} (hl : l.length ≤ 1000000000) : Tot (fun k => laws_eqBody.f k l n l n) (fun t => t = true) := by
  unfold laws_eqBody.f
  refine Tot.bind (eqIntS_tot (by omega)) ?_
  rintro _ rfl
  exact Tot.pos (by simp) (Tot.pos rfl (Tot.now rfl))
theorem markIntS_l0 : ∀ (d i : Nat) (xs : List Int) (m : Int), xs.length ≤ 1000000000000 → 0 ≤ m → m + d ≤ 1000000000000 → i + d = xs.length →
    Tot (fun k => laws_markIntS.l0 k xs m i) (fun t => t = (m + d, xs.take i ++ ramp m d)) := by
  intro d
  induction d with
  | zero =>
    intro i xs m hl hm hm2 hi
    refine Tot.step (fun _ => laws_markIntS.l0.eq_2 ..) (Tot.neg (by omega) (Tot.now ?_))
    rw [List.take_of_length_le (by omega)]
    simp [ramp]
  | succ d ih =>
    intro i xs m hl hm hm2 hi
    refine Tot.step (fun _ => laws_markIntS.l0.eq_2 ..) ?_
    rw [w64s (by omega), w64 (x := m + 1) (by omega) (by omega), Int.toNat_natCast]
    refine Tot.pos (by omega) (Tot.pos (by omega) ((ih (i + 1) _ (m + 1) (by simp; omega) (by omega) (by omega) (by simp; omega)).mono ?_))
    rintro t rfl
    rw [take_set_succ (by omega)]
    simp [ramp]
    omega
theorem markIntS_tot {xs : List Int} (hl : xs.length ≤ 100000000000) {m : Int} (hm : 0 ≤ m) (hm2 : m ≤ 100000000000) : Tot (fun k => laws_markIntS.f k xs m) (fun t => t = (m + xs.length, ramp m xs.length)) := by
  unfold laws_markIntS.f
  refine (markIntS_l0 xs.length 0 xs m (by omega) hm (by omega) (by omega)).mono ?_
  rintro t rfl
  simp
theorem heldIntS_l0 {xs : List Int} (hl : xs.length ≤ 1000000000000) : ∀ (d i : Nat) (m : Int), 0 ≤ m → m + d ≤ 1000000000000 → i + d = xs.length → xs.drop i = ramp m d →
    Tot (fun k => laws_heldIntS.l0 k xs m i) (fun t => t = m + d) := by
  intro d
  induction d with
  | zero =>
    intro i m hm hm2 hi h
    exact Tot.step (fun _ => laws_heldIntS.l0.eq_2 ..) (Tot.neg (by omega) (Tot.now (by simp)))
  | succ d ih =>
    intro i m hm hm2 hi h
    rw [ramp] at h
    obtain ⟨h3, h4, h5⟩ := drop_cons h
    refine Tot.step (fun _ => laws_heldIntS.l0.eq_2 ..) ?_
    rw [w64s (by omega), w64 (x := m + 1) (by omega) (by omega), rd_at h5]
    refine Tot.pos (by omega) (Tot.pos (by omega) (Tot.pos rfl ((ih (i + 1) (m + 1) (by omega) (by omega) (by omega) h4).mono ?_)))
    rintro t rfl
    omega
theorem heldIntS_tot {n : Nat} (hl : n ≤ 100000000000) {m : Int} (hm : 0 ≤ m) (hm2 : m ≤ 100000000000) : Tot (fun k => laws_heldIntS.f k (ramp m n) m) (fun t => t = m + n) := by
  unfold laws_heldIntS.f
  have h := ramp_length m n
  exact heldIntS_l0 (by omega) n 0 m hm (by omega) (by omega) rfl
theorem dual_len (ws : List Int) (need : Int) : (dual ws need).1.length ≤ ws.length := by
  unfold dual
  split
  · exact Nat.le_refl _
  · simp
theorem markBody_tot {l : List Int} {n : Int} (hl : l.length ≤ 100000000) : Tot (fun k => laws_markBody.f k l n 1) (fun t => t = (1 + (l.length : Int), ramp 1 l.length)) := by
  unfold laws_markBody.f
  exact Tot.bindv (markIntS_tot (by omega) (by omega) (by omega)) (Tot.now rfl)
theorem heldBody_tot {m : Nat} {n : Int} (hl : m ≤ 100000000) : Tot (fun k => laws_heldBody.f k (ramp 1 m) n 1) (fun t => t = 1 + (m : Int)) := by
  unfold laws_heldBody.f
  exact Tot.bindv (heldIntS_tot (by omega) (by omega) (by omega)) (Tot.neg (by omega) (Tot.now rfl))
theorem FnExactDualBody : ∀ (ws : List Int) (need : Int), ws.length ≤ maxLen → (∀ x ∈ ws, (Lit.int .i64 x).wf = true) → (Lit.int .i64 need).wf = true → ∃ k, laws_FnExactDualBody.f k ws need = some true := by
  intro ws need hl _ _
  refine Tot.ends (g := fun k => laws_FnExactDualBody.f k ws need) ?_
  unfold laws_FnExactDualBody.f
  rw [szBody_eq hl (by omega) (by omega)]
  by_cases h0 : (1048576 : Int) - (ws.length : Int) < 0
  · rw [if_pos h0]
    exact Tot.known (Tot.pos (by omega) (Tot.now rfl))
  rw [if_neg h0]
  refine Tot.known (Tot.neg (by omega) ?_)
  have hd := dual_len ws need
  refine Tot.bindv (toBody_tot (by omega)) (Tot.bindv (specDual_tot (by first | omega | (dsimp only; omega))) (Tot.bindv (toBody_tot (by omega)) (Tot.bindv (implDual_tot (by first | omega | (dsimp only; omega))) ?_)))
  dsimp only
  have again := implDual_tot (ws := ws) (need := need) (by omega)
  rcases hdd : dual ws need with ⟨d, n⟩
  rw [hdd] at hd again
  dsimp only at hd ⊢
  refine Tot.bindv (eqBody_tot (by omega)) (Tot.pos rfl ?_)
  refine Tot.bindv (toBody_tot (by omega)) (Tot.bindv (eqBody_tot (by omega)) (Tot.pos rfl ?_))
  refine Tot.bindv (markBody_tot (by omega)) (Tot.neg (by omega) ?_)
  refine Tot.bindv (eqBody_tot (by omega)) ?_
  refine Tot.step (fun _ => laws_FnExactDualBody.j0.eq_2 ..) (Tot.neg (by decide) ?_)
  refine Tot.bindv (markBody_tot (by omega)) ?_
  dsimp only
  refine Tot.bindv (heldBody_tot (by omega)) (Tot.neg (by omega) (Tot.pos rfl ?_))
  refine Tot.bindv (toBody_tot (by omega)) (Tot.bindv again (Tot.bindv (eqBody_tot (by first | omega | (dsimp only; omega))) (Tot.pos rfl ?_)))
  refine Tot.bindv (heldBody_tot (by omega)) ?_
  exact Tot.neg (by omega) (Tot.pos rfl (Tot.now rfl))
end Go.Proofs.Ytlghjnmfccifeaa.Pure
